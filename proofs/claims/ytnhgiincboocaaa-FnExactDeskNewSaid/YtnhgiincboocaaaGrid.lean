/- impl.GridNet, by hand. -/
import Derived.Test.YtnhgiincboocaaaProg
import Derived.Test.YtnhgiincboocaaaVFnExactDeskNew
import Derived.WalkKit
import Derived.KernelRfl
import Derived.RowKit3
import Derived.Deep.LoopGhost
import Derived.Deep.QuietTactic
import Derived.BigQuiet
import Derived.Deep.DeepCutAuto
import Derived.Deep.CutBlock
import Derived.Deep.RegionHeld3
import Derived.BigRegion
import Derived.WalkSpells
import Derived.WalkLawsBesides
import Derived.Laws.BitsLemmas
import Derived.RowKit
import Derived.Lib.Hide
import Derived.Lib.SliceRun
namespace Go.Proofs.YtnhgiincboocaaaGrid
open Go.RowKit Go.Proofs.YtnhgiincboocaaaW.PrintWords Go.Proofs.YtnhgiincboocaaaW.PrintLast Go.Proofs.YtnhgiincboocaaaW.PrintMore
set_option maxHeartbeats 1000000 in
set_option maxRecDepth 100000 in
theorem join_any (P B n cap a b : Nat) (xa xb : Int) (w : World) (ha : a < n) (hb : b < n) (hn : n ≤ 6)
    (hne : ¬ a = b) (hPB : ¬ P = B)
    (hP : w.cell? ⟨P, 0, none⟩ = some (.slice (some ⟨B, 0, none⟩) n cap))
    (hA : w.cell? ⟨B, a, none⟩ = some (.int .i64 xa)) (hB : w.cell? ⟨B, b, none⟩ = some (.int .i64 xb))
    (fA : w.frozen? ⟨B, a, none⟩ = false) (fB : w.frozen? ⟨B, b, none⟩ = false) :
    Calls Try.prog 51 #[.int .i64 a, .int .i64 b, .pointer (some ⟨P, 0, none⟩)] w fun e w' =>
      e = .returned (.tuple #[]) ∧ ∃ m, w' = ((w.setCell ⟨B, a, none⟩ (.int .i64 (Go.bits .or .i64 xa (wrap64 (2 ^ b))))).setCell ⟨B, b, none⟩ (.int .i64 (Go.bits .or .i64 xb (wrap64 (2 ^ a))))).drewN m := by
  obtain ⟨w1, hw1⟩ : ∃ w1 : World, w.setCell ⟨B, a, none⟩ (.int .i64 (Go.bits .or .i64 xa (wrap64 (2 ^ b)))) = w1 := ⟨_, rfl⟩
  have hP2 : w1.cell? ⟨P, 0, none⟩ = some (.slice (some ⟨B, 0, none⟩) n cap) := by
    rw [← hw1, World.cell?_setCell_other _ _ _ _ (by intro h; injection h with h1 h2; exact hPB h1.symm)]; exact hP
  have hB2 : w1.cell? ⟨B, b, none⟩ = some (.int .i64 xb) := by
    rw [← hw1, World.cell?_setCell_other _ _ _ _ (by intro h; injection h with h1 h2; exact hne h2)]; exact hB
  have fB2 : w1.frozen? ⟨B, b, none⟩ = false := by
    rw [← hw1]; simpa using fB
  have HW1 := Lib.hid hw1
  clear hw1
  go_enter Try.func51, Try.ntmps51
  go_wp2
  go_region
  rw [HW1.out]
  clear hP hA hB fA fB
  go_wp2
  go_region
  all_goals (go_end0; exact ⟨rfl, 2, by rw [HW1.out]; rfl⟩)

/-- What 'join' does to the row. -/
def jn (xs : List Int) (i j : Int) : List Int :=
  (xs.set i.toNat (Go.bits .or .i64 (rd xs i) (wrap64 (2 ^ j.toNat)))).set j.toNat (Go.bits .or .i64 (rd xs j) (wrap64 (2 ^ i.toNat)))
theorem jn_length (xs : List Int) (i j : Int) : (jn xs i j).length = xs.length := by simp [jn]

def JoinPost (P B n cap : Nat) (base : Nat) (xs : List Int) (w0 : World) (w' : World) : Prop :=
  Kd.R (Kd.int .i64) 3 w' base (fun _ => True) (.slice (some ⟨B, 0, none⟩) n cap) xs ∧ w'.cell? ⟨P, 0, none⟩ = some (.slice (some ⟨B, 0, none⟩) n cap) ∧ Below w0.heap.size w0 w' ∧ P < w'.heap.size

theorem join_R (P B n cap base : Nat) (i j : Int) (xs : List Int) (w0 w : World) (hi0 : 0 ≤ i) (hi : i < n) (hj0 : 0 ≤ j) (hj : j < n) (hn : n ≤ 6)
    (hne : ¬ i = j) (hPB : ¬ P = B) (hB0 : w0.heap.size ≤ B) (H : JoinPost P B n cap base xs w0 w) :
    Calls Try.prog 51 #[.int .i64 i, .int .i64 j, .pointer (some ⟨P, 0, none⟩)] w fun e w' =>
      e = .returned (.tuple #[]) ∧ JoinPost P B n cap base (jn xs i j) w0 w' := by
  obtain ⟨HO, hP, HB, hPs⟩ := H
  obtain ⟨a, rfl⟩ := Int.eq_ofNat_of_zero_le hi0
  obtain ⟨b, rfl⟩ := Int.eq_ofNat_of_zero_le hj0
  have hA := Kd.R_celln 0 HO (a : Int) hi0 hi
  have hBb := Kd.R_celln 0 HO (b : Int) hj0 hj
  refine (join_any P B n cap a b (rd xs a) (rd xs b) w (by omega) (by omega) hn (by omega) hPB hP hA.1 hBb.1 hA.2 hBb.2).mono ?_
  rintro e w' ⟨rfl, m, rfl⟩
  refine ⟨rfl, ?_, ?_, ?_, ?_⟩
  · exact Kd.R_drewN (Kd.R_putn (Kd.R_putn HO (a : Int) _) (b : Int) _) _
  · show World.cell? _ _ = _
    rw [World.cell?_drewN]
    rw [World.cell?_setCell_other _ _ _ _ (by intro h; injection h with h1 h2; exact hPB h1.symm), World.cell?_setCell_other _ _ _ _ (by intro h; injection h with h1 h2; exact hPB h1.symm)]
    exact hP
  · exact pw_below_drewN (below_set (below_set HB hB0) hB0) _
  · simpa using hPs

def gstep1 (c : Int) (xs : List Int) (k : Int) : List Int := if k % c < c - 1 then jn xs k (k + 1) else xs
def gstep2 (r c : Int) (xs : List Int) (k : Int) : List Int := if k / c < r - 1 then jn xs k (k + c) else xs
def gridTo (r c : Int) (n : Nat) : Nat → List Int
  | 0 => List.replicate n 0
  | k + 1 => gstep2 r c (gstep1 c (gridTo r c n k) k) k
theorem six {c : Int} (h2 : 1 ≤ c) (h4 : c ≤ 6) : c = 1 ∨ c = 2 ∨ c = 3 ∨ c = 4 ∨ c = 5 ∨ c = 6 := by omega
theorem in1 {r c k : Int} (_h1 : 1 ≤ r) (h2 : 1 ≤ c) (_h3 : r ≤ 6) (h4 : c ≤ 6) (_hk0 : 0 ≤ k) (hk : k < r * c) (h : k % c < c - 1) : k + 1 < r * c := by
  rcases six h2 h4 with rfl | rfl | rfl | rfl | rfl | rfl <;> omega
theorem in2 {r c k : Int} (_h1 : 1 ≤ r) (h2 : 1 ≤ c) (_h3 : r ≤ 6) (h4 : c ≤ 6) (_hk0 : 0 ≤ k) (hk : k < r * c) (h : k / c < r - 1) : k + c < r * c := by
  rcases six h2 h4 with rfl | rfl | rfl | rfl | rfl | rfl <;> omega
theorem div6 {c k : Int} (h2 : 1 ≤ c) (h4 : c ≤ 6) (hk0 : 0 ≤ k) (hk : k ≤ 6) : wrap64 (k / c) = k / c := by
  rcases six h2 h4 with rfl | rfl | rfl | rfl | rfl | rfl <;> (unfold wrap64; omega)
theorem len_to (r c : Int) (n k : Nat) : (gridTo r c n k).length = n := by
  induction k with
  | zero => simp [gridTo]
  | succ k ih => unfold gridTo gstep2 gstep1; split <;> split <;> simp [jn_length, ih]

set_option maxHeartbeats 1000000 in
theorem gridOk_true (r c : Int) (w : World) (h1 : 1 ≤ r) (h2 : 1 ≤ c) (h3 : r ≤ 6) (h4 : c ≤ 6) (h5 : r * c ≤ 6) (h6 : 1 ≤ r * c) :
    Calls Try.prog 50 #[.int .i64 r, .int .i64 c] w fun e w' => e = .returned (.bool true) ∧ w = w' := by
  go_enter Try.func50, Try.ntmps50
  go_wp2
  go_ret
  exact ⟨rfl, rfl⟩
theorem info3 : (Try.prog.info? 3).map (fun i => (i.zero, i.size, i.bytes)) = some (some (.int .i64 0), 1, 8) := by kernel_rfl

set_option maxHeartbeats 2000000 in
set_option maxRecDepth 100000 in
theorem grid_ok (r c : Int) (w : World) (h1 : 1 ≤ r) (h2 : 1 ≤ c) (h3 : r ≤ 6) (h4 : c ≤ 6) (h5 : r * c ≤ 6) (h6 : 1 ≤ r * c) :
    Calls Try.prog 24 #[.int .i64 r, .int .i64 c] w fun e w' => ∃ v0_ : Value, e = .returned (v0_) ∧ Kd.R (Kd.int .i64) 3 w' w.heap.size (fun _ => True) v0_ (gridTo r c (r * c).toNat (r * c).toNat) ∧ Below w.heap.size w w' := by
  have hmf : ∀ (fn : Fn) (first cap : Array Value) (w : World), (Instr.makeFunc fn first cap).run Try.prog w = .ok (.func fn first cap) w := fun _ _ _ _ => rfl
  have hu22 := Try.underlying22
  go_enter Try.func24, Try.ntmps24
  go_wp2_with fail
  refine (gridOk_true r c _ h1 h2 h3 h4 h5 h6).mono ?_; rintro e w' ⟨rfl, rfl⟩
  have hn6 : (r * c).toNat ≤ 6 := by omega
  have hnr : ((r * c).toNat : Int) = r * c := by omega
  obtain ⟨n, hn⟩ : ∃ n : Nat, (r * c).toNat = n := ⟨_, rfl⟩
  have Hnr := Lib.hid hnr
  clear hnr
  rw [hn] at hn6
  have Hn := Lib.hid hn
  clear hn
  go_wp2_with ((with_reducible refine gate_dst (N := 15) rfl ?_); refine Kd.R_make (Kd.int .i64) _ 3 rfl (N := 15) rfl 22 _ _ rfl (r * c) rfl rfl Try.underlying22 (.int .i64 0) 8 info3 rfl (by decide) (by omega) 0 (ok := fun _ => True) (okp := fun _ => True) rfl (fun _ hk => hk) trivial (by omega) (by omega) (Below.refl _ _) (Nat.le_refl _) ?_; intro v1 w1 ho1 hb hg_ hnew_; rw [Hn.out] at ho1; have hpos : 0 < n := (by have := Hn.out; omega); obtain ⟨B, cap, hv, hB0, hBlt, cells, hcells⟩ := Kd.R_form ho1 (by simpa using hpos); rw [List.length_replicate] at hv; subst hv; clear hcells cells hg_ hnew_; have HO := Aside0.mk ho1; have HB := Aside0.mk hb; have HB0 := Aside0.mk hB0; have HBL := Aside0.mk hBlt; clear ho1 hb hB0 hBlt)
  have HJ : Aside0 (JoinPost w1.heap.size B n cap w.heap.size (List.replicate n 0) w (w1.alloc (Obj.cells #[Value.slice (some { block := B, off := 0 }) n cap] 22))) := by
    refine ⟨⟨Kd.R_alloc HO.out _, ?_, below_alloc HB.out _, by show _ < (w1.heap.push _).size; rw [Array.size_push]; omega⟩⟩
    exact (World.cell?_alloc_new _ _ _ _).trans rfl
  have hPB : ¬ w1.heap.size = B := by have := HBL.out; omega
  have hpos : 0 < n := by have := Hn.out; omega
  clear HO
  generalize w1.alloc (Obj.cells #[Value.slice (some { block := B, off := 0 }) n cap] 22) = w2 at *
  generalize w1.heap.size = P at *
  have hB0 := HB0.out
  have hm : 0 < (n : Int) := by omega
  go_loopw [19] (fun v19 wr => ∃ k : Nat, k ≤ n ∧ v19 = .int .i64 k ∧ Aside0 (JoinPost P B n cap w.heap.size (gridTo r c n k) w wr)) (fun v19 _ => n - (intOf v19).toNat)
  case atStart => exact ⟨0, by omega, rfl, HJ⟩
  case round =>
    obtain ⟨k, hk, rfl, HJ'⟩ := hrel
    clear HJ
    by_cases hlt : k < n
    · have hk6 : (k : Int) ≤ 6 := by omega
      have hlt' : (k : Int) < (n : Int) := by omega
      have hk0 : (0 : Int) ≤ k := by omega
      have hdv := div6 h2 h4 hk0 hk6
      have hrc : (n : Int) = r * c := by have := Hn.out; have := Hnr.out; omega
      by_cases t1 : (k : Int) % c < c - 1
      · have g1 : (k : Int) + 1 < n := by rw [hrc]; exact in1 h1 h2 h3 h4 hk0 (by omega) t1
        by_cases t2 : (k : Int) / c < r - 1
        · have g2 : (k : Int) + c < n := by rw [hrc]; exact in2 h1 h2 h3 h4 hk0 (by omega) t2
          have hs := Lib.hid (show gridTo r c n (k + 1) = jn (jn (gridTo r c n k) k (k + 1)) k (k + c) by simp only [gridTo, gstep2, gstep1]; rw [if_pos t1, if_pos t2])
          clear hrc
          go_wp2_with fail
          refine (join_R P B n cap _ k (k + 1) _ w wr hk0 hlt' (by omega) g1 hn6 (by omega) hPB hB0 HJ'.out).mono ?_
          rintro e w3 ⟨rfl, HJ3⟩
          clear HJ'
          replace HJ3 := Aside0.mk HJ3
          go_wp2_with fail
          refine (join_R P B n cap _ k (k + c) _ w w3 hk0 hlt' (by omega) g2 hn6 (by omega) hPB hB0 HJ3.out).mono ?_
          rintro e w4 ⟨rfl, HJ4⟩
          clear HJ3
          replace HJ4 := Aside0.mk HJ4
          go_wp2
          go_roundw
          case rel => exact ⟨k + 1, by omega, by go_num, by rw [hs.out]; exact HJ4⟩
          case measure => simp [intOf]; omega
        · have hs := Lib.hid (show gridTo r c n (k + 1) = jn (gridTo r c n k) k (k + 1) by simp only [gridTo, gstep2, gstep1]; rw [if_pos t1, if_neg t2])
          clear hrc
          go_wp2_with fail
          refine (join_R P B n cap _ k (k + 1) _ w wr hk0 hlt' (by omega) g1 hn6 (by omega) hPB hB0 HJ'.out).mono ?_
          rintro e w3 ⟨rfl, HJ3⟩
          clear HJ'
          replace HJ3 := Aside0.mk HJ3
          go_wp2
          go_roundw
          case rel => exact ⟨k + 1, by omega, by go_num, by rw [hs.out]; exact HJ3⟩
          case measure => simp [intOf]; omega
      · by_cases t2 : (k : Int) / c < r - 1
        · have g2 : (k : Int) + c < n := by rw [hrc]; exact in2 h1 h2 h3 h4 hk0 (by omega) t2
          have hs := Lib.hid (show gridTo r c n (k + 1) = jn (gridTo r c n k) k (k + c) by simp only [gridTo, gstep2, gstep1]; rw [if_neg t1, if_pos t2])
          clear hrc
          go_wp2_with fail
          refine (join_R P B n cap _ k (k + c) _ w wr hk0 hlt' (by omega) g2 hn6 (by omega) hPB hB0 HJ'.out).mono ?_
          rintro e w4 ⟨rfl, HJ4⟩
          clear HJ'
          replace HJ4 := Aside0.mk HJ4
          go_wp2
          go_roundw
          case rel => exact ⟨k + 1, by omega, by go_num, by rw [hs.out]; exact HJ4⟩
          case measure => simp [intOf]; omega
        · have hs := Lib.hid (show gridTo r c n (k + 1) = gridTo r c n k by simp only [gridTo, gstep2, gstep1]; rw [if_neg t1, if_neg t2])
          clear hrc
          go_wp2
          go_roundw
          case rel => exact ⟨k + 1, by omega, by go_num, by rw [hs.out]; exact HJ'⟩
          case measure => simp [intOf]; omega
    · have hkn : k = n := by omega
      have HK := Lib.hid hkn
      clear hkn
      have hPc := HJ'.out.2.1
      have hnl : ¬ ((k : Int) < n) := by omega
      go_wp2
      go_ret
      have hkn := HK.out
      refine ⟨_, rfl, ?_, HJ'.out.2.2.1⟩
      have := HJ'.out.1
      rw [hkn] at this
      have hrc := Hn.out
      rw [← hrc] at this ⊢
      exact this

set_option maxHeartbeats 1000000 in
theorem gridOk_false (r c : Int) (w : World) (h : ¬ (1 ≤ r ∧ 1 ≤ c ∧ r ≤ 6 ∧ c ≤ 6 ∧ r * c ≤ 6)) :
    Calls Try.prog 50 #[.int .i64 r, .int .i64 c] w fun e w' => e = .returned (.bool false) ∧ w = w' := by
  by_cases h1 : 1 ≤ r
  · by_cases h2 : 1 ≤ c
    · by_cases h3 : r ≤ 6
      · by_cases h4 : c ≤ 6
        · have h5 : 6 < r * c := by
            by_cases h5 : r * c ≤ 6
            · exact absurd ⟨h1, h2, h3, h4, h5⟩ h
            · omega
          have h7 : decide (r * c ≤ 6) = false := decide_eq_false (by omega)
          have h6 : r * c ≤ 36 := by rcases six h2 h4 with rfl | rfl | rfl | rfl | rfl | rfl <;> omega
          clear h
          go_enter Try.func50, Try.ntmps50
          go_wp2
          go_ret
          exact ⟨rfl, rfl⟩
        · clear h
          have h4' : 6 < c := by omega
          go_enter Try.func50, Try.ntmps50
          go_wp2
          go_ret
          exact ⟨rfl, rfl⟩
      · clear h
        have h3' : 6 < r := by omega
        go_enter Try.func50, Try.ntmps50
        go_wp2
        go_ret
        exact ⟨rfl, rfl⟩
    · clear h
      have h2' : c < 1 := by omega
      go_enter Try.func50, Try.ntmps50
      go_wp2
      go_ret
      exact ⟨rfl, rfl⟩
  · clear h
    have h1' : r < 1 := by omega
    go_enter Try.func50, Try.ntmps50
    go_wp2
    go_ret
    exact ⟨rfl, rfl⟩

set_option maxHeartbeats 1000000 in
set_option maxRecDepth 100000 in
theorem grid_no (r c : Int) (w : World) (h : ¬ (1 ≤ r ∧ 1 ≤ c ∧ r ≤ 6 ∧ c ≤ 6 ∧ r * c ≤ 6)) :
    Calls Try.prog 24 #[.int .i64 r, .int .i64 c] w fun e w' => e = .returned (.slice none 0 0) ∧ w = w' := by
  have H := Lib.hid h
  clear h
  go_enter Try.func24, Try.ntmps24
  go_wp2_with fail
  refine (gridOk_false r c _ H.out).mono ?_; rintro e w' ⟨rfl, rfl⟩
  go_wp2
  go_ret
  exact ⟨rfl, rfl⟩

/-- What GridNet returns. -/
def grid (r c : Int) : List Int := if 1 ≤ r ∧ 1 ≤ c ∧ r ≤ 6 ∧ c ≤ 6 ∧ r * c ≤ 6 then gridTo r c (r * c).toNat (r * c).toNat else []

theorem grid_len_pos {r c : Int} (h : 1 ≤ r ∧ 1 ≤ c ∧ r ≤ 6 ∧ c ≤ 6 ∧ r * c ≤ 6) : 1 ≤ r * c := by
  obtain ⟨h1, h2, h3, h4, h5⟩ := h
  rcases six h2 h4 with rfl | rfl | rfl | rfl | rfl | rfl <;> omega

theorem grid_calls (a0 a1 : Int) (r : List Int) (w : World) (h : some (grid a0 a1) = some r) :
    Calls Try.prog 24 #[.int .i64 a0, .int .i64 a1] w fun e w' => ∃ v0_ : Value, e = .returned (v0_) ∧ Kd.R (Kd.int .i64) 3 w' w.heap.size (fun _ => True) v0_ r ∧ Below w.heap.size w w' := by
  injection h with h
  by_cases hc : 1 ≤ a0 ∧ 1 ≤ a1 ∧ a0 ≤ 6 ∧ a1 ≤ 6 ∧ a0 * a1 ≤ 6
  · unfold grid at h
    rw [if_pos hc] at h
    subst h
    exact grid_ok a0 a1 w hc.1 hc.2.1 hc.2.2.1 hc.2.2.2.1 hc.2.2.2.2 (grid_len_pos hc)
  · unfold grid at h
    rw [if_neg hc] at h
    subst h
    refine (grid_no a0 a1 w hc).mono ?_
    rintro e w' ⟨rfl, rfl⟩
    exact ⟨_, rfl, Kd.R_nil _ _ _ _ _, Below.refl _ _⟩

theorem grid_empty {r c : Int} (h : grid r c = []) : ¬ (1 ≤ r ∧ 1 ≤ c ∧ r ≤ 6 ∧ c ≤ 6 ∧ r * c ≤ 6) := by
  intro hc
  have h6 := grid_len_pos hc
  unfold grid at h
  rw [if_pos hc] at h
  have := len_to r c (r * c).toNat (r * c).toNat
  rw [h] at this
  simp at this
  omega

theorem eql_nil_of {α : Type} {d : Kd α} {e : Nat} {w : World} {base : Nat} {ok : Nat → Prop} {v : Value} {xs : List α} (ho : d.R e w base ok v xs) (hx : xs ≠ []) (W : World) :
    (binOp .eql 22 v (.slice none 0 0)).run Try.prog W = .ok (.bool false) W := by
  obtain ⟨g, cap, rfl, _⟩ := Kd.R_form ho (by cases xs with | nil => exact absurd rfl hx | cons => simp)
  exact Lib.run_eql_slice_nil W _ _ _ _ _ _ _ Try.underlying22

set_option maxHeartbeats 1000000 in
set_option maxRecDepth 100000 in
theorem sw_empty (a0 a1 : Int) (A2 : Option Addr) (n c2 : Nat) (w : World) (h : grid a0 a1 = []) :
    Calls Try.prog 18 #[.int .i64 a0, .int .i64 a1, .slice A2 n c2] w fun e w' => ∃ v0_ : Value, e = .returned (v0_) ∧ Kd.R (Kd.int .i64) 3 w' w.heap.size (fun _ => True) v0_ [] ∧ Below w.heap.size w w' := by
  have HG := Lib.hid (grid_empty h)
  clear h
  have hnil : ∀ W : World, (binOp .eql 22 (.slice none 0 0) (.slice none 0 0)).run Try.prog W = .ok (.bool true) W := fun W => Lib.run_eql_slice_nil W _ _ _ _ _ _ _ Try.underlying22
  go_enter Try.func18, Try.ntmps18
  go_wp2_with fail
  refine (grid_no a0 a1 _ HG.out).mono ?_; rintro e w' ⟨rfl, rfl⟩
  go_wp2
  go_ret
  exact ⟨_, rfl, Kd.R_nil _ _ _ _ _, Below.refl _ _⟩
end Go.Proofs.YtnhgiincboocaaaGrid
