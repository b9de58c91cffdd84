-- written by wip/tools/pstub.py (my own program, over the kit's print)
import Derived.Test.YtnhgiincboocaaaPFnDeskOkx0
namespace Go.Proofs.Ytnhgiincboocaaa.PFnDeskOk
open Go.RowKit Go.Proofs.YtnhgiincboocaaaW.PrintWords Go.Proofs.YtnhgiincboocaaaW.PrintLast Go.Proofs.YtnhgiincboocaaaW.PrintMore
attribute [local go_sem] max2_int min2_int max_two min_two max_three min_three max_four min_four   -- for this text's walks alone
set_option linter.unusedVariables false
set_option linter.unusedSimpArgs false

/-! ### spec_l1Number: function 79 -/
def spec_l1Number.f : Nat → Int → Option (ByteArray)
 | 0, _ => none
 | k + 1, a0 => if a0 < 10 then (some (strOfNums (([(wrap64 (48 + (mx a0 0))) % 256] : List Int)))) else ((spec_l1Number.f k (wrap64 (Int.tdiv a0 10))).bind fun t336 => ((some (([(wrap64 (48 + (Int.tmod a0 10))) % 256] : List Int) : List Int)).bind fun y337 => (if t336.size + (strOfNums y337).size ≤ 9223372036854775807 then (some (t336 ++ (strOfNums y337))) else (none))))
theorem spec_l1Number.mono_l : ∀ k, (∀ y0, LeO (spec_l1Number.f k y0) (spec_l1Number.f (k + 1) y0))
 | 0 => fun _ r h => by simp [spec_l1Number.f] at h
 | k + 1 => by
  have ih0 := spec_l1Number.mono_l k
  ·intro y0
   unfold spec_l1Number.f
   repeat' first | (with_reducible first | exact ih0 _ | exact LeO.refl _ | exact LeO.none _ | refine LeO.ite ?_ ?_ | refine LeO.bind ?_ (fun _ => ?_)) | exact LeO.none _ | refine LeO.ite ?_ ?_ | refine LeO.bind ?_ (fun _ => ?_)
theorem spec_l1Number.mono : ∀ a0 k, LeO (spec_l1Number.f k a0) (spec_l1Number.f (k + 1) a0) := by
 intro a0 k
 have ih0 := spec_l1Number.mono_l k
 exact ih0 a0
def spec_l1Number.T3 : Bool × List (List Nat × List Nat) := (true, [([], []), ([0], [0]), ([1], [1]), ([], []), ([3], [3]), ([4], [4]), ([5], [5]), ([6], [6]), ([7], [7]), ([2, 8], [2, 8]), ([9, 2, 0, 1, 2, 3, 4, 5, 6, 7, 8, 9], [9])])
def spec_l1Number.B3 : List Nat := [0, 1, 3, 0, 8, 24, 56, 120, 248, 511, 1023]
theorem spec_l1Number.tab3 : rtab .any (opsOf Try.f79 3) = spec_l1Number.T3 := by kernel_rfl
theorem spec_l1Number.bits3 : waitsOk spec_l1Number.T3.2 spec_l1Number.B3 = true := by kernel_rfl
set_option maxHeartbeats 8000000 in
set_option maxRecDepth 100000 in
theorem spec_l1Number.calls (k : Nat) : ∀ (a0 : Int) (r : ByteArray) (w : World) (h : spec_l1Number.f k a0 = some r),
  Calls Try.prog 79 #[.int .i64 a0] w fun e w' => e = .returned (.string r) ∧ Below w.heap.size w w' := by
 induction k using Nat.strongRecOn with
 | _ k ih =>
 intro a0 r w h
 cases k with
 | zero => exact absurd h (by simp [spec_l1Number.f])
 | succ k =>
 simp only [spec_l1Number.f] at h
 have HB := Aside0.mk (Below.refl w.heap.size w)
 have H : (if a0 < 10 then (some (strOfNums (([(wrap64 (48 + (mx a0 0))) % 256] : List Int)))) else ((spec_l1Number.f k (wrap64 (Int.tdiv a0 10))).bind fun t336 => ((some (([(wrap64 (48 + (Int.tmod a0 10))) % 256] : List Int) : List Int)).bind fun y337 => (if t336.size + (strOfNums y337).size ≤ 9223372036854775807 then (some (t336 ++ (strOfNums y337))) else (none))))) = some r := h
 clear h
 by_cases c2 : a0 < 10
 ·rw [if_pos c2] at H
  have c2b0 : decide (a0 < 10) = true := decide_eq_true c2
  clear c2
  obtain ⟨ji3, hji3⟩ : ∃ j_ : Int, (mx a0 0) = j_ := ⟨_, rfl⟩
  replace H : (some (strOfNums (([(wrap64 (48 + (ji3))) % 256] : List Int)))) = some r := by first | (rw [hji3] at H; exact H) | (simp only [hji3] at H ⊢; exact H)
  (try (have hji3l : 0 ≤ ji3 := by (rw [← hji3]; unfold mx; (repeat' split) <;> omega)))
  (try (have hji3m : 0 ≤ ji3 := by omega))
  have hji3_ : (if a0 < 0 then 0 else a0) = ji3 := hji3
  obtain ⟨y333, hy333⟩ : ∃ y_ : List Int, y_ = (([(wrap64 (48 + (ji3))) % 256] : List Int)) := ⟨_, rfl⟩
  replace H : (some (strOfNums y333)) = some r := by first | (rw [hy333]; with_reducible exact H) | (have H2_ := (Option.bind_some _ _).symm.trans H; rw [hy333]; with_reducible exact H2_) | (have H2_ := (Option.bind_some _ _).symm.trans H; with_reducible exact H2_) | with_reducible exact H | (rw [hy333]; exact H) | exact H
  have Ny333 := Aside0.mk hy333
  clear hy333
  obtain rfl := Option.some.inj H
  go_enter Try.func79, Try.ntmps79
  go_wp2_with (first | ((with_reducible refine gate_dst (N := 9) rfl ?_); refine Kd.R_lit (Kd.int .u8) _ 5 ?hg (N := 9) ?hd (xs := ([(wrap64 (48 + (ji3))) % 256] : List Int)) (inner := [.int .u8 ((wrap64 (48 + (ji3))) % 256)]) (ok := fun _ => True) (okp := fun _ => True) ?hr ?hp (fun _ hk => hk) trivial (Below.refl _ _) (Nat.le_refl _) (by simp) ?_; (case hd => rfl); (case hg => rfl); (case hr => first | (go_simp; done) | (go_simp; rfl)); (case hp => exact (Reps.one (show Kd.M (Kd.int .u8) _ _ _ ((wrap64 (48 + (ji3))) % 256) [.int .u8 ((wrap64 (48 + (ji3))) % 256)] from rfl) (Reps.none _ _))); intro v334 w4 ho5 hb hg_ hnew_; clear hg_ hnew_; (first | rw [← Ny333.out] at ho5 | (simp only [Int.reduceToNat] at ho5; rw [← Ny333.out] at ho5)); have n0_ := Aside0.mk (Kd.R_lower ho5 (below_size (hbq HB.out))); have n1_ := Aside0.mk (below_step (hbq HB.out) hb); clear HB; revert n0_ n1_; intro HO335 HB; clear hb ho5; have hcv6 := own_string (P := Try.prog) Try.underlying43 Try.underlying5 Try.underlying9 (Kd.own_of_R HO335.out)))
  go_ret
  exact ⟨by first | rfl | (simp [errW_none, errW_some] <;> rfl) | (simp only [← hji3]; first | rfl | (simp [errW_none, errW_some] <;> rfl)) | (simp [*, errW_none, errW_some] <;> rfl), hbq HB.out⟩
 ·rw [if_neg c2] at H
  have c2b0 : decide (a0 < 10) = false := decide_eq_false c2
  clear c2
  replace H := Option.bind_eq_some_iff.mp H
  obtain ⟨t336, A70, H⟩ := H
  replace H : ((some (([(wrap64 (48 + (Int.tmod a0 10))) % 256] : List Int) : List Int)).bind fun y337 => (if t336.size + (strOfNums y337).size ≤ 9223372036854775807 then (some (t336 ++ (strOfNums y337))) else (none))) = some r := H
  have A7 := Aside0.mk A70
  clear A70
  obtain ⟨y337, hy337⟩ : ∃ y_ : List Int, y_ = (([(wrap64 (48 + (Int.tmod a0 10))) % 256] : List Int)) := ⟨_, rfl⟩
  replace H : (if t336.size + (strOfNums y337).size ≤ 9223372036854775807 then (some (t336 ++ (strOfNums y337))) else (none)) = some r := by first | (rw [hy337]; with_reducible exact H) | (have H2_ := (Option.bind_some _ _).symm.trans H; rw [hy337]; with_reducible exact H2_) | (have H2_ := (Option.bind_some _ _).symm.trans H; with_reducible exact H2_) | with_reducible exact H | (rw [hy337]; exact H) | exact H
  have Ny337 := Aside0.mk hy337
  clear hy337
  by_cases c8 : t336.size + (strOfNums y337).size ≤ 9223372036854775807
  ·rw [if_pos c8] at H
   have c8b0 := eq_true c8
   have c8b1 : decide (t336.size + (strOfNums y337).size ≤ 9223372036854775807) = true := decide_eq_true c8
   try have c8b2 : (9223372036854775807 < t336.size + (strOfNums y337).size) = False := eq_false (Nat.not_lt.2 c8)
   obtain rfl := Option.some.inj H
   go_enter Try.func79, Try.ntmps79
   try go_wp2
   have n0_ := Aside0.mk (below_drew1 HB.out)
   clear HB
   revert n0_
   intro HB
   refine start_ (n := 11) (S := fun w' => True) (ds := []) #[false, false, false, false, false, false, false, false, false, false, false] (by kernel_rfl) rfl rfl trivial (fun hHeld => ?_); refine with_tabW spec_l1Number.tab3 spec_l1Number.bits3 (fun HT_ HW_ => ?_)
   generalize w.drew = w9 at HB hHeld ⊢
   refine pureq (i := 0) (N := some 11) #[true, false, false, false, false, false, false, false, false, false, false] rfl rfl HT_.out ?_
   refine pureq (i := 1) (N := some 12) #[true, true, false, false, false, false, false, false, false, false, false] rfl rfl HT_.out ?_
   refine pureq (i := 3) (N := some 14) #[true, true, false, true, false, false, false, false, false, false, false] rfl rfl HT_.out ?_
   refine pureq (i := 4) (N := some 15) #[true, true, false, true, true, false, false, false, false, false, false] rfl rfl HT_.out ?_
   refine pureq (i := 5) (N := some 16) #[true, true, false, true, true, true, false, false, false, false, false] rfl rfl HT_.out ?_
   refine pureq (i := 6) (N := some 17) #[true, true, false, true, true, true, true, false, false, false, false] rfl rfl HT_.out ?_
   refine join_ (σ := Value) 2 #[true, true, true, true, true, true, true, true, true, false, false] (fun s_ => [(13, .string t336), (18, s_), (19, .string (strOfNums y337))]) (fun s_ w' => (Kd.R (Kd.int .u8) 5 w' w.heap.size (fun _ => True) s_ y337) ∧ (Below w.heap.size w w')) ?_ ?_
   rotate_left
   ·intro hCont
    refine two_ (i := 2) (j := 7) (Ni := some 13) (Nj := some 18) #[true, true, true, true, true, true, true, false, false, false, false] #[true, true, false, true, true, true, true, true, false, false, false] rfl rfl rfl rfl (two_of HT_.out (by kernel_rfl)) (by decide) (by decide) (fun K hK => ?_) (fun K hK => ?_)
    ·skip
     refine goes_ Try.func79 (by kernel_rfl) rfl #[.int .i64 (wrap64 (Int.tdiv a0 10))] (by rfl) rfl rfl mpq ?_
     with_reducible refine (ih k (by omega) (wrap64 (Int.tdiv a0 10)) t336 _ A7.out).mono ?_
     rintro e w10 ⟨rfl, hb⟩
     refine ⟨_, rfl, ?_⟩
     have n0_ := Aside0.mk (below_step (hbq HB.out) hb)
     clear HB
     revert n0_
     intro HB
     (try clear hb)
     (try clear hb2)
     (try clear hk)
     (try clear hi)
     refine hK.out _ _ trivial (fun hHeld => ?_)
     clear hK K
     refine normq 13 ?_
     refine one_ (i := 7) (N := some 18) #[true, true, true, true, true, true, true, true, false, false, false] rfl rfl (one_of HT_.out (by kernel_rfl)) (by decide) (fun K hK => ?_)
     refine Kd.R_lit_step (Kd.int .u8) _ 5 ?hg (N := 18) ?hd (xs := ([(wrap64 (48 + (Int.tmod a0 10))) % 256] : List Int)) (inner := [.int .u8 ((wrap64 (48 + (Int.tmod a0 10))) % 256)]) (ok := fun _ => True) (okp := fun _ => True) ?hr ?hp (fun _ hk => hk) trivial (Below.refl _ _) (Nat.le_refl _) (by simp) ?_; (case hd => rfl); (case hg => rfl); (case hr => first | (go_simp; done) | (go_simp; rfl)); (case hp => exact (Reps.one (show Kd.M (Kd.int .u8) _ _ _ ((wrap64 (48 + (Int.tmod a0 10))) % 256) [.int .u8 ((wrap64 (48 + (Int.tmod a0 10))) % 256)] from rfl) (Reps.none _ _)))
     intro v338 w11 ho12 hb hg_ hnew_
     clear hg_ hnew_
     (first | rw [← Ny337.out] at ho12 | (simp only [Int.reduceToNat] at ho12; rw [← Ny337.out] at ho12))
     have n0_ := Aside0.mk (Kd.R_lower ho12 (below_size (hbq HB.out)))
     have n1_ := Aside0.mk (below_step (hbq HB.out) hb)
     clear HB
     revert n0_ n1_
     intro HO339 HB
     clear hb ho12
     refine hK.out _ _ trivial (fun hHeld => ?_)
     clear hK K
     refine normq 18 ?_
     refine one_ (i := 8) (N := some 19) #[true, true, true, true, true, true, true, true, true, false, false] rfl rfl (one_of HT_.out (by kernel_rfl)) (by decide) (fun K hK => ?_)
     have hcv13 := own_string (P := Try.prog) Try.underlying43 Try.underlying5 Try.underlying9 (Kd.own_of_R HO339.out)
     refine value_ (w1 := ?_) (v := ?_) (by rfl) rfl ?_ ?_
     rotate_left 2
     ·go_simp
      constructor
      ·rfl
      ·rfl
     clear hcv13
     refine hK.out _ _ trivial (fun hHeld => ?_)
     clear hK K
     refine normq 19 ?_
     exact norm_ (by simp only [putAll, Act.put, List.setIfInBounds_toArray, List.set_cons_zero, List.set_cons_succ]) (hCont (v338) _ ⟨(roq HO339.out), (hbq HB.out)⟩)
    ·skip
     refine Kd.R_lit_step (Kd.int .u8) _ 5 ?hg (N := 18) ?hd (xs := ([(wrap64 (48 + (Int.tmod a0 10))) % 256] : List Int)) (inner := [.int .u8 ((wrap64 (48 + (Int.tmod a0 10))) % 256)]) (ok := fun _ => True) (okp := fun _ => True) ?hr ?hp (fun _ hk => hk) trivial (Below.refl _ _) (Nat.le_refl _) (by simp) ?_; (case hd => rfl); (case hg => rfl); (case hr => first | (go_simp; done) | (go_simp; rfl)); (case hp => exact (Reps.one (show Kd.M (Kd.int .u8) _ _ _ ((wrap64 (48 + (Int.tmod a0 10))) % 256) [.int .u8 ((wrap64 (48 + (Int.tmod a0 10))) % 256)] from rfl) (Reps.none _ _)))
     intro v338 w10 ho11 hb hg_ hnew_
     clear hg_ hnew_
     (first | rw [← Ny337.out] at ho11 | (simp only [Int.reduceToNat] at ho11; rw [← Ny337.out] at ho11))
     have n0_ := Aside0.mk (Kd.R_lower ho11 (below_size (hbq HB.out)))
     have n1_ := Aside0.mk (below_step (hbq HB.out) hb)
     clear HB
     revert n0_ n1_
     intro HO339 HB
     clear hb ho11
     refine hK.out _ _ trivial (fun hHeld => ?_)
     clear hK K
     refine normq 18 ?_
     refine two_ (i := 2) (j := 8) (Ni := some 13) (Nj := some 19) #[true, true, true, true, true, true, true, true, false, false, false] #[true, true, false, true, true, true, true, true, true, false, false] rfl rfl rfl rfl (two_of HT_.out (by kernel_rfl)) (by decide) (by decide) (fun K hK => ?_) (fun K hK => ?_)
     ·skip
      refine goes_ Try.func79 (by kernel_rfl) rfl #[.int .i64 (wrap64 (Int.tdiv a0 10))] (by rfl) rfl rfl mpq ?_
      with_reducible refine (ih k (by omega) (wrap64 (Int.tdiv a0 10)) t336 _ A7.out).mono ?_
      rintro e w12 ⟨rfl, hb⟩
      refine ⟨_, rfl, ?_⟩
      have n0_ := Aside0.mk (Kd.R_below (roq HO339.out) hb)
      have n1_ := Aside0.mk (below_step (hbq HB.out) hb)
      clear HO339 HB
      revert n0_ n1_
      intro HO339 HB
      (try clear hb)
      (try clear hb2)
      (try clear hk)
      (try clear hi)
      refine hK.out _ _ trivial (fun hHeld => ?_)
      clear hK K
      refine normq 13 ?_
      refine one_ (i := 8) (N := some 19) #[true, true, true, true, true, true, true, true, true, false, false] rfl rfl (one_of HT_.out (by kernel_rfl)) (by decide) (fun K hK => ?_)
      have hcv13 := own_string (P := Try.prog) Try.underlying43 Try.underlying5 Try.underlying9 (Kd.own_of_R HO339.out)
      refine value_ (w1 := ?_) (v := ?_) (by rfl) rfl ?_ ?_
      rotate_left 2
      ·go_simp
       constructor
       ·rfl
       ·rfl
      clear hcv13
      refine hK.out _ _ trivial (fun hHeld => ?_)
      clear hK K
      refine normq 19 ?_
      exact norm_ (by simp only [putAll, Act.put, List.setIfInBounds_toArray, List.set_cons_zero, List.set_cons_succ]) (hCont (v338) _ ⟨(roq HO339.out), (hbq HB.out)⟩)
     ·skip
      have hcv12 := own_string (P := Try.prog) Try.underlying43 Try.underlying5 Try.underlying9 (Kd.own_of_R HO339.out)
      refine value_ (w1 := ?_) (v := ?_) (by rfl) rfl ?_ ?_
      rotate_left 2
      ·go_simp
       constructor
       ·rfl
       ·rfl
      clear hcv12
      refine hK.out _ _ trivial (fun hHeld => ?_)
      clear hK K
      refine normq 19 ?_
      refine one_ (i := 2) (N := some 13) #[true, true, true, true, true, true, true, true, true, false, false] rfl rfl (one_of HT_.out (by kernel_rfl)) (by decide) (fun K hK => ?_)
      refine goes_ Try.func79 (by kernel_rfl) rfl #[.int .i64 (wrap64 (Int.tdiv a0 10))] (by rfl) rfl rfl mpq ?_
      with_reducible refine (ih k (by omega) (wrap64 (Int.tdiv a0 10)) t336 _ A7.out).mono ?_
      rintro e w13 ⟨rfl, hb⟩
      refine ⟨_, rfl, ?_⟩
      have n0_ := Aside0.mk (Kd.R_below (roq HO339.out) hb)
      have n1_ := Aside0.mk (below_step (hbq HB.out) hb)
      clear HO339 HB
      revert n0_ n1_
      intro HO339 HB
      (try clear hb)
      (try clear hb2)
      (try clear hk)
      (try clear hi)
      refine hK.out _ _ trivial (fun hHeld => ?_)
      clear hK K
      refine normq 13 ?_
      exact norm_ (by simp only [putAll, Act.put, List.setIfInBounds_toArray, List.set_cons_zero, List.set_cons_succ]) (hCont (v338) _ ⟨(roq HO339.out), (hbq HB.out)⟩)
   rintro v338 w14 ⟨h0_, h1_⟩
   have n0_ : Aside0 (Kd.R (Kd.int .u8) 5 w14 w.heap.size (fun _ => True) v338 y337) := ⟨h0_⟩
   have n1_ : Aside0 (Below w.heap.size w w14) := ⟨h1_⟩
   clear HB
   clear h0_ h1_
   have HO339 := n0_
   have HB := n1_
   clear n0_ n1_
   have hHeld := trivial
   refine norm_ (a' := ?_) ?_ ?_
   rotate_left
   ·simp only [putAll, Act.put, List.setIfInBounds_toArray, List.set_cons_zero, List.set_cons_succ]
    rfl
   refine pureq (i := 9) (N := some 20) #[true, true, true, true, true, true, true, true, true, true, false] rfl rfl HT_.out ?_
   refine pureq (i := 10) (N := some 2) #[true, true, true, true, true, true, true, true, true, true, true] rfl rfl HT_.out ?_
   refine done_ (done_of HT_.out (by kernel_rfl)) ?_
   try go_wp2
   go_ret
   exact ⟨by first | rfl | (simp [errW_none, errW_some] <;> rfl) | (simp [*, errW_none, errW_some] <;> rfl), hbq HB.out⟩
  ·rw [if_neg c8] at H
   exact absurd H (by simp)

end Go.Proofs.Ytnhgiincboocaaa.PFnDeskOk
