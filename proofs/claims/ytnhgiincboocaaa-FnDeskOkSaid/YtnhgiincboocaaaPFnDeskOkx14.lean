-- written by wip/tools/pstub.py (my own program, over the kit's print)
import Derived.Test.YtnhgiincboocaaaPFnDeskOkx0
import Derived.Test.YtnhgiincboocaaaPFnDeskOkx2
import Derived.Test.YtnhgiincboocaaaPFnDeskOkx7
import Derived.Test.YtnhgiincboocaaaPFnDeskOkx13
namespace Go.Proofs.Ytnhgiincboocaaa.PFnDeskOk
open Go.RowKit Go.Proofs.YtnhgiincboocaaaW.PrintWords Go.Proofs.YtnhgiincboocaaaW.PrintLast Go.Proofs.YtnhgiincboocaaaW.PrintMore
attribute [local go_sem] max2_int min2_int max_two min_two max_three min_three max_four min_four   -- for this text's walks alone
set_option linter.unusedVariables false
set_option linter.unusedSimpArgs false

/-! ### spec_DrawDeskOk: function 29 -/
def spec_DrawDeskOk.f (k : Nat) (l0 : List Int) : Option (List Int × Int × List Int × (List (S26))) := (spec_l20Open.f l0).bind fun bt461 => ((spec_l20Desk.f k bt461.1 bt461.2 2).bind fun bt464 => (some (bt464.1, bt464.2.1, bt464.2.2.1, bt464.2.2.2.1)))
theorem spec_DrawDeskOk.mono : ∀ a0 k, LeO (spec_DrawDeskOk.f k a0) (spec_DrawDeskOk.f (k + 1) a0) := by
 intro a0 k
 unfold spec_DrawDeskOk.f
 repeat' first
   | (with_reducible exact spec_l20Desk.mono _ _ _ _)
   | (with_reducible exact LeO.refl _)
   | (with_reducible exact LeO.none _)
   | (with_reducible refine LeO.ite ?_ ?_)
   | (with_reducible refine LeO.bind ?_ (fun _ => ?_))
   | exact spec_l20Desk.mono _ _ _ _
   | exact LeO.none _
   | refine LeO.ite ?_ ?_
   | refine LeO.bind ?_ (fun _ => ?_)
set_option maxHeartbeats 8000000 in
set_option maxRecDepth 100000 in
theorem spec_DrawDeskOk.calls (k : Nat) (A0 : Option Addr) (c0 : Nat) (l0 : List Int) (r1 : List Int) (r2 : Int) (r3 : List Int) (r4 : List (S26)) (w : World) (hr0 : Kd.C (Kd.int .u8) w A0 l0.length l0) (hc0 : l0.length ≤ c0) (h : spec_DrawDeskOk.f k l0 = some (r1, r2, r3, r4)) :
  Calls Try.prog 29 #[.slice A0 l0.length c0] w fun e w' => ∃ v0_ v2_ v3_ : Value, e = .returned (.agg #[v0_, .int .i64 r2, v2_, v3_]) ∧ Kd.R (Kd.int .i64) 3 w' w.heap.size (fun k_ => some k_ ≠ (v2_ : Value).ownBlock) v0_ r1 ∧ Kd.R (Kd.int .i64) 3 w' w.heap.size (fun k_ => some k_ ≠ (v0_ : Value).ownBlock) v2_ r3 ∧ Kd.Q k26 26 w' w.heap.size (fun k_ => some k_ ≠ (v0_ : Value).ownBlock ∧ some k_ ≠ (v2_ : Value).ownBlock) v3_ r4 ∧ Below w.heap.size w w' := by
 have hu29 := Try.underlying29
 have HR0 := Aside0.mk hr0
 have HC0 := Aside0.mk hc0
 clear hr0 hc0
 have HB := Aside0.mk (Below.refl w.heap.size w)
 have H : ((spec_l20Open.f l0).bind fun bt461 => ((spec_l20Desk.f k bt461.1 bt461.2 2).bind fun bt464 => (some (bt464.1, bt464.2.1, bt464.2.2.1, bt464.2.2.2.1)))) = some (r1, r2, r3, r4) := h
 clear h
 replace H := Option.bind_eq_some_iff.mp H
 obtain ⟨⟨t461, t462⟩, A20, H⟩ := H
 replace H : ((spec_l20Desk.f k t461 t462 2).bind fun bt464 => (some (bt464.1, bt464.2.1, bt464.2.2.1, bt464.2.2.2.1))) = some (r1, r2, r3, r4) := H
 have A2 := Aside0.mk A20
 clear A20
 replace H := Option.bind_eq_some_iff.mp H
 obtain ⟨⟨t464, t467, t468, t471, t474⟩, A30, H⟩ := H
 replace H : (some (t464, t467, t468, t471)) = some (r1, r2, r3, r4) := H
 have A3 := Aside0.mk A30
 clear A30
 simp only [Option.some.injEq, Prod.mk.injEq] at H
 obtain ⟨rfl, rfl, rfl, rfl⟩ := H
 go_enter Try.func29, Try.ntmps29
 go_wp2_with (first | ((with_reducible refine gate_dst (N := 2) rfl ?_); refine box_event ?hg (N := 2) ?hd (cs := #[.slice none 0 0, .int .i64 0, .slice none 0 0, .slice none 0 0]) (t := 29) ?hr ?_; (case hd => rfl); (case hg => rfl); (case hr => first | (go_simp; done) | (go_simp; rfl)); intro gb460 hg w4 hbox hb; have n0_ := Aside0.mk (below_step (hbq HB.out) hb); have n1_ := Aside0.mk (hbox); have n2_ := Aside0.mk ((by rw [hg]; exact (below_size (hbq HB.out)) : w.heap.size ≤ gb460)); have n3_ := Aside0.mk ((by rw [hg]; exact (below_size (hbq HB.out)) : w.heap.size ≤ gb460)); clear HB; revert n0_ n1_ n2_ n3_; intro HB BK460 GW460 GE460; clear hb hbox hg) | ((with_reducible refine gate_callee (f := 47) rfl ?_); refine goesL_ (some 4) rfl rfl Try.func47 (by kernel_rfl) rfl #[.slice A0 l0.length c0] rfl mpq ?_; (with_reducible refine (spec_l20Open.calls _ _ l0 t461 t462 w _ ?side1 ?side2 ?side3 A2.out).mono ?_); (case side1 => exact hbqa HB.out); (case side2 => exact HR0.out); (case side3 => exact HC0.out); rintro e w5 ⟨g463, rfl, hi, hb, hb2⟩; refine ⟨_, rfl, ?_⟩; have n0_ := Aside0.mk (blk_below (bkq BK460.out) hb2); have n1_ := Aside0.mk (hb); have n2_ := Aside0.mk (hi); have n3_ := Aside0.mk (IsS73.ne_blk hi (blk_below (bkq BK460.out) hb2) (by decide)); have n4_ := Aside0.mk (Ne.symm (IsS73.ne_blk hi (blk_below (bkq BK460.out) hb2) (by decide))); clear BK460 HB; revert n0_ n1_ n2_ n3_ n4_; intro BK460 HB HI463 NB463_460 NB460_463; (try clear hb); (try clear hb2); (try clear hk); (try clear hi)) | ((with_reducible refine gate_callee (f := 55) rfl ?_); refine goesL_ (some 5) rfl rfl Try.func55 (by kernel_rfl) rfl #[.pointer (some ⟨g463, 0, none⟩), .int .i64 2] rfl mpq ?_; (with_reducible refine (spec_l20Desk.calls k g463 t461 t462 2 t464 t467 t468 t471 t474 w _ ?side1 ?side2 A3.out).mono ?_); (case side1 => exact IsS73.q HI463.out); (case side2 => exact hbqs HB.out (IsS73.ge HI463.out)); rintro e w6 ⟨v465, v469, v472, rfl, ho0, ho1, ho2, hi, hb, hk⟩; refine ⟨_, rfl, ?_⟩; have n0_ := Aside0.mk (KeepBut.blk hk (bkq BK460.out) NB460_463.out (by simp)); have n1_ := Aside0.mk (Kd.R_lower ho0 (below_size (hbqs HB.out (IsS73.ge HI463.out)))); have n2_ := Aside0.mk (Kd.R_lower ho1 (below_size (hbqs HB.out (IsS73.ge HI463.out)))); have n3_ := Aside0.mk (Kd.Q_lower ho2 (below_size (hbqs HB.out (IsS73.ge HI463.out)))); have n4_ := Aside0.mk (hb); have n5_ := Aside0.mk (hi); clear BK460 HB HI463; revert n0_ n1_ n2_ n3_ n4_ n5_; intro BK460 HO466 HO470 HO473 HB HI463; (try clear hb); (try clear hb2); (try clear hk); (try clear hi); (try clear ho0); (try clear ho1); (try clear ho2); obtain ⟨Ao7, co7, eo7⟩ := Kd.R_slice HO466.out; subst eo7; have hnb8 := NB460_463.out; have hnc8 := NB463_460.out; have hcz9_0 : w6.cell? ⟨gb460, 0, none⟩ = some (.slice none 0 0) := (blk_cell BK460.out 0).trans rfl; have hcz9_1 : w6.cell? ⟨gb460, 1, none⟩ = some (.int .i64 0) := (blk_cell BK460.out 1).trans rfl; have hcz9_2 : w6.cell? ⟨gb460, 2, none⟩ = some (.slice none 0 0) := (blk_cell BK460.out 2).trans rfl; have hcz9_3 : w6.cell? ⟨gb460, 3, none⟩ = some (.slice none 0 0) := (blk_cell BK460.out 3).trans rfl; have hfz9_0 := blk_frozen BK460.out 0; have hfz9_1 := blk_frozen BK460.out 1; have hfz9_2 := blk_frozen BK460.out 2; have hfz9_3 := blk_frozen BK460.out 3; obtain ⟨Ao10, co10, eo10⟩ := Kd.R_slice HO470.out; subst eo10; obtain ⟨Ao11, co11, eo11, _⟩ := Kd.Q_slice HO473.out; subst eo11))
 refine bodyPost_ret (results_cell_row rfl _ _ gb460 29 #[.slice Ao7 t464.length co7, .int .i64 t467, .slice Ao10 t468.length co10, .slice Ao11 t471.length co11] (0, 0) _ rfl (by refine bkq ?_; refine blk_put (cs := #[.slice Ao7 t464.length co7, .int .i64 t467, .slice Ao10 t468.length co10, .slice none 0 0]) ?_ 3 _ rfl; refine bkq ?_; refine blk_put (cs := #[.slice Ao7 t464.length co7, .int .i64 t467, .slice none 0 0, .slice none 0 0]) ?_ 2 _ rfl; refine bkq ?_; refine blk_put (cs := #[.slice Ao7 t464.length co7, .int .i64 0, .slice none 0 0, .slice none 0 0]) ?_ 1 _ rfl; refine bkq ?_; refine blk_put (cs := #[.slice none 0 0, .int .i64 0, .slice none 0 0, .slice none 0 0]) ?_ 0 _ rfl; refine bkq ?_; exact BK460.out) Try.underlying29 rfl (by kernel_rfl)) rfl ?_
 exact ⟨_, _, _, by first | rfl | (simp [errW_none, errW_some] <;> rfl) | (simp [*, errW_none, errW_some] <;> rfl), by refine roq ?_; exact Kd.R_mono (Kd.R_far (p := ⟨gb460, 3, none⟩) (Kd.R_far (p := ⟨gb460, 2, none⟩) (Kd.R_far (p := ⟨gb460, 1, none⟩) (Kd.R_far (p := ⟨gb460, 0, none⟩) (Kd.R_types HO466.out BK460.out (by decide)) (fun _ hk => hk.2) (.slice Ao7 t464.length co7)) (fun _ hk => hk.2) (.int .i64 t467)) (fun _ hk => hk.2) (.slice Ao10 t468.length co10)) (fun _ hk => hk.2) (.slice Ao11 t471.length co11)) (fun _ hk => hk.1), by refine roq ?_; exact Kd.R_mono (Kd.R_far (p := ⟨gb460, 3, none⟩) (Kd.R_far (p := ⟨gb460, 2, none⟩) (Kd.R_far (p := ⟨gb460, 1, none⟩) (Kd.R_far (p := ⟨gb460, 0, none⟩) (Kd.R_types HO470.out BK460.out (by decide)) (fun _ hk => hk.2) (.slice Ao7 t464.length co7)) (fun _ hk => hk.2) (.int .i64 t467)) (fun _ hk => hk.2) (.slice Ao10 t468.length co10)) (fun _ hk => hk.2) (.slice Ao11 t471.length co11)) (fun _ hk => hk.1), by refine qoq ?_; exact Kd.Q_mono (Kd.Q_far (p := ⟨gb460, 3, none⟩) (Kd.Q_far (p := ⟨gb460, 2, none⟩) (Kd.Q_far (p := ⟨gb460, 1, none⟩) (Kd.Q_far (p := ⟨gb460, 0, none⟩) (Kd.Q_types HO473.out BK460.out (by decide)) (fun _ hk => hk.2) (.slice Ao7 t464.length co7)) (fun _ hk => hk.2) (.int .i64 t467)) (fun _ hk => hk.2) (.slice Ao10 t468.length co10)) (fun _ hk => hk.2) (.slice Ao11 t471.length co11)) (fun _ hk => ⟨hk.1.1, hk.1.2⟩), hbqs HB.out (IsS73.ge HI463.out)⟩

/-! ### impl_StateOk: function 61 -/
def impl_StateOk.l0 : Nat → Int → List Int → List Int → Int → Int → Option (Bool)
 | 0, _, _, _, _, _ => none
 | k + 1, x0, x1, x7, x8, x9 => if x9 < x8 then (if 0 ≤ x9 then (if x9 < (x7.length : Int) then (if (rd x7 x9) < 0 then (some false) else (if (rd x7 x9) ≥ x0 then (some false) else (impl_StateOk.l0 k x0 x1 x7 x8 (wrap64 (x9 + 1))))) else (none)) else (none)) else (if x0 ≥ 3 then (if x0 ≤ 5 then (if (x1.length : Int) ≥ 1 then (some (decide ((x1.length : Int) ≤ 6))) else (some false)) else (some false)) else (some false))
def impl_StateOk.f (k : Nat) (a0 : Int) (l1 : List Int) : Option (Bool) := impl_StateOk.l0 k a0 l1 l1 (l1.length : Int) 0
theorem impl_StateOk.mono_l : ∀ k, (∀ y0 y1 y2 y3 y4, LeO (impl_StateOk.l0 k y0 y1 y2 y3 y4) (impl_StateOk.l0 (k + 1) y0 y1 y2 y3 y4))
 | 0 => fun _ _ _ _ _ r h => by simp [impl_StateOk.l0] at h
 | k + 1 => by
  have ih0 := impl_StateOk.mono_l k
  ·intro y0 y1 y2 y3 y4
   unfold impl_StateOk.l0
   repeat' first | (with_reducible first | exact ih0 _ _ _ _ _ | exact LeO.refl _ | exact LeO.none _ | refine LeO.ite ?_ ?_ | refine LeO.bind ?_ (fun _ => ?_)) | exact LeO.none _ | refine LeO.ite ?_ ?_ | refine LeO.bind ?_ (fun _ => ?_)
theorem impl_StateOk.mono : ∀ a0 a1 k, LeO (impl_StateOk.f k a0 a1) (impl_StateOk.f (k + 1) a0 a1) := by
 intro a0 a1 k
 have ih0 := impl_StateOk.mono_l k
 unfold impl_StateOk.f
 repeat' first
   | (with_reducible exact ih0 _ _ _ _ _)
   | (with_reducible exact LeO.refl _)
   | (with_reducible exact LeO.none _)
   | (with_reducible refine LeO.ite ?_ ?_)
   | (with_reducible refine LeO.bind ?_ (fun _ => ?_))
   | exact ih0 _ _ _ _ _
   | exact LeO.none _
   | refine LeO.ite ?_ ?_
   | refine LeO.bind ?_ (fun _ => ?_)
set_option maxHeartbeats 8000000 in
set_option maxRecDepth 100000 in
theorem impl_StateOk.calls (k : Nat) (a0 : Int) (A1 : Option Addr) (c1 : Nat) (l1 : List Int) (r : Bool) (w : World) (hr1 : Kd.C (Kd.int .i64) w A1 l1.length l1) (hc1 : l1.length ≤ c1) (h : impl_StateOk.f k a0 l1 = some r) :
  Calls Try.prog 61 #[.int .i64 a0, .slice A1 l1.length c1] w fun e w' => e = .returned (.bool r) ∧ Drawn0 w w' := by
 have HR1 := Aside0.mk hr1
 have HC1 := Aside0.mk hc1
 clear hr1 hc1
 have H : (impl_StateOk.l0 k a0 l1 l1 (l1.length : Int) 0) = some r := h
 clear h
 have H' := Aside0.mk H
 clear H
 go_enter Try.func61, Try.ntmps61
 go_wp2
 go_loopg [9] k (fun kq v9 w' => ∃ (x9_1 : Int), v9 = .int .i64 x9_1 ∧ Aside0 (impl_StateOk.l0 kq a0 l1 l1 (l1.length : Int) x9_1 = some r) ∧ Aside0 (kq ≤ k) ∧ Drawn0 w w')
 case atStart => exact ⟨(0), rfq, H', ⟨Nat.le_refl _⟩, by repeat (first | exact Drawn0.refl _ | apply Drawn0.step)⟩
 case round =>
  clear H'
  try clear c1
  try clear p2
  obtain ⟨x9_1, rfl, HA, HK1, ⟨m1, rfl⟩⟩ := hrel
  cases gk with
  | zero => exact absurd HA.out (by simp [impl_StateOk.l0])
  | succ k1 =>
   have H := HA.out
   clear HA
   simp only [impl_StateOk.l0] at H
   by_cases c3 : x9_1 < (l1.length : Int)
   ·rw [if_pos c3] at H
    have c3b0 : decide (x9_1 < (l1.length : Int)) = true := decide_eq_true c3
    clear c3
    by_cases c4 : 0 ≤ x9_1
    ·rw [if_pos c4] at H
     have c4b0 : decide (0 ≤ x9_1) = true := decide_eq_true c4
     clear c4
     by_cases c5 : x9_1 < (l1.length : Int)
     ·rw [if_pos c5] at H
      have c5b0 : decide (x9_1 < (l1.length : Int)) = true := decide_eq_true c5
      clear c5
      by_cases c6 : (rd l1 x9_1) < 0
      ·rw [if_pos c6] at H
       have c6b0 : decide ((rd l1 x9_1) < 0) = true := decide_eq_true c6
       clear c6
       obtain rfl := Option.some.inj H
       have p475 : 0 ≤ (x9_1 : Int) := od
       have q475 : x9_1 < (l1.length : Int) := od
       obtain ⟨ad475, e475, hx475_0⟩ := Kd.at_int HR1.out x9_1 p475 q475
       cases e475
       replace p475 := eq_true p475
       replace q475 := eq_true q475
       go_wp2
       go_ret
       exact ⟨by first | rfl | (simp; done) | (simp [*]; done), by repeat (first | exact Drawn0.refl _ | apply Drawn0.step)⟩
      ·rw [if_neg c6] at H
       have c6b0 : decide ((rd l1 x9_1) < 0) = false := decide_eq_false c6
       clear c6
       by_cases c7 : (rd l1 x9_1) ≥ a0
       ·rw [if_pos c7] at H
        have c7b0 : decide (a0 ≤ (rd l1 x9_1)) = true := decide_eq_true c7
        clear c7
        obtain rfl := Option.some.inj H
        have p475 : 0 ≤ (x9_1 : Int) := od
        have q475 : x9_1 < (l1.length : Int) := od
        obtain ⟨ad475, e475, hx475_0⟩ := Kd.at_int HR1.out x9_1 p475 q475
        cases e475
        replace p475 := eq_true p475
        replace q475 := eq_true q475
        go_wp2
        go_ret
        exact ⟨by first | rfl | (simp; done) | (simp [*]; done), by repeat (first | exact Drawn0.refl _ | apply Drawn0.step)⟩
       ·rw [if_neg c7] at H
        have c7b0 : decide (a0 ≤ (rd l1 x9_1)) = false := decide_eq_false c7
        clear c7
        have H' := Aside0.mk H
        clear H
        have p475 : 0 ≤ (x9_1 : Int) := od
        have q475 : x9_1 < (l1.length : Int) := od
        obtain ⟨ad475, e475, hx475_0⟩ := Kd.at_int HR1.out x9_1 p475 q475
        cases e475
        replace p475 := eq_true p475
        replace q475 := eq_true q475
        go_wp2
        go_roundg k1
        case measure => have := HK1.out; omega
        case rel => exact ⟨(wrap64 (x9_1 + 1)), rfq, H', ⟨by have := HK1.out; omega⟩, by repeat (first | exact Drawn0.refl _ | apply Drawn0.step)⟩
     ·rw [if_neg c5] at H
      exact absurd H (by simp)
    ·rw [if_neg c4] at H
     exact absurd H (by simp)
   ·rw [if_neg c3] at H
    have c3b0 : decide (x9_1 < (l1.length : Int)) = false := decide_eq_false c3
    clear c3
    by_cases c8 : a0 ≥ 3
    ·rw [if_pos c8] at H
     have c8b0 : decide (3 ≤ a0) = true := decide_eq_true c8
     clear c8
     by_cases c9 : a0 ≤ 5
     ·rw [if_pos c9] at H
      have c9b0 : decide (a0 ≤ 5) = true := decide_eq_true c9
      clear c9
      by_cases c10 : (l1.length : Int) ≥ 1
      ·rw [if_pos c10] at H
       have c10b0 : decide (1 ≤ (l1.length : Int)) = true := decide_eq_true c10
       have c10b1 : decide (1 ≤ l1.length) = true := decide_eq_true (by omega)
       clear c10
       obtain rfl := Option.some.inj H
       go_wp2
       go_ret
       exact ⟨by first | rfl | (simp; done) | (simp [*]; done), by repeat (first | exact Drawn0.refl _ | apply Drawn0.step)⟩
      ·rw [if_neg c10] at H
       have c10b0 : decide (1 ≤ (l1.length : Int)) = false := decide_eq_false c10
       have c10b1 : decide (1 ≤ l1.length) = false := decide_eq_false (by omega)
       clear c10
       obtain rfl := Option.some.inj H
       go_wp2
       go_ret
       exact ⟨by first | rfl | (simp; done) | (simp [*]; done), by repeat (first | exact Drawn0.refl _ | apply Drawn0.step)⟩
     ·rw [if_neg c9] at H
      have c9b0 : decide (a0 ≤ 5) = false := decide_eq_false c9
      clear c9
      obtain rfl := Option.some.inj H
      go_wp2
      go_ret
      exact ⟨by first | rfl | (simp; done) | (simp [*]; done), by repeat (first | exact Drawn0.refl _ | apply Drawn0.step)⟩
    ·rw [if_neg c8] at H
     have c8b0 : decide (3 ≤ a0) = false := decide_eq_false c8
     clear c8
     obtain rfl := Option.some.inj H
     go_wp2
     go_ret
     exact ⟨by first | rfl | (simp; done) | (simp [*]; done), by repeat (first | exact Drawn0.refl _ | apply Drawn0.step)⟩

/-! ### impl_asked: function 45 -/
def impl_asked.f (k : Nat) (l0 : List Int) (a1 : Int) (l2 : List Int) : Option (Bool) := (impl_NetOk.f k l0).bind fun t476 => (if t476 = true then ((impl_StateOk.f k a1 l2).bind fun t477 => (if t477 = true then (some ((l0.length : Int) == (l2.length : Int))) else (some false))) else (some false))
theorem impl_asked.mono : ∀ a0 a1 a2 k, LeO (impl_asked.f k a0 a1 a2) (impl_asked.f (k + 1) a0 a1 a2) := by
 intro a0 a1 a2 k
 unfold impl_asked.f
 repeat' first
   | (with_reducible exact impl_NetOk.mono _ _)
   | (with_reducible exact impl_StateOk.mono _ _ _)
   | (with_reducible exact LeO.refl _)
   | (with_reducible exact LeO.none _)
   | (with_reducible refine LeO.ite ?_ ?_)
   | (with_reducible refine LeO.bind ?_ (fun _ => ?_))
   | exact impl_NetOk.mono _ _
   | exact impl_StateOk.mono _ _ _
   | exact LeO.none _
   | refine LeO.ite ?_ ?_
   | refine LeO.bind ?_ (fun _ => ?_)
set_option maxHeartbeats 8000000 in
set_option maxRecDepth 100000 in
theorem impl_asked.calls (k : Nat) (A0 : Option Addr) (c0 : Nat) (l0 : List Int) (a1 : Int) (A2 : Option Addr) (c2 : Nat) (l2 : List Int) (r : Bool) (w : World) (hr0 : Kd.C (Kd.int .i64) w A0 l0.length l0) (hc0 : l0.length ≤ c0) (hr2 : Kd.C (Kd.int .i64) w A2 l2.length l2) (hc2 : l2.length ≤ c2) (h : impl_asked.f k l0 a1 l2 = some r) :
  Calls Try.prog 45 #[.slice A0 l0.length c0, .int .i64 a1, .slice A2 l2.length c2] w fun e w' => e = .returned (.bool r) ∧ Drawn0 w w' := by
 have HR0 := Aside0.mk hr0
 have HC0 := Aside0.mk hc0
 clear hr0 hc0
 have HR2 := Aside0.mk hr2
 have HC2 := Aside0.mk hc2
 clear hr2 hc2
 have H : ((impl_NetOk.f k l0).bind fun t476 => (if t476 = true then ((impl_StateOk.f k a1 l2).bind fun t477 => (if t477 = true then (some ((l0.length : Int) == (l2.length : Int))) else (some false))) else (some false))) = some r := h
 clear h
 replace H := Option.bind_eq_some_iff.mp H
 obtain ⟨t476, A40, H⟩ := H
 replace H : (if t476 = true then ((impl_StateOk.f k a1 l2).bind fun t477 => (if t477 = true then (some ((l0.length : Int) == (l2.length : Int))) else (some false))) else (some false)) = some r := H
 have A4 := Aside0.mk A40
 clear A40
 by_cases c5 : t476 = true
 ·subst c5
  have H1 : ((impl_StateOk.f k a1 l2).bind fun t477 => (if t477 = true then (some ((l0.length : Int) == (l2.length : Int))) else (some false))) = some r := by rw [if_pos rfl] at H; exact H
  clear H
  have H := H1
  clear H1
  replace H := Option.bind_eq_some_iff.mp H
  obtain ⟨t477, A60, H⟩ := H
  replace H : (if t477 = true then (some ((l0.length : Int) == (l2.length : Int))) else (some false)) = some r := H
  have A6 := Aside0.mk A60
  clear A60
  by_cases c7 : t477 = true
  ·subst c7
   have H1 : (some ((l0.length : Int) == (l2.length : Int))) = some r := by rw [if_pos rfl] at H; exact H
   clear H
   have H := H1
   clear H1
   obtain rfl := Option.some.inj H
   go_enter Try.func45, Try.ntmps45
   go_wp2_with (first | ((with_reducible refine gate_callee (f := 52) rfl ?_); refine goesL_ (some 8) rfl rfl Try.func52 (by kernel_rfl) rfl #[.slice A0 l0.length c0] rfl mpq ?_; (with_reducible refine (impl_NetOk.calls k _ _ l0 true _ ?side1 ?side2 A4.out).mono ?_); (case side1 => exact coq HR0.out); (case side2 => exact HC0.out); rintro e w' ⟨rfl, ⟨nd, rfl⟩⟩; refine ⟨_, rfl, ?_⟩) | (go_at_call 61; (with_reducible refine (impl_StateOk.calls k a1 _ _ l2 true _ ?side1 ?side2 A6.out).mono ?_); (case side1 => exact coq HR2.out); (case side2 => exact HC2.out); rintro e w' ⟨rfl, ⟨nd, rfl⟩⟩))
   go_ret
   exact ⟨by first | rfl | (simp; done) | (simp [*]; done), by repeat (first | exact Drawn0.refl _ | apply Drawn0.step)⟩
  ·replace c7 := Bool.eq_false_iff.mpr c7
   subst c7
   have H1 : (some false) = some r := by rw [if_neg (show ¬ (false = true) by decide)] at H; exact H
   clear H
   have H := H1
   clear H1
   obtain rfl := Option.some.inj H
   go_enter Try.func45, Try.ntmps45
   go_wp2_with (first | ((with_reducible refine gate_callee (f := 52) rfl ?_); refine goesL_ (some 8) rfl rfl Try.func52 (by kernel_rfl) rfl #[.slice A0 l0.length c0] rfl mpq ?_; (with_reducible refine (impl_NetOk.calls k _ _ l0 true _ ?side1 ?side2 A4.out).mono ?_); (case side1 => exact coq HR0.out); (case side2 => exact HC0.out); rintro e w' ⟨rfl, ⟨nd, rfl⟩⟩; refine ⟨_, rfl, ?_⟩) | (go_at_call 61; (with_reducible refine (impl_StateOk.calls k a1 _ _ l2 false _ ?side1 ?side2 A6.out).mono ?_); (case side1 => exact coq HR2.out); (case side2 => exact HC2.out); rintro e w' ⟨rfl, ⟨nd, rfl⟩⟩))
   go_ret
   exact ⟨by first | rfl | (simp; done) | (simp [*]; done), by repeat (first | exact Drawn0.refl _ | apply Drawn0.step)⟩
 ·replace c5 := Bool.eq_false_iff.mpr c5
  subst c5
  have H1 : (some false) = some r := by rw [if_neg (show ¬ (false = true) by decide)] at H; exact H
  clear H
  have H := H1
  clear H1
  obtain rfl := Option.some.inj H
  go_enter Try.func45, Try.ntmps45
  go_wp2_with (first | ((with_reducible refine gate_callee (f := 52) rfl ?_); refine goesL_ (some 8) rfl rfl Try.func52 (by kernel_rfl) rfl #[.slice A0 l0.length c0] rfl mpq ?_; (with_reducible refine (impl_NetOk.calls k _ _ l0 false _ ?side1 ?side2 A4.out).mono ?_); (case side1 => exact coq HR0.out); (case side2 => exact HC0.out); rintro e w' ⟨rfl, ⟨nd, rfl⟩⟩; refine ⟨_, rfl, ?_⟩))
  go_ret
  exact ⟨by first | rfl | (simp; done) | (simp [*]; done), by repeat (first | exact Drawn0.refl _ | apply Drawn0.step)⟩

/-! ### impl_PlaceOk: function 35 -/
def impl_PlaceOk.f (k : Nat) (l0_0 : List Int) (a0_1 : Int) (l0_2 : List Int) : Option (Bool) := (impl_asked.f k l0_0 a0_1 l0_2).bind fun t479 => (some t479)
theorem impl_PlaceOk.mono : ∀ a0 a1 a2 k, LeO (impl_PlaceOk.f k a0 a1 a2) (impl_PlaceOk.f (k + 1) a0 a1 a2) := by
 intro a0 a1 a2 k
 unfold impl_PlaceOk.f
 repeat' first
   | (with_reducible exact impl_asked.mono _ _ _ _)
   | (with_reducible exact LeO.refl _)
   | (with_reducible exact LeO.none _)
   | (with_reducible refine LeO.ite ?_ ?_)
   | (with_reducible refine LeO.bind ?_ (fun _ => ?_))
   | exact impl_asked.mono _ _ _ _
   | exact LeO.none _
   | refine LeO.ite ?_ ?_
   | refine LeO.bind ?_ (fun _ => ?_)
set_option maxHeartbeats 8000000 in
set_option maxRecDepth 100000 in
theorem impl_PlaceOk.calls (k : Nat) (A0_0 : Option Addr) (c0_0 : Nat) (l0_0 : List Int) (a0_1 : Int) (A0_2 : Option Addr) (c0_2 : Nat) (l0_2 : List Int) (r : Bool) (w : World) (hr0_0 : Kd.C (Kd.int .i64) w A0_0 l0_0.length l0_0) (hc0_0 : l0_0.length ≤ c0_0) (hr0_2 : Kd.C (Kd.int .i64) w A0_2 l0_2.length l0_2) (hc0_2 : l0_2.length ≤ c0_2) (h : impl_PlaceOk.f k l0_0 a0_1 l0_2 = some r) :
  Calls Try.prog 35 #[.agg #[.slice A0_0 l0_0.length c0_0, .int .i64 a0_1, .slice A0_2 l0_2.length c0_2]] w fun e w' => e = .returned (.bool r) ∧ Below w.heap.size w w' := by
 have hu26 := Try.underlying26
 have HR0_0 := Aside0.mk hr0_0
 have HC0_0 := Aside0.mk hc0_0
 clear hr0_0 hc0_0
 have HR0_2 := Aside0.mk hr0_2
 have HC0_2 := Aside0.mk hc0_2
 clear hr0_2 hc0_2
 have HB := Aside0.mk (Below.refl w.heap.size w)
 have H : ((impl_asked.f k l0_0 a0_1 l0_2).bind fun t479 => (some t479)) = some r := h
 clear h
 replace H := Option.bind_eq_some_iff.mp H
 obtain ⟨t479, A20, H⟩ := H
 replace H : (some t479) = some r := H
 have A2 := Aside0.mk A20
 clear A20
 obtain rfl := Option.some.inj H
 go_enter Try.func35, Try.ntmps35
 go_wp2_with (first | ((with_reducible refine gate_dst (N := 1) rfl ?_); refine box_event ?hg (N := 1) ?hd (cs := #[.slice A0_0 l0_0.length c0_0, .int .i64 a0_1, .slice A0_2 l0_2.length c0_2]) (t := 26) ?hr ?_; (case hd => rfl); (case hg => rfl); (case hr => first | (go_simp; done) | (go_simp; rfl)); intro gb478 hg w3 hbox hb; have n0_ := Aside0.mk (below_step (hbq HB.out) hb); have n1_ := Aside0.mk (hbox); have n2_ := Aside0.mk ((by rw [hg]; exact (below_size (hbq HB.out)) : w.heap.size ≤ gb478)); have n3_ := Aside0.mk ((by rw [hg]; exact (below_size (hbq HB.out)) : w.heap.size ≤ gb478)); clear HB; revert n0_ n1_ n2_ n3_; intro HB BK478 GW478 GE478; clear hb hbox hg; have hcz4_0 : w3.cell? ⟨gb478, 0, none⟩ = some (.slice A0_0 l0_0.length c0_0) := (blk_cell BK478.out 0).trans rfl; have hcz4_1 : w3.cell? ⟨gb478, 1, none⟩ = some (.int .i64 a0_1) := (blk_cell BK478.out 1).trans rfl; have hcz4_2 : w3.cell? ⟨gb478, 2, none⟩ = some (.slice A0_2 l0_2.length c0_2) := (blk_cell BK478.out 2).trans rfl; have hfz4_0 := blk_frozen BK478.out 0; have hfz4_1 := blk_frozen BK478.out 1; have hfz4_2 := blk_frozen BK478.out 2) | ((with_reducible refine gate_callee (f := 45) rfl ?_); refine goesL_ (some 9) rfl rfl Try.func45 (by kernel_rfl) rfl #[.slice A0_0 l0_0.length c0_0, .int .i64 a0_1, .slice A0_2 l0_2.length c0_2] rfl mpq ?_; (with_reducible refine (impl_asked.calls k _ _ l0_0 a0_1 _ _ l0_2 t479 _ ?side1 ?side2 ?side3 ?side4 A2.out).mono ?_); (case side1 => exact coq (Kd.C_below HR0_0.out HB.out)); (case side2 => exact HC0_0.out); (case side3 => exact coq (Kd.C_below HR0_2.out HB.out)); (case side4 => exact HC0_2.out); rintro e w' ⟨rfl, ⟨nd, rfl⟩⟩; refine ⟨_, rfl, ?_⟩))
 go_ret
 exact ⟨by first | rfl | (simp [errW_none, errW_some] <;> rfl) | (simp [*, errW_none, errW_some] <;> rfl), hbqa HB.out⟩

/-! ### impl_DeskOk: function 30 -/
def impl_DeskOk.l0 : Nat → List (S26) → Int → Int → List Int → Int → List Int → List (S26) → Option (Bool)
 | 0, _, _, _, _, _, _, _ => none
 | k + 1, x6, x7, x8, x481000, x481001, x481002, x481003 => if x8 < x7 then (if 0 ≤ x8 then (if x8 < (x6.length : Int) then ((impl_PlaceOk.f k ((rd_T26 x6 x8).f0) ((rd_T26 x6 x8).f1) ((rd_T26 x6 x8).f2)).bind fun t483 => (if t483 = true then (impl_DeskOk.l0 k x6 x7 (wrap64 (x8 + 1)) x481000 x481001 x481002 x481003) else (some false))) else (none)) else (none)) else ((impl_PlaceOk.f k x481000 x481001 x481002).bind fun t484 => (if t484 = true then (some (decide ((x481003.length : Int) ≤ 8))) else (some false)))
def impl_DeskOk.f (k : Nat) (l0_0 : List Int) (a0_1 : Int) (l0_2 : List Int) (l0_3 : List (S26)) : Option (Bool) := impl_DeskOk.l0 k l0_3 (l0_3.length : Int) 0 l0_0 a0_1 l0_2 l0_3
theorem impl_DeskOk.mono_l : ∀ k, (∀ y0 y1 y2 y3 y4 y5 y6, LeO (impl_DeskOk.l0 k y0 y1 y2 y3 y4 y5 y6) (impl_DeskOk.l0 (k + 1) y0 y1 y2 y3 y4 y5 y6))
 | 0 => fun _ _ _ _ _ _ _ r h => by simp [impl_DeskOk.l0] at h
 | k + 1 => by
  have ih0 := impl_DeskOk.mono_l k
  ·intro y0 y1 y2 y3 y4 y5 y6
   unfold impl_DeskOk.l0
   repeat' first | (with_reducible first | exact ih0 _ _ _ _ _ _ _ | exact impl_PlaceOk.mono _ _ _ _ | exact LeO.refl _ | exact LeO.none _ | refine LeO.ite ?_ ?_ | refine LeO.bind ?_ (fun _ => ?_)) | exact LeO.none _ | refine LeO.ite ?_ ?_ | refine LeO.bind ?_ (fun _ => ?_)
theorem impl_DeskOk.mono : ∀ a0 a1 a2 a3 k, LeO (impl_DeskOk.f k a0 a1 a2 a3) (impl_DeskOk.f (k + 1) a0 a1 a2 a3) := by
 intro a0 a1 a2 a3 k
 have ih0 := impl_DeskOk.mono_l k
 unfold impl_DeskOk.f
 repeat' first
   | (with_reducible exact ih0 _ _ _ _ _ _ _)
   | (with_reducible exact impl_PlaceOk.mono _ _ _ _)
   | (with_reducible exact LeO.refl _)
   | (with_reducible exact LeO.none _)
   | (with_reducible refine LeO.ite ?_ ?_)
   | (with_reducible refine LeO.bind ?_ (fun _ => ?_))
   | exact ih0 _ _ _ _ _ _ _
   | exact impl_PlaceOk.mono _ _ _ _
   | exact LeO.none _
   | refine LeO.ite ?_ ?_
   | refine LeO.bind ?_ (fun _ => ?_)
set_option maxHeartbeats 8000000 in
set_option maxRecDepth 100000 in
theorem impl_DeskOk.calls (k : Nat) (A0_0 : Option Addr) (c0_0 : Nat) (l0_0 : List Int) (a0_1 : Int) (A0_2 : Option Addr) (c0_2 : Nat) (l0_2 : List Int) (A0_3 : Option Addr) (c0_3 : Nat) (l0_3 : List (S26)) (r : Bool) (w : World) (hr0_0 : Kd.C (Kd.int .i64) w A0_0 l0_0.length l0_0) (hc0_0 : l0_0.length ≤ c0_0) (hr0_2 : Kd.C (Kd.int .i64) w A0_2 l0_2.length l0_2) (hc0_2 : l0_2.length ≤ c0_2) (hr0_3 : Kd.C k26 w A0_3 l0_3.length l0_3) (hc0_3 : l0_3.length ≤ c0_3) (h : impl_DeskOk.f k l0_0 a0_1 l0_2 l0_3 = some r) :
  Calls Try.prog 30 #[.agg #[.slice A0_0 l0_0.length c0_0, .int .i64 a0_1, .slice A0_2 l0_2.length c0_2, .slice A0_3 l0_3.length c0_3]] w fun e w' => e = .returned (.bool r) ∧ Below w.heap.size w w' := by
 have hu29 := Try.underlying29
 have hu26 := Try.underlying26
 have HR0_0 := Aside0.mk hr0_0
 have HC0_0 := Aside0.mk hc0_0
 clear hr0_0 hc0_0
 have HR0_2 := Aside0.mk hr0_2
 have HC0_2 := Aside0.mk hc0_2
 clear hr0_2 hc0_2
 have HR0_3 := Aside0.mk hr0_3
 have HC0_3 := Aside0.mk hc0_3
 clear hr0_3 hc0_3
 have HB := Aside0.mk (Below.refl w.heap.size w)
 have H : (impl_DeskOk.l0 k l0_3 (l0_3.length : Int) 0 l0_0 a0_1 l0_2 l0_3) = some r := h
 clear h
 have H' := Aside0.mk H
 clear H
 go_enter Try.func30, Try.ntmps30
 go_wp2_with (first | ((with_reducible refine gate_dst (N := 1) rfl ?_); (try (refine gate_guard (by rfl) ?_; dsimp only)); refine box_event ?hg (N := 1) ?hd (cs := #[.slice A0_0 l0_0.length c0_0, .int .i64 a0_1, .slice A0_2 l0_2.length c0_2, .slice A0_3 l0_3.length c0_3]) (t := 29) ?hr ?_; (case hd => rfl); (case hg => rfl); (case hr => first | (go_simp; done) | (go_simp; rfl)); intro gb480 hg w2 hbox hb; have n0_ := Aside0.mk (below_step (hbq HB.out) hb); have n1_ := Aside0.mk (hbox); have n2_ := Aside0.mk ((by rw [hg]; exact (below_size (hbq HB.out)) : w.heap.size ≤ gb480)); have n3_ := Aside0.mk ((by rw [hg]; exact (below_size (hbq HB.out)) : w.heap.size ≤ gb480)); clear HB; revert n0_ n1_ n2_ n3_; intro HB BK480 GW480 GE480; clear hb hbox hg; have hcz3_0 : w2.cell? ⟨gb480, 0, none⟩ = some (.slice A0_0 l0_0.length c0_0) := (blk_cell BK480.out 0).trans rfl; have hcz3_1 : w2.cell? ⟨gb480, 1, none⟩ = some (.int .i64 a0_1) := (blk_cell BK480.out 1).trans rfl; have hcz3_2 : w2.cell? ⟨gb480, 2, none⟩ = some (.slice A0_2 l0_2.length c0_2) := (blk_cell BK480.out 2).trans rfl; have hcz3_3 : w2.cell? ⟨gb480, 3, none⟩ = some (.slice A0_3 l0_3.length c0_3) := (blk_cell BK480.out 3).trans rfl; have hfz3_0 := blk_frozen BK480.out 0; have hfz3_1 := blk_frozen BK480.out 1; have hfz3_2 := blk_frozen BK480.out 2; have hfz3_3 := blk_frozen BK480.out 3))
 go_loopg [8] k (fun kq v8 w' => ∃ (x8_1 : Int), v8 = .int .i64 x8_1 ∧ Aside0 (impl_DeskOk.l0 kq l0_3 (l0_3.length : Int) x8_1 l0_0 a0_1 l0_2 l0_3 = some r) ∧ Aside0 (kq ≤ k) ∧ Aside0 (w'.heap[gb480]? = some (.cells #[(.slice A0_0 l0_0.length c0_0), .int .i64 a0_1, (.slice A0_2 l0_2.length c0_2), (.slice A0_3 l0_3.length c0_3)] 29 (0, 0))) ∧ Aside0 (Below w.heap.size w w'))
 case atStart => exact ⟨(0), rfq, H', ⟨Nat.le_refl _⟩, ⟨by refine bkq ?_; exact BK480.out⟩, ⟨hbqa HB.out⟩⟩
 case round =>
  clear H'
  try clear p2
  try clear c3
  try clear hcz3_0
  try clear hcz3_1
  try clear hcz3_2
  try clear hcz3_3
  try clear hfz3_0
  try clear hfz3_1
  try clear hfz3_2
  try clear hfz3_3
  obtain ⟨x8_1, rfl, HA, HK1, BK480, HB⟩ := hrel
  cases gk with
  | zero => exact absurd HA.out (by simp [impl_DeskOk.l0])
  | succ k1 =>
   have H := HA.out
   clear HA
   simp only [impl_DeskOk.l0] at H
   by_cases c4 : x8_1 < (l0_3.length : Int)
   ·rw [if_pos c4] at H
    have c4b0 : decide (x8_1 < (l0_3.length : Int)) = true := decide_eq_true c4
    clear c4
    by_cases c5 : 0 ≤ x8_1
    ·rw [if_pos c5] at H
     have c5b0 : decide (0 ≤ x8_1) = true := decide_eq_true c5
     clear c5
     by_cases c6 : x8_1 < (l0_3.length : Int)
     ·rw [if_pos c6] at H
      have c6b0 : decide (x8_1 < (l0_3.length : Int)) = true := decide_eq_true c6
      clear c6
      replace H := Option.bind_eq_some_iff.mp H
      obtain ⟨t483, A70, H⟩ := H
      replace H : (if t483 = true then (impl_DeskOk.l0 k1 l0_3 (l0_3.length : Int) (wrap64 (x8_1 + 1)) l0_0 a0_1 l0_2 l0_3) else (some false)) = some r := H
      have A7 := Aside0.mk A70
      clear A70
      by_cases c8 : t483 = true
      ·subst c8
       have H1 : (impl_DeskOk.l0 k1 l0_3 (l0_3.length : Int) (wrap64 (x8_1 + 1)) l0_0 a0_1 l0_2 l0_3) = some r := by rw [if_pos rfl] at H; exact H
       clear H
       have H := H1
       clear H1
       have H' := Aside0.mk H
       clear H
       have p481 : 0 ≤ (x8_1 : Int) := od
       have q481 : x8_1 < (l0_3.length : Int) := od
       obtain ⟨ad481, A481_0, c481_0, A481_2, c481_2, e481, hx481_0, hx481_1, hx481_2, hl481_0, hi481_0, hl481_2, hi481_2⟩ := at_T26 HR0_3.out x8_1 p481 q481
       cases e481
       replace hx481_0 := (HB.out.cell (World.block_lt_of_cell? w _ hx481_0)).trans hx481_0
       replace hx481_1 := (HB.out.cell (World.block_lt_of_cell? w _ hx481_1)).trans hx481_1
       replace hx481_2 := (HB.out.cell (World.block_lt_of_cell? w _ hx481_2)).trans hx481_2
       have HR481_0 := Aside0.mk hi481_0
       have HC481_0 := Aside0.mk hl481_0
       clear hi481_0 hl481_0
       have HR481_2 := Aside0.mk hi481_2
       have HC481_2 := Aside0.mk hl481_2
       clear hi481_2 hl481_2
       replace p481 := eq_true p481
       replace q481 := eq_true q481
       go_wp2_with (first | ((with_reducible refine gate_dst (N := 4) rfl ?_); (try (refine gate_guard (by rfl) ?_; dsimp only)); refine box_event ?hg (N := 4) ?hd (cs := #[.slice none 0 0, .int .i64 0, .slice none 0 0]) (t := 26) ?hr ?_; (case hd => rfl); (case hg => rfl); (case hr => first | (go_simp; done) | (go_simp; rfl)); intro gb482 hg w9 hbox hb; have n0_ := Aside0.mk (blk_below (bkq BK480.out) hb); have n1_ := Aside0.mk (below_step (hbqa HB.out) hb); have n2_ := Aside0.mk (hbox); have n3_ := Aside0.mk ((by rw [hg]; exact (below_size (hbqa HB.out)) : w.heap.size ≤ gb482)); have n4_ := Aside0.mk ((by rw [hg]; exact (below_size (hbqa HB.out)) : w.heap.size ≤ gb482)); have n5_ := Aside0.mk ((by rw [hg]; exact Nat.ne_of_lt (blk_lt (bkq BK480.out)) : gb480 ≠ gb482)); have n6_ := Aside0.mk ((by rw [hg]; exact Nat.ne_of_gt (blk_lt (bkq BK480.out)) : gb482 ≠ gb480)); clear BK480 HB; revert n0_ n1_ n2_ n3_ n4_ n5_ n6_; intro BK480 HB BK482 GW482 GE482 NB480_482 NB482_480; clear hb hbox hg; have hnb10 := NB482_480.out; have hnc10 := NB480_482.out; have hcz11_0 : w9.cell? ⟨gb482, 0, none⟩ = some (.slice none 0 0) := (blk_cell BK482.out 0).trans rfl; have hcz11_1 : w9.cell? ⟨gb482, 1, none⟩ = some (.int .i64 0) := (blk_cell BK482.out 1).trans rfl; have hcz11_2 : w9.cell? ⟨gb482, 2, none⟩ = some (.slice none 0 0) := (blk_cell BK482.out 2).trans rfl; have hfz11_0 := blk_frozen BK482.out 0; have hfz11_1 := blk_frozen BK482.out 1; have hfz11_2 := blk_frozen BK482.out 2) | ((with_reducible refine gate_callee (f := 35) rfl ?_); refine goesL_ (some 13) rfl rfl Try.func35 (by kernel_rfl) rfl #[.agg #[.slice A481_0 ((rd_T26 l0_3 x8_1).f0).length c481_0, .int .i64 ((rd_T26 l0_3 x8_1).f1), .slice A481_2 ((rd_T26 l0_3 x8_1).f2).length c481_2]] rfl mpq ?_; (with_reducible refine (impl_PlaceOk.calls k1 _ _ ((rd_T26 l0_3 x8_1).f0) ((rd_T26 l0_3 x8_1).f1) _ _ ((rd_T26 l0_3 x8_1).f2) true _ ?side1 ?side2 ?side3 ?side4 A7.out).mono ?_); (case side1 => exact Kd.C_below HR481_0.out (hbqa HB.out)); (case side2 => exact HC481_0.out); (case side3 => exact Kd.C_below HR481_2.out (hbqa HB.out)); (case side4 => exact HC481_2.out); rintro e w12 ⟨rfl, hb⟩; refine ⟨_, rfl, ?_⟩; have n0_ := Aside0.mk (blk_below (g := gb480) (o := .cells #[.slice A0_0 l0_0.length c0_0, .int .i64 a0_1, .slice A0_2 l0_2.length c0_2, .slice (some ad481) l0_3.length c0_3] 29 (0, 0)) (by refine bkq ?_; refine blk_far ?_ NB480_482.out _; refine bkq ?_; refine blk_far ?_ NB480_482.out _; refine bkq ?_; refine blk_far ?_ NB480_482.out _; refine bkq ?_; exact BK480.out) hb); have n1_ := Aside0.mk (blk_below (g := gb482) (o := .cells #[.slice A481_0 ((rd_T26 l0_3 x8_1).f0).length c481_0, .int .i64 ((rd_T26 l0_3 x8_1).f1), .slice A481_2 ((rd_T26 l0_3 x8_1).f2).length c481_2] 26 (0, 0)) (by refine bkq ?_; refine blk_put (cs := #[.slice A481_0 ((rd_T26 l0_3 x8_1).f0).length c481_0, .int .i64 ((rd_T26 l0_3 x8_1).f1), .slice none 0 0]) ?_ 2 _ rfl; refine bkq ?_; refine blk_put (cs := #[.slice A481_0 ((rd_T26 l0_3 x8_1).f0).length c481_0, .int .i64 0, .slice none 0 0]) ?_ 1 _ rfl; refine bkq ?_; refine blk_put (cs := #[.slice none 0 0, .int .i64 0, .slice none 0 0]) ?_ 0 _ rfl; refine bkq ?_; exact BK482.out) hb); have n2_ := Aside0.mk (below_step (hbqa HB.out) hb); clear BK480 BK482 HB; revert n0_ n1_ n2_; intro BK480 BK482 HB; (try clear hb); (try clear hb2); (try clear hk); (try clear hi)))
       go_roundg k1
       case measure => have := HK1.out; omega
       case rel => exact ⟨(wrap64 (x8_1 + 1)), rfq, H', ⟨by have := HK1.out; omega⟩, ⟨by refine bkq ?_; exact BK480.out⟩, ⟨hbqa HB.out⟩⟩
      ·replace c8 := Bool.eq_false_iff.mpr c8
       subst c8
       have H1 : (some false) = some r := by rw [if_neg (show ¬ (false = true) by decide)] at H; exact H
       clear H
       have H := H1
       clear H1
       obtain rfl := Option.some.inj H
       have p481 : 0 ≤ (x8_1 : Int) := od
       have q481 : x8_1 < (l0_3.length : Int) := od
       obtain ⟨ad481, A481_0, c481_0, A481_2, c481_2, e481, hx481_0, hx481_1, hx481_2, hl481_0, hi481_0, hl481_2, hi481_2⟩ := at_T26 HR0_3.out x8_1 p481 q481
       cases e481
       replace hx481_0 := (HB.out.cell (World.block_lt_of_cell? w _ hx481_0)).trans hx481_0
       replace hx481_1 := (HB.out.cell (World.block_lt_of_cell? w _ hx481_1)).trans hx481_1
       replace hx481_2 := (HB.out.cell (World.block_lt_of_cell? w _ hx481_2)).trans hx481_2
       have HR481_0 := Aside0.mk hi481_0
       have HC481_0 := Aside0.mk hl481_0
       clear hi481_0 hl481_0
       have HR481_2 := Aside0.mk hi481_2
       have HC481_2 := Aside0.mk hl481_2
       clear hi481_2 hl481_2
       replace p481 := eq_true p481
       replace q481 := eq_true q481
       go_wp2_with (first | ((with_reducible refine gate_dst (N := 4) rfl ?_); (try (refine gate_guard (by rfl) ?_; dsimp only)); refine box_event ?hg (N := 4) ?hd (cs := #[.slice none 0 0, .int .i64 0, .slice none 0 0]) (t := 26) ?hr ?_; (case hd => rfl); (case hg => rfl); (case hr => first | (go_simp; done) | (go_simp; rfl)); intro gb482 hg w13 hbox hb; have n0_ := Aside0.mk (blk_below (bkq BK480.out) hb); have n1_ := Aside0.mk (below_step (hbqa HB.out) hb); have n2_ := Aside0.mk (hbox); have n3_ := Aside0.mk ((by rw [hg]; exact (below_size (hbqa HB.out)) : w.heap.size ≤ gb482)); have n4_ := Aside0.mk ((by rw [hg]; exact (below_size (hbqa HB.out)) : w.heap.size ≤ gb482)); have n5_ := Aside0.mk ((by rw [hg]; exact Nat.ne_of_lt (blk_lt (bkq BK480.out)) : gb480 ≠ gb482)); have n6_ := Aside0.mk ((by rw [hg]; exact Nat.ne_of_gt (blk_lt (bkq BK480.out)) : gb482 ≠ gb480)); clear BK480 HB; revert n0_ n1_ n2_ n3_ n4_ n5_ n6_; intro BK480 HB BK482 GW482 GE482 NB480_482 NB482_480; clear hb hbox hg; have hnb14 := NB482_480.out; have hnc14 := NB480_482.out; have hcz15_0 : w13.cell? ⟨gb482, 0, none⟩ = some (.slice none 0 0) := (blk_cell BK482.out 0).trans rfl; have hcz15_1 : w13.cell? ⟨gb482, 1, none⟩ = some (.int .i64 0) := (blk_cell BK482.out 1).trans rfl; have hcz15_2 : w13.cell? ⟨gb482, 2, none⟩ = some (.slice none 0 0) := (blk_cell BK482.out 2).trans rfl; have hfz15_0 := blk_frozen BK482.out 0; have hfz15_1 := blk_frozen BK482.out 1; have hfz15_2 := blk_frozen BK482.out 2) | ((with_reducible refine gate_callee (f := 35) rfl ?_); refine goesL_ (some 13) rfl rfl Try.func35 (by kernel_rfl) rfl #[.agg #[.slice A481_0 ((rd_T26 l0_3 x8_1).f0).length c481_0, .int .i64 ((rd_T26 l0_3 x8_1).f1), .slice A481_2 ((rd_T26 l0_3 x8_1).f2).length c481_2]] rfl mpq ?_; (with_reducible refine (impl_PlaceOk.calls k1 _ _ ((rd_T26 l0_3 x8_1).f0) ((rd_T26 l0_3 x8_1).f1) _ _ ((rd_T26 l0_3 x8_1).f2) false _ ?side1 ?side2 ?side3 ?side4 A7.out).mono ?_); (case side1 => exact Kd.C_below HR481_0.out (hbqa HB.out)); (case side2 => exact HC481_0.out); (case side3 => exact Kd.C_below HR481_2.out (hbqa HB.out)); (case side4 => exact HC481_2.out); rintro e w16 ⟨rfl, hb⟩; refine ⟨_, rfl, ?_⟩; have n0_ := Aside0.mk (blk_below (g := gb480) (o := .cells #[.slice A0_0 l0_0.length c0_0, .int .i64 a0_1, .slice A0_2 l0_2.length c0_2, .slice (some ad481) l0_3.length c0_3] 29 (0, 0)) (by refine bkq ?_; refine blk_far ?_ NB480_482.out _; refine bkq ?_; refine blk_far ?_ NB480_482.out _; refine bkq ?_; refine blk_far ?_ NB480_482.out _; refine bkq ?_; exact BK480.out) hb); have n1_ := Aside0.mk (blk_below (g := gb482) (o := .cells #[.slice A481_0 ((rd_T26 l0_3 x8_1).f0).length c481_0, .int .i64 ((rd_T26 l0_3 x8_1).f1), .slice A481_2 ((rd_T26 l0_3 x8_1).f2).length c481_2] 26 (0, 0)) (by refine bkq ?_; refine blk_put (cs := #[.slice A481_0 ((rd_T26 l0_3 x8_1).f0).length c481_0, .int .i64 ((rd_T26 l0_3 x8_1).f1), .slice none 0 0]) ?_ 2 _ rfl; refine bkq ?_; refine blk_put (cs := #[.slice A481_0 ((rd_T26 l0_3 x8_1).f0).length c481_0, .int .i64 0, .slice none 0 0]) ?_ 1 _ rfl; refine bkq ?_; refine blk_put (cs := #[.slice none 0 0, .int .i64 0, .slice none 0 0]) ?_ 0 _ rfl; refine bkq ?_; exact BK482.out) hb); have n2_ := Aside0.mk (below_step (hbqa HB.out) hb); clear BK480 BK482 HB; revert n0_ n1_ n2_; intro BK480 BK482 HB; (try clear hb); (try clear hb2); (try clear hk); (try clear hi)))
       go_ret
       exact ⟨by first | rfl | (simp [errW_none, errW_some] <;> rfl) | (simp [*, errW_none, errW_some] <;> rfl), hbqa HB.out⟩
     ·rw [if_neg c6] at H
      exact absurd H (by simp)
    ·rw [if_neg c5] at H
     exact absurd H (by simp)
   ·rw [if_neg c4] at H
    have c4b0 : decide (x8_1 < (l0_3.length : Int)) = false := decide_eq_false c4
    clear c4
    replace H := Option.bind_eq_some_iff.mp H
    obtain ⟨t484, A170, H⟩ := H
    replace H : (if t484 = true then (some (decide ((l0_3.length : Int) ≤ 8))) else (some false)) = some r := H
    have A17 := Aside0.mk A170
    clear A170
    by_cases c18 : t484 = true
    ·subst c18
     have H1 : (some (decide ((l0_3.length : Int) ≤ 8))) = some r := by rw [if_pos rfl] at H; exact H
     clear H
     have H := H1
     clear H1
     obtain rfl := Option.some.inj H
     have hcz19_0 : wr.cell? ⟨gb480, 0, none⟩ = some (.slice A0_0 l0_0.length c0_0) := (blk_cell BK480.out 0).trans rfl
     have hcz19_1 : wr.cell? ⟨gb480, 1, none⟩ = some (.int .i64 a0_1) := (blk_cell BK480.out 1).trans rfl
     have hcz19_2 : wr.cell? ⟨gb480, 2, none⟩ = some (.slice A0_2 l0_2.length c0_2) := (blk_cell BK480.out 2).trans rfl
     have hcz19_3 : wr.cell? ⟨gb480, 3, none⟩ = some (.slice A0_3 l0_3.length c0_3) := (blk_cell BK480.out 3).trans rfl
     have hfz19_0 := blk_frozen BK480.out 0
     have hfz19_1 := blk_frozen BK480.out 1
     have hfz19_2 := blk_frozen BK480.out 2
     have hfz19_3 := blk_frozen BK480.out 3
     go_wp2_with (first | ((with_reducible refine gate_callee (f := 35) rfl ?_); refine goesL_ (some 18) rfl rfl Try.func35 (by kernel_rfl) rfl #[.agg #[.slice A0_0 l0_0.length c0_0, .int .i64 a0_1, .slice A0_2 l0_2.length c0_2]] rfl mpq ?_; (with_reducible refine (impl_PlaceOk.calls k1 _ _ l0_0 a0_1 _ _ l0_2 true _ ?side1 ?side2 ?side3 ?side4 A17.out).mono ?_); (case side1 => exact coq (Kd.C_below HR0_0.out HB.out)); (case side2 => exact HC0_0.out); (case side3 => exact coq (Kd.C_below HR0_2.out HB.out)); (case side4 => exact HC0_2.out); rintro e w20 ⟨rfl, hb⟩; refine ⟨_, rfl, ?_⟩; have n0_ := Aside0.mk (blk_below (bkq BK480.out) hb); have n1_ := Aside0.mk (below_step (hbqa HB.out) hb); clear BK480 HB; revert n0_ n1_; intro BK480 HB; (try clear hb); (try clear hb2); (try clear hk); (try clear hi); have hcz21_0 : w20.cell? ⟨gb480, 0, none⟩ = some (.slice A0_0 l0_0.length c0_0) := (blk_cell BK480.out 0).trans rfl; have hcz21_1 : w20.cell? ⟨gb480, 1, none⟩ = some (.int .i64 a0_1) := (blk_cell BK480.out 1).trans rfl; have hcz21_2 : w20.cell? ⟨gb480, 2, none⟩ = some (.slice A0_2 l0_2.length c0_2) := (blk_cell BK480.out 2).trans rfl; have hcz21_3 : w20.cell? ⟨gb480, 3, none⟩ = some (.slice A0_3 l0_3.length c0_3) := (blk_cell BK480.out 3).trans rfl; have hfz21_0 := blk_frozen BK480.out 0; have hfz21_1 := blk_frozen BK480.out 1; have hfz21_2 := blk_frozen BK480.out 2; have hfz21_3 := blk_frozen BK480.out 3))
     go_ret
     exact ⟨by first | rfl | (simp [errW_none, errW_some] <;> rfl) | (simp [*, errW_none, errW_some] <;> rfl), hbqa HB.out⟩
    ·replace c18 := Bool.eq_false_iff.mpr c18
     subst c18
     have H1 : (some false) = some r := by rw [if_neg (show ¬ (false = true) by decide)] at H; exact H
     clear H
     have H := H1
     clear H1
     obtain rfl := Option.some.inj H
     have hcz22_0 : wr.cell? ⟨gb480, 0, none⟩ = some (.slice A0_0 l0_0.length c0_0) := (blk_cell BK480.out 0).trans rfl
     have hcz22_1 : wr.cell? ⟨gb480, 1, none⟩ = some (.int .i64 a0_1) := (blk_cell BK480.out 1).trans rfl
     have hcz22_2 : wr.cell? ⟨gb480, 2, none⟩ = some (.slice A0_2 l0_2.length c0_2) := (blk_cell BK480.out 2).trans rfl
     have hcz22_3 : wr.cell? ⟨gb480, 3, none⟩ = some (.slice A0_3 l0_3.length c0_3) := (blk_cell BK480.out 3).trans rfl
     have hfz22_0 := blk_frozen BK480.out 0
     have hfz22_1 := blk_frozen BK480.out 1
     have hfz22_2 := blk_frozen BK480.out 2
     have hfz22_3 := blk_frozen BK480.out 3
     go_wp2_with (first | ((with_reducible refine gate_callee (f := 35) rfl ?_); refine goesL_ (some 18) rfl rfl Try.func35 (by kernel_rfl) rfl #[.agg #[.slice A0_0 l0_0.length c0_0, .int .i64 a0_1, .slice A0_2 l0_2.length c0_2]] rfl mpq ?_; (with_reducible refine (impl_PlaceOk.calls k1 _ _ l0_0 a0_1 _ _ l0_2 false _ ?side1 ?side2 ?side3 ?side4 A17.out).mono ?_); (case side1 => exact coq (Kd.C_below HR0_0.out HB.out)); (case side2 => exact HC0_0.out); (case side3 => exact coq (Kd.C_below HR0_2.out HB.out)); (case side4 => exact HC0_2.out); rintro e w23 ⟨rfl, hb⟩; refine ⟨_, rfl, ?_⟩; have n0_ := Aside0.mk (blk_below (bkq BK480.out) hb); have n1_ := Aside0.mk (below_step (hbqa HB.out) hb); clear BK480 HB; revert n0_ n1_; intro BK480 HB; (try clear hb); (try clear hb2); (try clear hk); (try clear hi)))
     go_ret
     exact ⟨by first | rfl | (simp [errW_none, errW_some] <;> rfl) | (simp [*, errW_none, errW_some] <;> rfl), hbqa HB.out⟩

/-! ### laws_FnDeskOk: function 6 -/
def laws_FnDeskOk.f (k : Nat) (l0 : List Int) : Option (Bool) := if (l0.length : Int) > 1048576 then (some true) else ((spec_DrawDeskOk.f k l0).bind fun bt485 => ((impl_DeskOk.f k bt485.1 bt485.2.1 bt485.2.2.1 bt485.2.2.2).bind fun t496 => ((spec_DeskOk.f k bt485.1 bt485.2.1 bt485.2.2.1 bt485.2.2.2).bind fun t497 => (if (t496 != t497) = true then (none) else (if t496 = true then ((impl_DeskOk.f k bt485.1 bt485.2.1 bt485.2.2.1 ([] : List (S26))).bind fun t498 => (if t498 = true then ((impl_DeskOk.f k ([] : List Int) 0 ([] : List Int) ([] : List (S26))).bind fun t499 => (if t499 = true then (none) else ((laws_alive.f k).bind fun t500 => (some t500)))) else (none))) else ((impl_DeskOk.f k ([] : List Int) 0 ([] : List Int) ([] : List (S26))).bind fun t501 => (if t501 = true then (none) else ((laws_alive.f k).bind fun t502 => (some t502)))))))))
theorem laws_FnDeskOk.mono : ∀ a0 k, LeO (laws_FnDeskOk.f k a0) (laws_FnDeskOk.f (k + 1) a0) := by
 intro a0 k
 unfold laws_FnDeskOk.f
 repeat' first
   | (with_reducible exact impl_DeskOk.mono _ _ _ _ _)
   | (with_reducible exact laws_alive.mono _)
   | (with_reducible exact spec_DeskOk.mono _ _ _ _ _)
   | (with_reducible exact spec_DrawDeskOk.mono _ _)
   | (with_reducible exact LeO.refl _)
   | (with_reducible exact LeO.none _)
   | (with_reducible refine LeO.ite ?_ ?_)
   | (with_reducible refine LeO.bind ?_ (fun _ => ?_))
   | exact impl_DeskOk.mono _ _ _ _ _
   | exact laws_alive.mono _
   | exact spec_DeskOk.mono _ _ _ _ _
   | exact spec_DrawDeskOk.mono _ _
   | exact LeO.none _
   | refine LeO.ite ?_ ?_
   | refine LeO.bind ?_ (fun _ => ?_)
theorem impl_DeskOk.calls_n (k : Nat) (A0 : Option Addr) (c0 : Nat) (l0 : List Int) (a1 : Int) (A2 : Option Addr) (c2 : Nat) (l2 : List Int) (r : Bool) (w : World) (hr0 : Kd.C (Kd.int .i64) w A0 l0.length l0) (hc0 : l0.length ≤ c0) (hr2 : Kd.C (Kd.int .i64) w A2 l2.length l2) (hc2 : l2.length ≤ c2) (h : impl_DeskOk.f k l0 a1 l2 ([] : List S26) = some r) :
  Calls Try.prog 30 #[.agg #[.slice A0 l0.length c0, .int .i64 a1, .slice A2 l2.length c2, .slice none 0 0]] w fun e w' => e = .returned (.bool r) ∧ Below w.heap.size w w' :=
 impl_DeskOk.calls k A0 c0 l0 a1 A2 c2 l2 none 0 [] r w hr0 hc0 hr2 hc2 (Kd.C_nil _ _) (Nat.le_refl _) h
theorem impl_DeskOk.calls_z (k : Nat) (r : Bool) (w : World) (h : impl_DeskOk.f k ([] : List Int) 0 ([] : List Int) ([] : List S26) = some r) :
  Calls Try.prog 30 #[.agg #[.slice none 0 0, .int .i64 0, .slice none 0 0, .slice none 0 0]] w fun e w' => e = .returned (.bool r) ∧ Below w.heap.size w w' :=
 impl_DeskOk.calls_n k none 0 [] 0 none 0 [] r w (Kd.C_nil _ _) (Nat.le_refl _) (Kd.C_nil _ _) (Nat.le_refl _) h
set_option maxHeartbeats 8000000 in
set_option maxRecDepth 100000 in
theorem laws_FnDeskOk.calls (k : Nat) (A0 : Option Addr) (c0 : Nat) (l0 : List Int) (r : Bool) (w : World) (hr0 : Kd.C (Kd.int .u8) w A0 l0.length l0) (hc0 : l0.length ≤ c0) (h : laws_FnDeskOk.f k l0 = some r) :
  Calls Try.prog 6 #[.slice A0 l0.length c0] w fun e w' => e = .returned (.bool r) ∧ Below w.heap.size w w' := by
 have hu29 := Try.underlying29
 have hu26 := Try.underlying26
 have HR0 := Aside0.mk hr0
 have HC0 := Aside0.mk hc0
 clear hr0 hc0
 have HB := Aside0.mk (Below.refl w.heap.size w)
 have H : (if (l0.length : Int) > 1048576 then (some true) else ((spec_DrawDeskOk.f k l0).bind fun bt485 => ((impl_DeskOk.f k bt485.1 bt485.2.1 bt485.2.2.1 bt485.2.2.2).bind fun t496 => ((spec_DeskOk.f k bt485.1 bt485.2.1 bt485.2.2.1 bt485.2.2.2).bind fun t497 => (if (t496 != t497) = true then (none) else (if t496 = true then ((impl_DeskOk.f k bt485.1 bt485.2.1 bt485.2.2.1 ([] : List (S26))).bind fun t498 => (if t498 = true then ((impl_DeskOk.f k ([] : List Int) 0 ([] : List Int) ([] : List (S26))).bind fun t499 => (if t499 = true then (none) else ((laws_alive.f k).bind fun t500 => (some t500)))) else (none))) else ((impl_DeskOk.f k ([] : List Int) 0 ([] : List Int) ([] : List (S26))).bind fun t501 => (if t501 = true then (none) else ((laws_alive.f k).bind fun t502 => (some t502)))))))))) = some r := h
 clear h
 by_cases c2 : (l0.length : Int) > 1048576
 ·rw [if_pos c2] at H
  have c2b0 : decide (1048576 < (l0.length : Int)) = true := decide_eq_true c2
  have c2b1 : decide (1048576 < l0.length) = true := decide_eq_true (by omega)
  clear c2
  obtain rfl := Option.some.inj H
  go_enter Try.func6, Try.ntmps6
  go_wp2
  go_ret
  exact ⟨by first | rfl | (simp [errW_none, errW_some] <;> rfl) | (simp [*, errW_none, errW_some] <;> rfl), hbq HB.out⟩
 ·rw [if_neg c2] at H
  have c2b0 : decide (1048576 < (l0.length : Int)) = false := decide_eq_false c2
  have c2b1 : decide (1048576 < l0.length) = false := decide_eq_false (by omega)
  clear c2
  replace H := Option.bind_eq_some_iff.mp H
  obtain ⟨⟨t485, t488, t489, t492⟩, A30, H⟩ := H
  replace H : ((impl_DeskOk.f k t485 t488 t489 t492).bind fun t496 => ((spec_DeskOk.f k t485 t488 t489 t492).bind fun t497 => (if (t496 != t497) = true then (none) else (if t496 = true then ((impl_DeskOk.f k t485 t488 t489 ([] : List (S26))).bind fun t498 => (if t498 = true then ((impl_DeskOk.f k ([] : List Int) 0 ([] : List Int) ([] : List (S26))).bind fun t499 => (if t499 = true then (none) else ((laws_alive.f k).bind fun t500 => (some t500)))) else (none))) else ((impl_DeskOk.f k ([] : List Int) 0 ([] : List Int) ([] : List (S26))).bind fun t501 => (if t501 = true then (none) else ((laws_alive.f k).bind fun t502 => (some t502)))))))) = some r := H
  have A3 := Aside0.mk A30
  clear A30
  replace H := Option.bind_eq_some_iff.mp H
  obtain ⟨t496, A40, H⟩ := H
  replace H : ((spec_DeskOk.f k t485 t488 t489 t492).bind fun t497 => (if (t496 != t497) = true then (none) else (if t496 = true then ((impl_DeskOk.f k t485 t488 t489 ([] : List (S26))).bind fun t498 => (if t498 = true then ((impl_DeskOk.f k ([] : List Int) 0 ([] : List Int) ([] : List (S26))).bind fun t499 => (if t499 = true then (none) else ((laws_alive.f k).bind fun t500 => (some t500)))) else (none))) else ((impl_DeskOk.f k ([] : List Int) 0 ([] : List Int) ([] : List (S26))).bind fun t501 => (if t501 = true then (none) else ((laws_alive.f k).bind fun t502 => (some t502))))))) = some r := H
  have A4 := Aside0.mk A40
  clear A40
  replace H := Option.bind_eq_some_iff.mp H
  obtain ⟨t497, A50, H⟩ := H
  replace H : (if (t496 != t497) = true then (none) else (if t496 = true then ((impl_DeskOk.f k t485 t488 t489 ([] : List (S26))).bind fun t498 => (if t498 = true then ((impl_DeskOk.f k ([] : List Int) 0 ([] : List Int) ([] : List (S26))).bind fun t499 => (if t499 = true then (none) else ((laws_alive.f k).bind fun t500 => (some t500)))) else (none))) else ((impl_DeskOk.f k ([] : List Int) 0 ([] : List Int) ([] : List (S26))).bind fun t501 => (if t501 = true then (none) else ((laws_alive.f k).bind fun t502 => (some t502)))))) = some r := H
  have A5 := Aside0.mk A50
  clear A50
  by_cases c6 : (t496 != t497) = true
  ·rw [if_pos c6] at H
   exact absurd H (by simp)
  ·rw [if_neg c6] at H
   have c6b0 : (t496 != t497) = false := by simpa using c6
   (try (have c6b1 : decide (t496 = t497) = true := by simpa using c6))
   (try (have c6b2 : (t496 == t497) = true := by simpa using c6))
   clear c6
   by_cases c7 : t496 = true
   ·subst c7
    have H1 : ((impl_DeskOk.f k t485 t488 t489 ([] : List (S26))).bind fun t498 => (if t498 = true then ((impl_DeskOk.f k ([] : List Int) 0 ([] : List Int) ([] : List (S26))).bind fun t499 => (if t499 = true then (none) else ((laws_alive.f k).bind fun t500 => (some t500)))) else (none))) = some r := by rw [if_pos rfl] at H; exact H
    clear H
    have H := H1
    clear H1
    replace H := Option.bind_eq_some_iff.mp H
    obtain ⟨t498, A80, H⟩ := H
    replace H : (if t498 = true then ((impl_DeskOk.f k ([] : List Int) 0 ([] : List Int) ([] : List (S26))).bind fun t499 => (if t499 = true then (none) else ((laws_alive.f k).bind fun t500 => (some t500)))) else (none)) = some r := H
    have A8 := Aside0.mk A80
    clear A80
    by_cases c9 : t498 = true
    ·subst c9
     have H1 : ((impl_DeskOk.f k ([] : List Int) 0 ([] : List Int) ([] : List (S26))).bind fun t499 => (if t499 = true then (none) else ((laws_alive.f k).bind fun t500 => (some t500)))) = some r := by rw [if_pos rfl] at H; exact H
     clear H
     have H := H1
     clear H1
     replace H := Option.bind_eq_some_iff.mp H
     obtain ⟨t499, A100, H⟩ := H
     replace H : (if t499 = true then (none) else ((laws_alive.f k).bind fun t500 => (some t500))) = some r := H
     have A10 := Aside0.mk A100
     clear A100
     by_cases c11 : t499 = true
     ·subst c11
      have H1 : (none) = some r := by rw [if_pos rfl] at H; exact H
      clear H
      have H := H1
      clear H1
      exact absurd H (by simp)
     ·replace c11 := Bool.eq_false_iff.mpr c11
      subst c11
      have H1 : ((laws_alive.f k).bind fun t500 => (some t500)) = some r := by rw [if_neg (show ¬ (false = true) by decide)] at H; exact H
      clear H
      have H := H1
      clear H1
      replace H := Option.bind_eq_some_iff.mp H
      obtain ⟨t500, A120, H⟩ := H
      replace H : (some t500) = some r := H
      have A12 := Aside0.mk A120
      clear A120
      obtain rfl := Option.some.inj H
      go_enter Try.func6, Try.ntmps6
      go_wp2_with (first | ((with_reducible refine gate_callee (f := 29) rfl ?_); refine goesL_ (some 9) rfl rfl Try.func29 (by kernel_rfl) rfl #[.slice A0 l0.length c0] rfl mpq ?_; (with_reducible refine (spec_DrawDeskOk.calls k _ _ l0 t485 t488 t489 t492 _ ?side1 ?side2 A3.out).mono ?_); (case side1 => exact coq HR0.out); (case side2 => exact HC0.out); rintro e w13 ⟨v486, v490, v493, rfl, ho0, ho1, ho2, hb⟩; refine ⟨_, rfl, ?_⟩; have n0_ := Aside0.mk (Kd.R_lower ho0 (below_size (hbq HB.out))); have n1_ := Aside0.mk (Kd.R_lower ho1 (below_size (hbq HB.out))); have n2_ := Aside0.mk (Kd.Q_lower ho2 (below_size (hbq HB.out))); have n3_ := Aside0.mk (below_step (hbq HB.out) hb); clear HB; revert n0_ n1_ n2_ n3_; intro HO487 HO491 HO494 HB; (try clear hb); (try clear hb2); (try clear hk); (try clear hi); (try clear ho0); (try clear ho1); (try clear ho2)) | ((with_reducible refine gate_dst (N := 3) rfl ?_); refine box_event ?hg (N := 3) ?hd (cs := #[.slice none 0 0, .int .i64 0, .slice none 0 0, .slice none 0 0]) (t := 29) ?hr ?_; (case hd => rfl); (case hg => rfl); (case hr => first | (go_simp; done) | (go_simp; rfl)); intro gb495 hg w14 hbox hb; have n0_ := Aside0.mk (Kd.R_below (roq HO487.out) hb); have n1_ := Aside0.mk (Kd.R_below (roq HO491.out) hb); have n2_ := Aside0.mk (Kd.Q_below (qoq HO494.out) hb); have n3_ := Aside0.mk (below_step (hbq HB.out) hb); have n4_ := Aside0.mk (hbox); have n5_ := Aside0.mk ((by rw [hg]; exact (below_size (hbq HB.out)) : w.heap.size ≤ gb495)); have n6_ := Aside0.mk ((by rw [hg]; exact (below_size (hbq HB.out)) : w.heap.size ≤ gb495)); clear HO487 HO491 HO494 HB; revert n0_ n1_ n2_ n3_ n4_ n5_ n6_; intro HO487 HO491 HO494 HB BK495 GW495 GE495; clear hb hbox hg; obtain ⟨Ao15, co15, eo15⟩ := Kd.R_slice HO487.out; subst eo15; have hcz16_0 : w14.cell? ⟨gb495, 0, none⟩ = some (.slice none 0 0) := (blk_cell BK495.out 0).trans rfl; have hcz16_1 : w14.cell? ⟨gb495, 1, none⟩ = some (.int .i64 0) := (blk_cell BK495.out 1).trans rfl; have hcz16_2 : w14.cell? ⟨gb495, 2, none⟩ = some (.slice none 0 0) := (blk_cell BK495.out 2).trans rfl; have hcz16_3 : w14.cell? ⟨gb495, 3, none⟩ = some (.slice none 0 0) := (blk_cell BK495.out 3).trans rfl; have hfz16_0 := blk_frozen BK495.out 0; have hfz16_1 := blk_frozen BK495.out 1; have hfz16_2 := blk_frozen BK495.out 2; have hfz16_3 := blk_frozen BK495.out 3; obtain ⟨Ao17, co17, eo17⟩ := Kd.R_slice HO491.out; subst eo17; obtain ⟨Ao18, co18, eo18, _⟩ := Kd.Q_slice HO494.out; subst eo18) | ((with_reducible refine gate_callee (f := 30) rfl ?_); refine goesL_ (some 11) rfl rfl Try.func30 (by kernel_rfl) rfl #[.agg #[.slice Ao15 t485.length co15, .int .i64 t488, .slice Ao17 t489.length co17, .slice Ao18 t492.length co18]] rfl mpq ?_; (with_reducible refine (impl_DeskOk.calls k _ _ t485 t488 _ _ t489 _ _ t492 true _ ?side1 ?side2 ?side3 ?side4 ?side5 ?side6 A4.out).mono ?_); (case side1 => refine (Kd.R_reads' (e := 3) (base := w.heap.size) (ok := fun k_ => some k_ ≠ (.slice Ao17 t489.length co17 : Value).ownBlock) (n := t485.length) (c := co15) ?_).2.2; exact (roq (Kd.R_mono (Kd.R_far (p := ⟨gb495, 3, none⟩) (Kd.R_far (p := ⟨gb495, 2, none⟩) (Kd.R_far (p := ⟨gb495, 1, none⟩) (Kd.R_far (p := ⟨gb495, 0, none⟩) (Kd.R_types HO487.out BK495.out (by decide)) (fun _ hk => hk.2) (.slice Ao15 t485.length co15)) (fun _ hk => hk.2) (.int .i64 t488)) (fun _ hk => hk.2) (.slice Ao17 t489.length co17)) (fun _ hk => hk.2) (.slice Ao18 t492.length co18)) (fun _ h_ => h_.1)))); (case side2 => exact (Kd.R_reads' HO487.out).2.1); (case side3 => refine (Kd.R_reads' (e := 3) (base := w.heap.size) (ok := fun k_ => some k_ ≠ (.slice Ao15 t485.length co15 : Value).ownBlock) (n := t489.length) (c := co17) ?_).2.2; exact (roq (Kd.R_mono (Kd.R_far (p := ⟨gb495, 3, none⟩) (Kd.R_far (p := ⟨gb495, 2, none⟩) (Kd.R_far (p := ⟨gb495, 1, none⟩) (Kd.R_far (p := ⟨gb495, 0, none⟩) (Kd.R_types HO491.out BK495.out (by decide)) (fun _ hk => hk.2) (.slice Ao15 t485.length co15)) (fun _ hk => hk.2) (.int .i64 t488)) (fun _ hk => hk.2) (.slice Ao17 t489.length co17)) (fun _ hk => hk.2) (.slice Ao18 t492.length co18)) (fun _ h_ => h_.1)))); (case side4 => exact (Kd.R_reads' HO491.out).2.1); (case side5 => refine (Kd.Q_reads' (e := 26) (base := w.heap.size) (ok := fun k_ => (some k_ ≠ (.slice Ao15 t485.length co15 : Value).ownBlock ∧ some k_ ≠ (.slice Ao17 t489.length co17 : Value).ownBlock)) (n := t492.length) (c := co18) ?_).2.2; exact (qoq (Kd.Q_mono (Kd.Q_far (p := ⟨gb495, 3, none⟩) (Kd.Q_far (p := ⟨gb495, 2, none⟩) (Kd.Q_far (p := ⟨gb495, 1, none⟩) (Kd.Q_far (p := ⟨gb495, 0, none⟩) (Kd.Q_types HO494.out BK495.out (by decide)) (fun _ hk => hk.2) (.slice Ao15 t485.length co15)) (fun _ hk => hk.2) (.int .i64 t488)) (fun _ hk => hk.2) (.slice Ao17 t489.length co17)) (fun _ hk => hk.2) (.slice Ao18 t492.length co18)) (fun _ h_ => h_.1)))); (case side6 => exact (Kd.Q_reads' HO494.out).2.1); rintro e w19 ⟨rfl, hb⟩; refine ⟨_, rfl, ?_⟩; have n0_ := Aside0.mk (Kd.R_below (roq (Kd.R_mono (Kd.R_far (p := ⟨gb495, 3, none⟩) (Kd.R_far (p := ⟨gb495, 2, none⟩) (Kd.R_far (p := ⟨gb495, 1, none⟩) (Kd.R_far (p := ⟨gb495, 0, none⟩) (Kd.R_types HO487.out BK495.out (by decide)) (fun _ hk => hk.2) (.slice Ao15 t485.length co15)) (fun _ hk => hk.2) (.int .i64 t488)) (fun _ hk => hk.2) (.slice Ao17 t489.length co17)) (fun _ hk => hk.2) (.slice Ao18 t492.length co18)) (fun _ h_ => h_.1))) hb); have n1_ := Aside0.mk (Kd.R_below (roq (Kd.R_mono (Kd.R_far (p := ⟨gb495, 3, none⟩) (Kd.R_far (p := ⟨gb495, 2, none⟩) (Kd.R_far (p := ⟨gb495, 1, none⟩) (Kd.R_far (p := ⟨gb495, 0, none⟩) (Kd.R_types HO491.out BK495.out (by decide)) (fun _ hk => hk.2) (.slice Ao15 t485.length co15)) (fun _ hk => hk.2) (.int .i64 t488)) (fun _ hk => hk.2) (.slice Ao17 t489.length co17)) (fun _ hk => hk.2) (.slice Ao18 t492.length co18)) (fun _ h_ => h_.1))) hb); have n2_ := Aside0.mk (Kd.Q_below (qoq (Kd.Q_mono (Kd.Q_far (p := ⟨gb495, 3, none⟩) (Kd.Q_far (p := ⟨gb495, 2, none⟩) (Kd.Q_far (p := ⟨gb495, 1, none⟩) (Kd.Q_far (p := ⟨gb495, 0, none⟩) (Kd.Q_types HO494.out BK495.out (by decide)) (fun _ hk => hk.2) (.slice Ao15 t485.length co15)) (fun _ hk => hk.2) (.int .i64 t488)) (fun _ hk => hk.2) (.slice Ao17 t489.length co17)) (fun _ hk => hk.2) (.slice Ao18 t492.length co18)) (fun _ h_ => h_.1))) hb); have n3_ := Aside0.mk (blk_below (g := gb495) (o := .cells #[.slice Ao15 t485.length co15, .int .i64 t488, .slice Ao17 t489.length co17, .slice Ao18 t492.length co18] 29 (0, 0)) (by refine bkq ?_; refine blk_put (cs := #[.slice Ao15 t485.length co15, .int .i64 t488, .slice Ao17 t489.length co17, .slice none 0 0]) ?_ 3 _ rfl; refine bkq ?_; refine blk_put (cs := #[.slice Ao15 t485.length co15, .int .i64 t488, .slice none 0 0, .slice none 0 0]) ?_ 2 _ rfl; refine bkq ?_; refine blk_put (cs := #[.slice Ao15 t485.length co15, .int .i64 0, .slice none 0 0, .slice none 0 0]) ?_ 1 _ rfl; refine bkq ?_; refine blk_put (cs := #[.slice none 0 0, .int .i64 0, .slice none 0 0, .slice none 0 0]) ?_ 0 _ rfl; refine bkq ?_; exact BK495.out) hb); have n4_ := Aside0.mk (below_step (hbqa HB.out) hb); clear HO487 HO491 HO494 BK495 HB; revert n0_ n1_ n2_ n3_ n4_; intro HO487 HO491 HO494 BK495 HB; (try clear hb); (try clear hb2); (try clear hk); (try clear hi); have hcz20_0 : w19.cell? ⟨gb495, 0, none⟩ = some (.slice Ao15 t485.length co15) := (blk_cell BK495.out 0).trans rfl; have hcz20_1 : w19.cell? ⟨gb495, 1, none⟩ = some (.int .i64 t488) := (blk_cell BK495.out 1).trans rfl; have hcz20_2 : w19.cell? ⟨gb495, 2, none⟩ = some (.slice Ao17 t489.length co17) := (blk_cell BK495.out 2).trans rfl; have hcz20_3 : w19.cell? ⟨gb495, 3, none⟩ = some (.slice Ao18 t492.length co18) := (blk_cell BK495.out 3).trans rfl; have hfz20_0 := blk_frozen BK495.out 0; have hfz20_1 := blk_frozen BK495.out 1; have hfz20_2 := blk_frozen BK495.out 2; have hfz20_3 := blk_frozen BK495.out 3) | ((with_reducible refine gate_callee (f := 31) rfl ?_); refine goesL_ (some 14) rfl rfl Try.func31 (by kernel_rfl) rfl #[.agg #[.slice Ao15 t485.length co15, .int .i64 t488, .slice Ao17 t489.length co17, .slice Ao18 t492.length co18]] rfl mpq ?_; (with_reducible refine (spec_DeskOk.calls k _ _ t485 t488 _ _ t489 _ _ t492 t497 _ ?side1 ?side2 ?side3 ?side4 ?side5 ?side6 A5.out).mono ?_); (case side1 => exact coq ((Kd.R_reads' HO487.out).2.2)); (case side2 => exact (Kd.R_reads' HO487.out).2.1); (case side3 => exact coq ((Kd.R_reads' HO491.out).2.2)); (case side4 => exact (Kd.R_reads' HO491.out).2.1); (case side5 => exact coq ((Kd.Q_reads' HO494.out).2.2)); (case side6 => exact (Kd.Q_reads' HO494.out).2.1); rintro e w21 ⟨rfl, hb⟩; refine ⟨_, rfl, ?_⟩; have n0_ := Aside0.mk (Kd.R_below (roq HO487.out) hb); have n1_ := Aside0.mk (Kd.R_below (roq HO491.out) hb); have n2_ := Aside0.mk (Kd.Q_below (qoq HO494.out) hb); have n3_ := Aside0.mk (blk_below (bkq BK495.out) hb); have n4_ := Aside0.mk (below_step (hbqa HB.out) hb); clear HO487 HO491 HO494 BK495 HB; revert n0_ n1_ n2_ n3_ n4_; intro HO487 HO491 HO494 BK495 HB; (try clear hb); (try clear hb2); (try clear hk); (try clear hi); have hcz22_0 : w21.cell? ⟨gb495, 0, none⟩ = some (.slice Ao15 t485.length co15) := (blk_cell BK495.out 0).trans rfl; have hcz22_1 : w21.cell? ⟨gb495, 1, none⟩ = some (.int .i64 t488) := (blk_cell BK495.out 1).trans rfl; have hcz22_2 : w21.cell? ⟨gb495, 2, none⟩ = some (.slice Ao17 t489.length co17) := (blk_cell BK495.out 2).trans rfl; have hcz22_3 : w21.cell? ⟨gb495, 3, none⟩ = some (.slice Ao18 t492.length co18) := (blk_cell BK495.out 3).trans rfl; have hfz22_0 := blk_frozen BK495.out 0; have hfz22_1 := blk_frozen BK495.out 1; have hfz22_2 := blk_frozen BK495.out 2; have hfz22_3 := blk_frozen BK495.out 3) | (go_at_call 30; (with_reducible refine (impl_DeskOk.calls_n k _ _ t485 t488 _ _ t489 true _ ?side1 ?side2 ?side3 ?side4 A8.out).mono ?_); (case side1 => exact coq ((Kd.R_reads' HO487.out).2.2)); (case side2 => exact (Kd.R_reads' HO487.out).2.1); (case side3 => exact coq ((Kd.R_reads' HO491.out).2.2)); (case side4 => exact (Kd.R_reads' HO491.out).2.1); rintro e w23 ⟨rfl, hb⟩; have n0_ := Aside0.mk (Kd.R_below (roq HO487.out) hb); have n1_ := Aside0.mk (Kd.R_below (roq HO491.out) hb); have n2_ := Aside0.mk (Kd.Q_below (qoq HO494.out) hb); have n3_ := Aside0.mk (blk_below (bkq BK495.out) hb); have n4_ := Aside0.mk (below_step (hbqa HB.out) hb); clear HO487 HO491 HO494 BK495 HB; revert n0_ n1_ n2_ n3_ n4_; intro HO487 HO491 HO494 BK495 HB; (try clear hb); (try clear hb2); (try clear hk); (try clear hi)) | (go_at_call 30; (with_reducible refine (impl_DeskOk.calls_z k false _ A10.out).mono ?_); rintro e w24 ⟨rfl, hb⟩; have n0_ := Aside0.mk (Kd.R_below (roq HO487.out) hb); have n1_ := Aside0.mk (Kd.R_below (roq HO491.out) hb); have n2_ := Aside0.mk (Kd.Q_below (qoq HO494.out) hb); have n3_ := Aside0.mk (blk_below (bkq BK495.out) hb); have n4_ := Aside0.mk (below_step (hbqa HB.out) hb); clear HO487 HO491 HO494 BK495 HB; revert n0_ n1_ n2_ n3_ n4_; intro HO487 HO491 HO494 BK495 HB; (try clear hb); (try clear hb2); (try clear hk); (try clear hi)) | (go_at_call 25; (with_reducible refine (laws_alive.calls k  t500 _ A12.out).mono ?_); rintro e w25 ⟨rfl, hb⟩; have n0_ := Aside0.mk (Kd.R_below (roq HO487.out) hb); have n1_ := Aside0.mk (Kd.R_below (roq HO491.out) hb); have n2_ := Aside0.mk (Kd.Q_below (qoq HO494.out) hb); have n3_ := Aside0.mk (blk_below (bkq BK495.out) hb); have n4_ := Aside0.mk (below_step (hbqa HB.out) hb); clear HO487 HO491 HO494 BK495 HB; revert n0_ n1_ n2_ n3_ n4_; intro HO487 HO491 HO494 BK495 HB; (try clear hb); (try clear hb2); (try clear hk); (try clear hi)))
      go_ret
      exact ⟨by first | rfl | (simp [errW_none, errW_some] <;> rfl) | (simp [*, errW_none, errW_some] <;> rfl), hbqa HB.out⟩
    ·replace c9 := Bool.eq_false_iff.mpr c9
     subst c9
     have H1 : (none) = some r := by rw [if_neg (show ¬ (false = true) by decide)] at H; exact H
     clear H
     have H := H1
     clear H1
     exact absurd H (by simp)
   ·replace c7 := Bool.eq_false_iff.mpr c7
    subst c7
    have H1 : ((impl_DeskOk.f k ([] : List Int) 0 ([] : List Int) ([] : List (S26))).bind fun t501 => (if t501 = true then (none) else ((laws_alive.f k).bind fun t502 => (some t502)))) = some r := by rw [if_neg (show ¬ (false = true) by decide)] at H; exact H
    clear H
    have H := H1
    clear H1
    replace H := Option.bind_eq_some_iff.mp H
    obtain ⟨t501, A260, H⟩ := H
    replace H : (if t501 = true then (none) else ((laws_alive.f k).bind fun t502 => (some t502))) = some r := H
    have A26 := Aside0.mk A260
    clear A260
    by_cases c27 : t501 = true
    ·subst c27
     have H1 : (none) = some r := by rw [if_pos rfl] at H; exact H
     clear H
     have H := H1
     clear H1
     exact absurd H (by simp)
    ·replace c27 := Bool.eq_false_iff.mpr c27
     subst c27
     have H1 : ((laws_alive.f k).bind fun t502 => (some t502)) = some r := by rw [if_neg (show ¬ (false = true) by decide)] at H; exact H
     clear H
     have H := H1
     clear H1
     replace H := Option.bind_eq_some_iff.mp H
     obtain ⟨t502, A280, H⟩ := H
     replace H : (some t502) = some r := H
     have A28 := Aside0.mk A280
     clear A280
     obtain rfl := Option.some.inj H
     go_enter Try.func6, Try.ntmps6
     go_wp2_with (first | ((with_reducible refine gate_callee (f := 29) rfl ?_); refine goesL_ (some 9) rfl rfl Try.func29 (by kernel_rfl) rfl #[.slice A0 l0.length c0] rfl mpq ?_; (with_reducible refine (spec_DrawDeskOk.calls k _ _ l0 t485 t488 t489 t492 _ ?side1 ?side2 A3.out).mono ?_); (case side1 => exact coq HR0.out); (case side2 => exact HC0.out); rintro e w29 ⟨v486, v490, v493, rfl, ho0, ho1, ho2, hb⟩; refine ⟨_, rfl, ?_⟩; have n0_ := Aside0.mk (Kd.R_lower ho0 (below_size (hbq HB.out))); have n1_ := Aside0.mk (Kd.R_lower ho1 (below_size (hbq HB.out))); have n2_ := Aside0.mk (Kd.Q_lower ho2 (below_size (hbq HB.out))); have n3_ := Aside0.mk (below_step (hbq HB.out) hb); clear HB; revert n0_ n1_ n2_ n3_; intro HO487 HO491 HO494 HB; (try clear hb); (try clear hb2); (try clear hk); (try clear hi); (try clear ho0); (try clear ho1); (try clear ho2)) | ((with_reducible refine gate_dst (N := 3) rfl ?_); refine box_event ?hg (N := 3) ?hd (cs := #[.slice none 0 0, .int .i64 0, .slice none 0 0, .slice none 0 0]) (t := 29) ?hr ?_; (case hd => rfl); (case hg => rfl); (case hr => first | (go_simp; done) | (go_simp; rfl)); intro gb495 hg w30 hbox hb; have n0_ := Aside0.mk (Kd.R_below (roq HO487.out) hb); have n1_ := Aside0.mk (Kd.R_below (roq HO491.out) hb); have n2_ := Aside0.mk (Kd.Q_below (qoq HO494.out) hb); have n3_ := Aside0.mk (below_step (hbq HB.out) hb); have n4_ := Aside0.mk (hbox); have n5_ := Aside0.mk ((by rw [hg]; exact (below_size (hbq HB.out)) : w.heap.size ≤ gb495)); have n6_ := Aside0.mk ((by rw [hg]; exact (below_size (hbq HB.out)) : w.heap.size ≤ gb495)); clear HO487 HO491 HO494 HB; revert n0_ n1_ n2_ n3_ n4_ n5_ n6_; intro HO487 HO491 HO494 HB BK495 GW495 GE495; clear hb hbox hg; obtain ⟨Ao31, co31, eo31⟩ := Kd.R_slice HO487.out; subst eo31; have hcz32_0 : w30.cell? ⟨gb495, 0, none⟩ = some (.slice none 0 0) := (blk_cell BK495.out 0).trans rfl; have hcz32_1 : w30.cell? ⟨gb495, 1, none⟩ = some (.int .i64 0) := (blk_cell BK495.out 1).trans rfl; have hcz32_2 : w30.cell? ⟨gb495, 2, none⟩ = some (.slice none 0 0) := (blk_cell BK495.out 2).trans rfl; have hcz32_3 : w30.cell? ⟨gb495, 3, none⟩ = some (.slice none 0 0) := (blk_cell BK495.out 3).trans rfl; have hfz32_0 := blk_frozen BK495.out 0; have hfz32_1 := blk_frozen BK495.out 1; have hfz32_2 := blk_frozen BK495.out 2; have hfz32_3 := blk_frozen BK495.out 3; obtain ⟨Ao33, co33, eo33⟩ := Kd.R_slice HO491.out; subst eo33; obtain ⟨Ao34, co34, eo34, _⟩ := Kd.Q_slice HO494.out; subst eo34) | ((with_reducible refine gate_callee (f := 30) rfl ?_); refine goesL_ (some 11) rfl rfl Try.func30 (by kernel_rfl) rfl #[.agg #[.slice Ao31 t485.length co31, .int .i64 t488, .slice Ao33 t489.length co33, .slice Ao34 t492.length co34]] rfl mpq ?_; (with_reducible refine (impl_DeskOk.calls k _ _ t485 t488 _ _ t489 _ _ t492 false _ ?side1 ?side2 ?side3 ?side4 ?side5 ?side6 A4.out).mono ?_); (case side1 => refine (Kd.R_reads' (e := 3) (base := w.heap.size) (ok := fun k_ => some k_ ≠ (.slice Ao33 t489.length co33 : Value).ownBlock) (n := t485.length) (c := co31) ?_).2.2; exact (roq (Kd.R_mono (Kd.R_far (p := ⟨gb495, 3, none⟩) (Kd.R_far (p := ⟨gb495, 2, none⟩) (Kd.R_far (p := ⟨gb495, 1, none⟩) (Kd.R_far (p := ⟨gb495, 0, none⟩) (Kd.R_types HO487.out BK495.out (by decide)) (fun _ hk => hk.2) (.slice Ao31 t485.length co31)) (fun _ hk => hk.2) (.int .i64 t488)) (fun _ hk => hk.2) (.slice Ao33 t489.length co33)) (fun _ hk => hk.2) (.slice Ao34 t492.length co34)) (fun _ h_ => h_.1)))); (case side2 => exact (Kd.R_reads' HO487.out).2.1); (case side3 => refine (Kd.R_reads' (e := 3) (base := w.heap.size) (ok := fun k_ => some k_ ≠ (.slice Ao31 t485.length co31 : Value).ownBlock) (n := t489.length) (c := co33) ?_).2.2; exact (roq (Kd.R_mono (Kd.R_far (p := ⟨gb495, 3, none⟩) (Kd.R_far (p := ⟨gb495, 2, none⟩) (Kd.R_far (p := ⟨gb495, 1, none⟩) (Kd.R_far (p := ⟨gb495, 0, none⟩) (Kd.R_types HO491.out BK495.out (by decide)) (fun _ hk => hk.2) (.slice Ao31 t485.length co31)) (fun _ hk => hk.2) (.int .i64 t488)) (fun _ hk => hk.2) (.slice Ao33 t489.length co33)) (fun _ hk => hk.2) (.slice Ao34 t492.length co34)) (fun _ h_ => h_.1)))); (case side4 => exact (Kd.R_reads' HO491.out).2.1); (case side5 => refine (Kd.Q_reads' (e := 26) (base := w.heap.size) (ok := fun k_ => (some k_ ≠ (.slice Ao31 t485.length co31 : Value).ownBlock ∧ some k_ ≠ (.slice Ao33 t489.length co33 : Value).ownBlock)) (n := t492.length) (c := co34) ?_).2.2; exact (qoq (Kd.Q_mono (Kd.Q_far (p := ⟨gb495, 3, none⟩) (Kd.Q_far (p := ⟨gb495, 2, none⟩) (Kd.Q_far (p := ⟨gb495, 1, none⟩) (Kd.Q_far (p := ⟨gb495, 0, none⟩) (Kd.Q_types HO494.out BK495.out (by decide)) (fun _ hk => hk.2) (.slice Ao31 t485.length co31)) (fun _ hk => hk.2) (.int .i64 t488)) (fun _ hk => hk.2) (.slice Ao33 t489.length co33)) (fun _ hk => hk.2) (.slice Ao34 t492.length co34)) (fun _ h_ => h_.1)))); (case side6 => exact (Kd.Q_reads' HO494.out).2.1); rintro e w35 ⟨rfl, hb⟩; refine ⟨_, rfl, ?_⟩; have n0_ := Aside0.mk (Kd.R_below (roq (Kd.R_mono (Kd.R_far (p := ⟨gb495, 3, none⟩) (Kd.R_far (p := ⟨gb495, 2, none⟩) (Kd.R_far (p := ⟨gb495, 1, none⟩) (Kd.R_far (p := ⟨gb495, 0, none⟩) (Kd.R_types HO487.out BK495.out (by decide)) (fun _ hk => hk.2) (.slice Ao31 t485.length co31)) (fun _ hk => hk.2) (.int .i64 t488)) (fun _ hk => hk.2) (.slice Ao33 t489.length co33)) (fun _ hk => hk.2) (.slice Ao34 t492.length co34)) (fun _ h_ => h_.1))) hb); have n1_ := Aside0.mk (Kd.R_below (roq (Kd.R_mono (Kd.R_far (p := ⟨gb495, 3, none⟩) (Kd.R_far (p := ⟨gb495, 2, none⟩) (Kd.R_far (p := ⟨gb495, 1, none⟩) (Kd.R_far (p := ⟨gb495, 0, none⟩) (Kd.R_types HO491.out BK495.out (by decide)) (fun _ hk => hk.2) (.slice Ao31 t485.length co31)) (fun _ hk => hk.2) (.int .i64 t488)) (fun _ hk => hk.2) (.slice Ao33 t489.length co33)) (fun _ hk => hk.2) (.slice Ao34 t492.length co34)) (fun _ h_ => h_.1))) hb); have n2_ := Aside0.mk (Kd.Q_below (qoq (Kd.Q_mono (Kd.Q_far (p := ⟨gb495, 3, none⟩) (Kd.Q_far (p := ⟨gb495, 2, none⟩) (Kd.Q_far (p := ⟨gb495, 1, none⟩) (Kd.Q_far (p := ⟨gb495, 0, none⟩) (Kd.Q_types HO494.out BK495.out (by decide)) (fun _ hk => hk.2) (.slice Ao31 t485.length co31)) (fun _ hk => hk.2) (.int .i64 t488)) (fun _ hk => hk.2) (.slice Ao33 t489.length co33)) (fun _ hk => hk.2) (.slice Ao34 t492.length co34)) (fun _ h_ => h_.1))) hb); have n3_ := Aside0.mk (blk_below (g := gb495) (o := .cells #[.slice Ao31 t485.length co31, .int .i64 t488, .slice Ao33 t489.length co33, .slice Ao34 t492.length co34] 29 (0, 0)) (by refine bkq ?_; refine blk_put (cs := #[.slice Ao31 t485.length co31, .int .i64 t488, .slice Ao33 t489.length co33, .slice none 0 0]) ?_ 3 _ rfl; refine bkq ?_; refine blk_put (cs := #[.slice Ao31 t485.length co31, .int .i64 t488, .slice none 0 0, .slice none 0 0]) ?_ 2 _ rfl; refine bkq ?_; refine blk_put (cs := #[.slice Ao31 t485.length co31, .int .i64 0, .slice none 0 0, .slice none 0 0]) ?_ 1 _ rfl; refine bkq ?_; refine blk_put (cs := #[.slice none 0 0, .int .i64 0, .slice none 0 0, .slice none 0 0]) ?_ 0 _ rfl; refine bkq ?_; exact BK495.out) hb); have n4_ := Aside0.mk (below_step (hbqa HB.out) hb); clear HO487 HO491 HO494 BK495 HB; revert n0_ n1_ n2_ n3_ n4_; intro HO487 HO491 HO494 BK495 HB; (try clear hb); (try clear hb2); (try clear hk); (try clear hi); have hcz36_0 : w35.cell? ⟨gb495, 0, none⟩ = some (.slice Ao31 t485.length co31) := (blk_cell BK495.out 0).trans rfl; have hcz36_1 : w35.cell? ⟨gb495, 1, none⟩ = some (.int .i64 t488) := (blk_cell BK495.out 1).trans rfl; have hcz36_2 : w35.cell? ⟨gb495, 2, none⟩ = some (.slice Ao33 t489.length co33) := (blk_cell BK495.out 2).trans rfl; have hcz36_3 : w35.cell? ⟨gb495, 3, none⟩ = some (.slice Ao34 t492.length co34) := (blk_cell BK495.out 3).trans rfl; have hfz36_0 := blk_frozen BK495.out 0; have hfz36_1 := blk_frozen BK495.out 1; have hfz36_2 := blk_frozen BK495.out 2; have hfz36_3 := blk_frozen BK495.out 3) | ((with_reducible refine gate_callee (f := 31) rfl ?_); refine goesL_ (some 14) rfl rfl Try.func31 (by kernel_rfl) rfl #[.agg #[.slice Ao31 t485.length co31, .int .i64 t488, .slice Ao33 t489.length co33, .slice Ao34 t492.length co34]] rfl mpq ?_; (with_reducible refine (spec_DeskOk.calls k _ _ t485 t488 _ _ t489 _ _ t492 t497 _ ?side1 ?side2 ?side3 ?side4 ?side5 ?side6 A5.out).mono ?_); (case side1 => exact coq ((Kd.R_reads' HO487.out).2.2)); (case side2 => exact (Kd.R_reads' HO487.out).2.1); (case side3 => exact coq ((Kd.R_reads' HO491.out).2.2)); (case side4 => exact (Kd.R_reads' HO491.out).2.1); (case side5 => exact coq ((Kd.Q_reads' HO494.out).2.2)); (case side6 => exact (Kd.Q_reads' HO494.out).2.1); rintro e w37 ⟨rfl, hb⟩; refine ⟨_, rfl, ?_⟩; have n0_ := Aside0.mk (Kd.R_below (roq HO487.out) hb); have n1_ := Aside0.mk (Kd.R_below (roq HO491.out) hb); have n2_ := Aside0.mk (Kd.Q_below (qoq HO494.out) hb); have n3_ := Aside0.mk (blk_below (bkq BK495.out) hb); have n4_ := Aside0.mk (below_step (hbqa HB.out) hb); clear HO487 HO491 HO494 BK495 HB; revert n0_ n1_ n2_ n3_ n4_; intro HO487 HO491 HO494 BK495 HB; (try clear hb); (try clear hb2); (try clear hk); (try clear hi)) | (go_at_call 30; (with_reducible refine (impl_DeskOk.calls_z k false _ A26.out).mono ?_); rintro e w38 ⟨rfl, hb⟩; have n0_ := Aside0.mk (Kd.R_below (roq HO487.out) hb); have n1_ := Aside0.mk (Kd.R_below (roq HO491.out) hb); have n2_ := Aside0.mk (Kd.Q_below (qoq HO494.out) hb); have n3_ := Aside0.mk (blk_below (bkq BK495.out) hb); have n4_ := Aside0.mk (below_step (hbqa HB.out) hb); clear HO487 HO491 HO494 BK495 HB; revert n0_ n1_ n2_ n3_ n4_; intro HO487 HO491 HO494 BK495 HB; (try clear hb); (try clear hb2); (try clear hk); (try clear hi)) | (go_at_call 25; (with_reducible refine (laws_alive.calls k  t502 _ A28.out).mono ?_); rintro e w39 ⟨rfl, hb⟩; have n0_ := Aside0.mk (Kd.R_below (roq HO487.out) hb); have n1_ := Aside0.mk (Kd.R_below (roq HO491.out) hb); have n2_ := Aside0.mk (Kd.Q_below (qoq HO494.out) hb); have n3_ := Aside0.mk (blk_below (bkq BK495.out) hb); have n4_ := Aside0.mk (below_step (hbqa HB.out) hb); clear HO487 HO491 HO494 BK495 HB; revert n0_ n1_ n2_ n3_ n4_; intro HO487 HO491 HO494 BK495 HB; (try clear hb); (try clear hb2); (try clear hk); (try clear hi)))
     go_ret
     exact ⟨by first | rfl | (simp [errW_none, errW_some] <;> rfl) | (simp [*, errW_none, errW_some] <;> rfl), hbqa HB.out⟩

/-- THE ONE PURE STATEMENT of laws_FnDeskOk: yours. -/
def laws_FnDeskOk.Pure : Prop := ∀ (l0 : List Int), l0.length ≤ maxLen → l0.length * 1 ≤ 140737488351232 → (∀ x ∈ l0, (Lit.int .u8 x).wf = true) → ∃ k, laws_FnDeskOk.f k l0 = some true
theorem laws_FnDeskOk.walk (P : laws_FnDeskOk.Pure) (a0 : Option Addr) (len0 cap0 : Nat) (z0 : List Int) (w : World) (w0 : (a0 = none ∧ len0 = 0 ∧ cap0 = 0 ∧ z0 = []) ∨ ∃ x, a0 = some x ∧ len0 ≤ cap0 ∧ cap0 ≤ maxLen ∧ z0.length = cap0 ∧ (∀ i, i < z0.length → w.cell? (x.add i) = some (.int .u8 (z0.getD i 0))) ∧ ∀ n ∈ z0, (Lit.int .u8 n).wf = true) (y0 : len0 * 1 ≤ 140737488351232) :
  Calls Try.prog 6 #[.slice a0 len0 cap0] w fun e w' => e = .returned (.bool true) ∧ Below w.heap.size w w' := by
 obtain ⟨l0, rfl, hr0, hm0, hw0, hc0⟩ := ReadsInt.ofRowC w0
 obtain ⟨k, h⟩ := P l0 hm0 y0 hw0
 refine (laws_FnDeskOk.calls k _ _ l0 true w (Kd.C_of_reads (d := (0 : Int)) (h1 := fun _ => rfl) hr0) hc0 h).mono ?_
 rintro e w' ⟨rfl, hd⟩
 exact ⟨rfl, hd⟩

end Go.Proofs.Ytnhgiincboocaaa.PFnDeskOk
