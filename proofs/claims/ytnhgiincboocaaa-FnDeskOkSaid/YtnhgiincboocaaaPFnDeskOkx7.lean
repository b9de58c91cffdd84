-- written by wip/tools/pstub.py (my own program, over the kit's print)
import Derived.Test.YtnhgiincboocaaaPFnDeskOkx0
import Derived.Test.YtnhgiincboocaaaPFnDeskOkx3
import Derived.Test.YtnhgiincboocaaaPFnDeskOkx4
namespace Go.Proofs.Ytnhgiincboocaaa.PFnDeskOk
open Go.RowKit Go.Proofs.YtnhgiincboocaaaW.PrintWords Go.Proofs.YtnhgiincboocaaaW.PrintLast Go.Proofs.YtnhgiincboocaaaW.PrintMore
attribute [local go_sem] max2_int min2_int max_two min_two max_three min_three max_four min_four   -- for this text's walks alone
set_option linter.unusedVariables false
set_option linter.unusedSimpArgs false

/-! ### spec_DeskOk: function 31 -/
def spec_DeskOk.l0 : Nat → Int → List Int → Int → List Int → List (S26) → Option (Bool)
 | 0, _, _, _, _, _ => none
 | k + 1, x3, x271000, x271001, x271002, x271003 => if x3 < (x271003.length : Int) then (if 0 ≤ x3 then ((spec_PlaceOk.f k ((rd_T26 x271003 x3).f0) ((rd_T26 x271003 x3).f1) ((rd_T26 x271003 x3).f2)).bind fun t272 => (if t272 = true then (spec_DeskOk.l0 k (wrap64 (x3 + 1)) x271000 x271001 x271002 x271003) else (some false))) else (none)) else ((spec_PlaceOk.f k x271000 x271001 x271002).bind fun t273 => (if t273 = true then (some (decide ((x271003.length : Int) ≤ 8))) else (some false)))
def spec_DeskOk.f (k : Nat) (l0_0 : List Int) (a0_1 : Int) (l0_2 : List Int) (l0_3 : List (S26)) : Option (Bool) := spec_DeskOk.l0 k 0 l0_0 a0_1 l0_2 l0_3
theorem spec_DeskOk.mono_l : ∀ k, (∀ y0 y1 y2 y3 y4, LeO (spec_DeskOk.l0 k y0 y1 y2 y3 y4) (spec_DeskOk.l0 (k + 1) y0 y1 y2 y3 y4))
 | 0 => fun _ _ _ _ _ r h => by simp [spec_DeskOk.l0] at h
 | k + 1 => by
  have ih0 := spec_DeskOk.mono_l k
  ·intro y0 y1 y2 y3 y4
   unfold spec_DeskOk.l0
   repeat' first | (with_reducible first | exact ih0 _ _ _ _ _ | exact spec_PlaceOk.mono _ _ _ _ | exact LeO.refl _ | exact LeO.none _ | refine LeO.ite ?_ ?_ | refine LeO.bind ?_ (fun _ => ?_)) | exact LeO.none _ | refine LeO.ite ?_ ?_ | refine LeO.bind ?_ (fun _ => ?_)
theorem spec_DeskOk.mono : ∀ a0 a1 a2 a3 k, LeO (spec_DeskOk.f k a0 a1 a2 a3) (spec_DeskOk.f (k + 1) a0 a1 a2 a3) := by
 intro a0 a1 a2 a3 k
 have ih0 := spec_DeskOk.mono_l k
 unfold spec_DeskOk.f
 repeat' first
   | (with_reducible exact ih0 _ _ _ _ _)
   | (with_reducible exact spec_PlaceOk.mono _ _ _ _)
   | (with_reducible exact LeO.refl _)
   | (with_reducible exact LeO.none _)
   | (with_reducible refine LeO.ite ?_ ?_)
   | (with_reducible refine LeO.bind ?_ (fun _ => ?_))
   | exact ih0 _ _ _ _ _
   | exact spec_PlaceOk.mono _ _ _ _
   | exact LeO.none _
   | refine LeO.ite ?_ ?_
   | refine LeO.bind ?_ (fun _ => ?_)
set_option maxHeartbeats 8000000 in
set_option maxRecDepth 100000 in
theorem spec_DeskOk.calls (k : Nat) (A0_0 : Option Addr) (c0_0 : Nat) (l0_0 : List Int) (a0_1 : Int) (A0_2 : Option Addr) (c0_2 : Nat) (l0_2 : List Int) (A0_3 : Option Addr) (c0_3 : Nat) (l0_3 : List (S26)) (r : Bool) (w : World) (hr0_0 : Kd.C (Kd.int .i64) w A0_0 l0_0.length l0_0) (hc0_0 : l0_0.length ≤ c0_0) (hr0_2 : Kd.C (Kd.int .i64) w A0_2 l0_2.length l0_2) (hc0_2 : l0_2.length ≤ c0_2) (hr0_3 : Kd.C k26 w A0_3 l0_3.length l0_3) (hc0_3 : l0_3.length ≤ c0_3) (h : spec_DeskOk.f k l0_0 a0_1 l0_2 l0_3 = some r) :
  Calls Try.prog 31 #[.agg #[.slice A0_0 l0_0.length c0_0, .int .i64 a0_1, .slice A0_2 l0_2.length c0_2, .slice A0_3 l0_3.length c0_3]] w fun e w' => e = .returned (.bool r) ∧ Below w.heap.size w w' := by
 have hu29 := Try.underlying29
 have hu26 := Try.underlying26
 have HR0_0 := Aside0.mk hr0_0
 have HC0_0 := Aside0.mk hc0_0
 clear hr0_0 hc0_0
 have HR0_2 := Aside0.mk hr0_2
 have HC0_2 := Aside0.mk hc0_2
 clear hr0_2 hc0_2
 have HR0_3 := Aside0.mk hr0_3
 have HC0_3 := Aside0.mk hc0_3
 clear hr0_3 hc0_3
 have HB := Aside0.mk (Below.refl w.heap.size w)
 have H : (spec_DeskOk.l0 k 0 l0_0 a0_1 l0_2 l0_3) = some r := h
 clear h
 have H' := Aside0.mk H
 clear H
 go_enter Try.func31, Try.ntmps31
 go_wp2_with (first | ((with_reducible refine gate_dst (N := 1) rfl ?_); (try (refine gate_guard (by rfl) ?_; dsimp only)); refine box_event ?hg (N := 1) ?hd (cs := #[.slice A0_0 l0_0.length c0_0, .int .i64 a0_1, .slice A0_2 l0_2.length c0_2, .slice A0_3 l0_3.length c0_3]) (t := 29) ?hr ?_; (case hd => rfl); (case hg => rfl); (case hr => first | (go_simp; done) | (go_simp; rfl)); intro gb270 hg w2 hbox hb; have n0_ := Aside0.mk (below_step (hbq HB.out) hb); have n1_ := Aside0.mk (hbox); have n2_ := Aside0.mk ((by rw [hg]; exact (below_size (hbq HB.out)) : w.heap.size ≤ gb270)); have n3_ := Aside0.mk ((by rw [hg]; exact (below_size (hbq HB.out)) : w.heap.size ≤ gb270)); clear HB; revert n0_ n1_ n2_ n3_; intro HB BK270 GW270 GE270; clear hb hbox hg))
 go_loopg [3] k (fun kq v3 w' => ∃ (x3_1 : Int), v3 = .int .i64 x3_1 ∧ Aside0 (spec_DeskOk.l0 kq x3_1 l0_0 a0_1 l0_2 l0_3 = some r) ∧ Aside0 (kq ≤ k) ∧ Aside0 (w'.heap[gb270]? = some (.cells #[(.slice A0_0 l0_0.length c0_0), .int .i64 a0_1, (.slice A0_2 l0_2.length c0_2), (.slice A0_3 l0_3.length c0_3)] 29 (0, 0))) ∧ Aside0 (Below w.heap.size w w'))
 case atStart => exact ⟨(0), rfq, H', ⟨Nat.le_refl _⟩, ⟨by refine bkq ?_; exact BK270.out⟩, ⟨hbqa HB.out⟩⟩
 case round =>
  clear H'
  try clear p2
  obtain ⟨x3_1, rfl, HA, HK1, BK270, HB⟩ := hrel
  cases gk with
  | zero => exact absurd HA.out (by simp [spec_DeskOk.l0])
  | succ k1 =>
   have H := HA.out
   clear HA
   simp only [spec_DeskOk.l0] at H
   by_cases c3 : x3_1 < (l0_3.length : Int)
   ·rw [if_pos c3] at H
    have c3b0 : decide (x3_1 < (l0_3.length : Int)) = true := decide_eq_true c3
    clear c3
    by_cases c4 : 0 ≤ x3_1
    ·rw [if_pos c4] at H
     have c4b0 : decide (0 ≤ x3_1) = true := decide_eq_true c4
     clear c4
     replace H := Option.bind_eq_some_iff.mp H
     obtain ⟨t272, A50, H⟩ := H
     replace H : (if t272 = true then (spec_DeskOk.l0 k1 (wrap64 (x3_1 + 1)) l0_0 a0_1 l0_2 l0_3) else (some false)) = some r := H
     have A5 := Aside0.mk A50
     clear A50
     by_cases c6 : t272 = true
     ·subst c6
      have H1 : (spec_DeskOk.l0 k1 (wrap64 (x3_1 + 1)) l0_0 a0_1 l0_2 l0_3) = some r := by rw [if_pos rfl] at H; exact H
      clear H
      have H := H1
      clear H1
      have H' := Aside0.mk H
      clear H
      have hcz7_0 : wr.cell? ⟨gb270, 0, none⟩ = some (.slice A0_0 l0_0.length c0_0) := (blk_cell BK270.out 0).trans rfl
      have hcz7_1 : wr.cell? ⟨gb270, 1, none⟩ = some (.int .i64 a0_1) := (blk_cell BK270.out 1).trans rfl
      have hcz7_2 : wr.cell? ⟨gb270, 2, none⟩ = some (.slice A0_2 l0_2.length c0_2) := (blk_cell BK270.out 2).trans rfl
      have hcz7_3 : wr.cell? ⟨gb270, 3, none⟩ = some (.slice A0_3 l0_3.length c0_3) := (blk_cell BK270.out 3).trans rfl
      have hfz7_0 := blk_frozen BK270.out 0
      have hfz7_1 := blk_frozen BK270.out 1
      have hfz7_2 := blk_frozen BK270.out 2
      have hfz7_3 := blk_frozen BK270.out 3
      have p271 : 0 ≤ (x3_1 : Int) := od
      have q271 : x3_1 < (l0_3.length : Int) := od
      obtain ⟨ad271, A271_0, c271_0, A271_2, c271_2, e271, hx271_0, hx271_1, hx271_2, hl271_0, hi271_0, hl271_2, hi271_2⟩ := at_T26 HR0_3.out x3_1 p271 q271
      cases e271
      replace hx271_0 := (HB.out.cell (World.block_lt_of_cell? w _ hx271_0)).trans hx271_0
      replace hx271_1 := (HB.out.cell (World.block_lt_of_cell? w _ hx271_1)).trans hx271_1
      replace hx271_2 := (HB.out.cell (World.block_lt_of_cell? w _ hx271_2)).trans hx271_2
      have HR271_0 := Aside0.mk hi271_0
      have HC271_0 := Aside0.mk hl271_0
      clear hi271_0 hl271_0
      have HR271_2 := Aside0.mk hi271_2
      have HC271_2 := Aside0.mk hl271_2
      clear hi271_2 hl271_2
      replace p271 := eq_true p271
      replace q271 := eq_true q271
      go_wp2_with (first | ((with_reducible refine gate_callee (f := 33) rfl ?_); refine goesL_ (some 16) rfl rfl Try.func33 (by kernel_rfl) rfl #[.agg #[.slice A271_0 ((rd_T26 l0_3 x3_1).f0).length c271_0, .int .i64 ((rd_T26 l0_3 x3_1).f1), .slice A271_2 ((rd_T26 l0_3 x3_1).f2).length c271_2]] rfl mpq ?_; (with_reducible refine (spec_PlaceOk.calls k1 _ _ ((rd_T26 l0_3 x3_1).f0) ((rd_T26 l0_3 x3_1).f1) _ _ ((rd_T26 l0_3 x3_1).f2) true _ ?side1 ?side2 ?side3 ?side4 A5.out).mono ?_); (case side1 => exact coq (Kd.C_below HR271_0.out HB.out)); (case side2 => exact HC271_0.out); (case side3 => exact coq (Kd.C_below HR271_2.out HB.out)); (case side4 => exact HC271_2.out); rintro e w8 ⟨rfl, hb⟩; refine ⟨_, rfl, ?_⟩; have n0_ := Aside0.mk (blk_below (bkq BK270.out) hb); have n1_ := Aside0.mk (below_step (hbqa HB.out) hb); clear BK270 HB; revert n0_ n1_; intro BK270 HB; (try clear hb); (try clear hb2); (try clear hk); (try clear hi)))
      go_roundg k1
      case measure => have := HK1.out; omega
      case rel => exact ⟨(wrap64 (x3_1 + 1)), rfq, H', ⟨by have := HK1.out; omega⟩, ⟨by refine bkq ?_; exact BK270.out⟩, ⟨hbqa HB.out⟩⟩
     ·replace c6 := Bool.eq_false_iff.mpr c6
      subst c6
      have H1 : (some false) = some r := by rw [if_neg (show ¬ (false = true) by decide)] at H; exact H
      clear H
      have H := H1
      clear H1
      obtain rfl := Option.some.inj H
      have hcz9_0 : wr.cell? ⟨gb270, 0, none⟩ = some (.slice A0_0 l0_0.length c0_0) := (blk_cell BK270.out 0).trans rfl
      have hcz9_1 : wr.cell? ⟨gb270, 1, none⟩ = some (.int .i64 a0_1) := (blk_cell BK270.out 1).trans rfl
      have hcz9_2 : wr.cell? ⟨gb270, 2, none⟩ = some (.slice A0_2 l0_2.length c0_2) := (blk_cell BK270.out 2).trans rfl
      have hcz9_3 : wr.cell? ⟨gb270, 3, none⟩ = some (.slice A0_3 l0_3.length c0_3) := (blk_cell BK270.out 3).trans rfl
      have hfz9_0 := blk_frozen BK270.out 0
      have hfz9_1 := blk_frozen BK270.out 1
      have hfz9_2 := blk_frozen BK270.out 2
      have hfz9_3 := blk_frozen BK270.out 3
      have p271 : 0 ≤ (x3_1 : Int) := od
      have q271 : x3_1 < (l0_3.length : Int) := od
      obtain ⟨ad271, A271_0, c271_0, A271_2, c271_2, e271, hx271_0, hx271_1, hx271_2, hl271_0, hi271_0, hl271_2, hi271_2⟩ := at_T26 HR0_3.out x3_1 p271 q271
      cases e271
      replace hx271_0 := (HB.out.cell (World.block_lt_of_cell? w _ hx271_0)).trans hx271_0
      replace hx271_1 := (HB.out.cell (World.block_lt_of_cell? w _ hx271_1)).trans hx271_1
      replace hx271_2 := (HB.out.cell (World.block_lt_of_cell? w _ hx271_2)).trans hx271_2
      have HR271_0 := Aside0.mk hi271_0
      have HC271_0 := Aside0.mk hl271_0
      clear hi271_0 hl271_0
      have HR271_2 := Aside0.mk hi271_2
      have HC271_2 := Aside0.mk hl271_2
      clear hi271_2 hl271_2
      replace p271 := eq_true p271
      replace q271 := eq_true q271
      go_wp2_with (first | ((with_reducible refine gate_callee (f := 33) rfl ?_); refine goesL_ (some 16) rfl rfl Try.func33 (by kernel_rfl) rfl #[.agg #[.slice A271_0 ((rd_T26 l0_3 x3_1).f0).length c271_0, .int .i64 ((rd_T26 l0_3 x3_1).f1), .slice A271_2 ((rd_T26 l0_3 x3_1).f2).length c271_2]] rfl mpq ?_; (with_reducible refine (spec_PlaceOk.calls k1 _ _ ((rd_T26 l0_3 x3_1).f0) ((rd_T26 l0_3 x3_1).f1) _ _ ((rd_T26 l0_3 x3_1).f2) false _ ?side1 ?side2 ?side3 ?side4 A5.out).mono ?_); (case side1 => exact coq (Kd.C_below HR271_0.out HB.out)); (case side2 => exact HC271_0.out); (case side3 => exact coq (Kd.C_below HR271_2.out HB.out)); (case side4 => exact HC271_2.out); rintro e w10 ⟨rfl, hb⟩; refine ⟨_, rfl, ?_⟩; have n0_ := Aside0.mk (blk_below (bkq BK270.out) hb); have n1_ := Aside0.mk (below_step (hbqa HB.out) hb); clear BK270 HB; revert n0_ n1_; intro BK270 HB; (try clear hb); (try clear hb2); (try clear hk); (try clear hi)))
      go_ret
      exact ⟨by first | rfl | (simp [errW_none, errW_some] <;> rfl) | (simp [*, errW_none, errW_some] <;> rfl), hbqa HB.out⟩
    ·rw [if_neg c4] at H
     exact absurd H (by simp)
   ·rw [if_neg c3] at H
    have c3b0 : decide (x3_1 < (l0_3.length : Int)) = false := decide_eq_false c3
    clear c3
    replace H := Option.bind_eq_some_iff.mp H
    obtain ⟨t273, A110, H⟩ := H
    replace H : (if t273 = true then (some (decide ((l0_3.length : Int) ≤ 8))) else (some false)) = some r := H
    have A11 := Aside0.mk A110
    clear A110
    by_cases c12 : t273 = true
    ·subst c12
     have H1 : (some (decide ((l0_3.length : Int) ≤ 8))) = some r := by rw [if_pos rfl] at H; exact H
     clear H
     have H := H1
     clear H1
     obtain rfl := Option.some.inj H
     have hcz13_0 : wr.cell? ⟨gb270, 0, none⟩ = some (.slice A0_0 l0_0.length c0_0) := (blk_cell BK270.out 0).trans rfl
     have hcz13_1 : wr.cell? ⟨gb270, 1, none⟩ = some (.int .i64 a0_1) := (blk_cell BK270.out 1).trans rfl
     have hcz13_2 : wr.cell? ⟨gb270, 2, none⟩ = some (.slice A0_2 l0_2.length c0_2) := (blk_cell BK270.out 2).trans rfl
     have hcz13_3 : wr.cell? ⟨gb270, 3, none⟩ = some (.slice A0_3 l0_3.length c0_3) := (blk_cell BK270.out 3).trans rfl
     have hfz13_0 := blk_frozen BK270.out 0
     have hfz13_1 := blk_frozen BK270.out 1
     have hfz13_2 := blk_frozen BK270.out 2
     have hfz13_3 := blk_frozen BK270.out 3
     go_wp2_with (first | ((with_reducible refine gate_callee (f := 33) rfl ?_); refine goesL_ (some 20) rfl rfl Try.func33 (by kernel_rfl) rfl #[.agg #[.slice A0_0 l0_0.length c0_0, .int .i64 a0_1, .slice A0_2 l0_2.length c0_2]] rfl mpq ?_; (with_reducible refine (spec_PlaceOk.calls k1 _ _ l0_0 a0_1 _ _ l0_2 true _ ?side1 ?side2 ?side3 ?side4 A11.out).mono ?_); (case side1 => exact coq (Kd.C_below HR0_0.out HB.out)); (case side2 => exact HC0_0.out); (case side3 => exact coq (Kd.C_below HR0_2.out HB.out)); (case side4 => exact HC0_2.out); rintro e w14 ⟨rfl, hb⟩; refine ⟨_, rfl, ?_⟩; have n0_ := Aside0.mk (blk_below (bkq BK270.out) hb); have n1_ := Aside0.mk (below_step (hbqa HB.out) hb); clear BK270 HB; revert n0_ n1_; intro BK270 HB; (try clear hb); (try clear hb2); (try clear hk); (try clear hi); have hcz15_0 : w14.cell? ⟨gb270, 0, none⟩ = some (.slice A0_0 l0_0.length c0_0) := (blk_cell BK270.out 0).trans rfl; have hcz15_1 : w14.cell? ⟨gb270, 1, none⟩ = some (.int .i64 a0_1) := (blk_cell BK270.out 1).trans rfl; have hcz15_2 : w14.cell? ⟨gb270, 2, none⟩ = some (.slice A0_2 l0_2.length c0_2) := (blk_cell BK270.out 2).trans rfl; have hcz15_3 : w14.cell? ⟨gb270, 3, none⟩ = some (.slice A0_3 l0_3.length c0_3) := (blk_cell BK270.out 3).trans rfl; have hfz15_0 := blk_frozen BK270.out 0; have hfz15_1 := blk_frozen BK270.out 1; have hfz15_2 := blk_frozen BK270.out 2; have hfz15_3 := blk_frozen BK270.out 3))
     go_ret
     exact ⟨by first | rfl | (simp [errW_none, errW_some] <;> rfl) | (simp [*, errW_none, errW_some] <;> rfl), hbqa HB.out⟩
    ·replace c12 := Bool.eq_false_iff.mpr c12
     subst c12
     have H1 : (some false) = some r := by rw [if_neg (show ¬ (false = true) by decide)] at H; exact H
     clear H
     have H := H1
     clear H1
     obtain rfl := Option.some.inj H
     have hcz16_0 : wr.cell? ⟨gb270, 0, none⟩ = some (.slice A0_0 l0_0.length c0_0) := (blk_cell BK270.out 0).trans rfl
     have hcz16_1 : wr.cell? ⟨gb270, 1, none⟩ = some (.int .i64 a0_1) := (blk_cell BK270.out 1).trans rfl
     have hcz16_2 : wr.cell? ⟨gb270, 2, none⟩ = some (.slice A0_2 l0_2.length c0_2) := (blk_cell BK270.out 2).trans rfl
     have hcz16_3 : wr.cell? ⟨gb270, 3, none⟩ = some (.slice A0_3 l0_3.length c0_3) := (blk_cell BK270.out 3).trans rfl
     have hfz16_0 := blk_frozen BK270.out 0
     have hfz16_1 := blk_frozen BK270.out 1
     have hfz16_2 := blk_frozen BK270.out 2
     have hfz16_3 := blk_frozen BK270.out 3
     go_wp2_with (first | ((with_reducible refine gate_callee (f := 33) rfl ?_); refine goesL_ (some 20) rfl rfl Try.func33 (by kernel_rfl) rfl #[.agg #[.slice A0_0 l0_0.length c0_0, .int .i64 a0_1, .slice A0_2 l0_2.length c0_2]] rfl mpq ?_; (with_reducible refine (spec_PlaceOk.calls k1 _ _ l0_0 a0_1 _ _ l0_2 false _ ?side1 ?side2 ?side3 ?side4 A11.out).mono ?_); (case side1 => exact coq (Kd.C_below HR0_0.out HB.out)); (case side2 => exact HC0_0.out); (case side3 => exact coq (Kd.C_below HR0_2.out HB.out)); (case side4 => exact HC0_2.out); rintro e w17 ⟨rfl, hb⟩; refine ⟨_, rfl, ?_⟩; have n0_ := Aside0.mk (blk_below (bkq BK270.out) hb); have n1_ := Aside0.mk (below_step (hbqa HB.out) hb); clear BK270 HB; revert n0_ n1_; intro BK270 HB; (try clear hb); (try clear hb2); (try clear hk); (try clear hi)))
     go_ret
     exact ⟨by first | rfl | (simp [errW_none, errW_some] <;> rfl) | (simp [*, errW_none, errW_some] <;> rfl), hbqa HB.out⟩

/-! ### spec_l15Copy: function 73 -/
def spec_l15Copy.l0 : Nat → Int → List Int → Int → List Int → List (S26) → List Int → Int → List Int → List (S26) → Option (List Int × Int × List Int × (List (S26)))
 | 0, _, _, _, _, _, _, _, _, _ => none
 | k + 1, x4, x275000, x275001, x275002, x275003, x284000, x284001, x284002, x284003 => if x4 < (x275003.length : Int) then (if 0 ≤ x4 then ((spec_l15Place.f ((rd_T26 x275003 x4).f0) ((rd_T26 x275003 x4).f1) ((rd_T26 x275003 x4).f2)).bind fun bt285 => (if x284003.length < 2513169434916 then (spec_l15Copy.l0 k (wrap64 (x4 + 1)) x275000 x275001 x275002 x275003 x284000 x284001 x284002 (x284003 ++ [(⟨bt285.1, bt285.2.1, bt285.2.2⟩ : S26)])) else (none))) else (none)) else (some (x284000, x284001, x284002, x284003))
def spec_l15Copy.f (k : Nat) (l0_0 : List Int) (a0_1 : Int) (l0_2 : List Int) (l0_3 : List (S26)) : Option (List Int × Int × List Int × (List (S26))) := (spec_l15Place.f l0_0 a0_1 l0_2).bind fun bt276 => (spec_l15Copy.l0 k 0 l0_0 a0_1 l0_2 l0_3 bt276.1 bt276.2.1 bt276.2.2 ([] : List (S26)))
theorem spec_l15Copy.mono_l : ∀ k, (∀ y0 y1 y2 y3 y4 y5 y6 y7 y8, LeO (spec_l15Copy.l0 k y0 y1 y2 y3 y4 y5 y6 y7 y8) (spec_l15Copy.l0 (k + 1) y0 y1 y2 y3 y4 y5 y6 y7 y8))
 | 0 => fun _ _ _ _ _ _ _ _ _ r h => by simp [spec_l15Copy.l0] at h
 | k + 1 => by
  have ih0 := spec_l15Copy.mono_l k
  ·intro y0 y1 y2 y3 y4 y5 y6 y7 y8
   unfold spec_l15Copy.l0
   repeat' first | (with_reducible first | exact ih0 _ _ _ _ _ _ _ _ _ | exact LeO.refl _ | exact LeO.none _ | refine LeO.ite ?_ ?_ | refine LeO.bind ?_ (fun _ => ?_)) | exact LeO.none _ | refine LeO.ite ?_ ?_ | refine LeO.bind ?_ (fun _ => ?_)
theorem spec_l15Copy.mono : ∀ a0 a1 a2 a3 k, LeO (spec_l15Copy.f k a0 a1 a2 a3) (spec_l15Copy.f (k + 1) a0 a1 a2 a3) := by
 intro a0 a1 a2 a3 k
 have ih0 := spec_l15Copy.mono_l k
 unfold spec_l15Copy.f
 repeat' first
   | (with_reducible exact ih0 _ _ _ _ _ _ _ _ _)
   | (with_reducible exact LeO.refl _)
   | (with_reducible exact LeO.none _)
   | (with_reducible refine LeO.ite ?_ ?_)
   | (with_reducible refine LeO.bind ?_ (fun _ => ?_))
   | exact ih0 _ _ _ _ _ _ _ _ _
   | exact LeO.none _
   | refine LeO.ite ?_ ?_
   | refine LeO.bind ?_ (fun _ => ?_)
def spec_l15Copy.T5 : Bool × List (List Nat × List Nat) := (true, [([], []), ([0], [0]), ([], []), ([2], [2]), ([], []), ([3, 4], [3, 4]), ([5], [5]), ([6], [6]), ([7], [7]), ([1, 8, 7], [1, 8]), ([0, 1, 2, 3, 4, 5, 6, 7, 8, 9], []), ([10, 9, 9, 0, 1, 2, 3, 4, 5, 6, 7, 8, 9], [9, 10])])
def spec_l15Copy.B5 : List Nat := [0, 1, 0, 4, 0, 28, 60, 124, 252, 511, 1023, 2047]
theorem spec_l15Copy.tab5 : rtab .any (opsOf Try.f73 5) = spec_l15Copy.T5 := by kernel_rfl
theorem spec_l15Copy.bits5 : waitsOk spec_l15Copy.T5.2 spec_l15Copy.B5 = true := by kernel_rfl
/-- A place whose two rows lie apart (the same reading as k26's; what it owns is told more closely). -/
def k26s : Kd S26 where
 sz := k26.sz
 E := [3]
 K := k26.K
 M := fun w base ok x cs => ∃ v0 v2 : Value, cs = [v0, .int .i64 x.f1, v2] ∧ (Kd.int .i64).R 3 w base (fun k => ok k ∧ some k ≠ v2.ownBlock) v0 x.f0 ∧ (Kd.int .i64).R 3 w base (fun k => ok k ∧ some k ≠ v0.ownBlock) v2 x.f2
 K_len := k26.K_len
 K_one := k26.K_one
 K_below := k26.K_below
 K_of_M := fun h => by
  obtain ⟨v0, v2, rfl, g0, g2⟩ := h
  exact k26.K_of_M (k26_mkM _ _ (fun _ => True) _ (Kd.R_mono g0 (fun _ _ => trivial)) (Kd.R_mono g2 (fun _ _ => trivial)))
 M_mono := fun hok h => by
  obtain ⟨v0, v2, rfl, g0, g2⟩ := h
  exact ⟨v0, v2, rfl, Kd.R_mono g0 (fun k hk => ⟨hok k hk.1, hk.2⟩), Kd.R_mono g2 (fun k hk => ⟨hok k hk.1, hk.2⟩)⟩
 M_bound := fun h => by
  obtain ⟨v0, v2, rfl, g0, g2⟩ := h
  exact ⟨v0, v2, rfl, Kd.R_mono (Kd.R_bound g0) (fun k hk => ⟨⟨hk.1.1, hk.2⟩, hk.1.2⟩), Kd.R_mono (Kd.R_bound g2) (fun k hk => ⟨⟨hk.1.1, hk.2⟩, hk.1.2⟩)⟩
 M_move := fun hm h => by
  obtain ⟨v0, v2, rfl, g0, g2⟩ := h
  exact ⟨v0, v2, rfl, Kd.R_move g0 (fun k hk => hm k hk.1), Kd.R_move g2 (fun k hk => hm k hk.1)⟩
 M_lower := fun hb h => by
  obtain ⟨v0, v2, rfl, g0, g2⟩ := h
  exact ⟨v0, v2, rfl, Kd.R_lower g0 hb, Kd.R_lower g2 hb⟩
theorem k26s_mkM (w : World) (base : Nat) (ok : Nat → Prop) (x : S26) {v0 v2 : Value} (g0 : (Kd.int .i64).R 3 w base ok v0 x.f0) (g2 : (Kd.int .i64).R 3 w base ok v2 x.f2) (hne : ∀ k, v0.ownBlock = some k → some k ≠ v2.ownBlock) : k26s.M w base ok x [v0, .int .i64 x.f1, v2] :=
 ⟨v0, v2, rfl, Kd.R_mono (Kd.R_tight rfl g0) (fun k hk => ⟨g0.1 k hk.symm, hne k hk.symm⟩), Kd.R_mono (Kd.R_tight rfl g2) (fun k hk => ⟨g2.1 k hk.symm, fun e => hne k e.symm hk⟩)⟩
theorem k26s_M {w : World} {base : Nat} {ok : Nat → Prop} {x : S26} {cs : List Value} (h : k26s.M w base ok x cs) : k26.M w base ok x cs := by
 obtain ⟨v0, v2, rfl, g0, g2⟩ := h
 exact k26_mkM w base ok x (Kd.R_mono g0 (fun _ hk => hk.1)) (Kd.R_mono g2 (fun _ hk => hk.1))
theorem k26s_S {e : Nat} {w : World} {base : Nat} {ok : Nat → Prop} {v : Value} {xs : List S26} (h : Kd.S k26s e w base ok v xs) : Kd.S k26 e w base ok v xs := by
 obtain ⟨f, h0, inner, ho, hr⟩ := h
 exact ⟨f, h0, inner, ho, hr.imp_ (fun _ _ hp => k26s_M hp)⟩
/-- One element of a row whose elements lie apart, and those ahead of it. -/
theorem S_last_ {α : Type} {d : Kd α} {e base n c : Nat} {ok : Nat → Prop} {W : World} {A : Option Addr} {xs : List α} (h : Kd.S d e W base ok (.slice A n c) xs) (m : Nat) (z : α) (hm : m < xs.length) :
  ∃ (okl : Nat → Prop) (cs : List Value) (ad : Addr), A = some ad ∧ (∀ k, okl k → ok k) ∧ d.M W base okl (xs.getD m z) cs ∧ (∀ i u, cs[i]? = some u → W.cell? (ad.add (m * d.sz + i)) = some u) ∧ Kd.S d e W base (fun k => ok k ∧ ¬ okl k) (.slice A m c) (xs.take m) := by
 obtain ⟨f, hR⟩ := h
 have hlen : xs.zipIdx.length = xs.length := List.length_zipIdx
 have hx : xs[m]? = some (xs.getD m z) := by rw [List.getD_eq_getElem?_getD, List.getElem?_eq_getElem hm]; rfl
 obtain ⟨A', c', heq, _, hrow⟩ := OwnRow.reads hR.2
 injection heq with hA _ _
 subst hA
 obtain ⟨ad, hA, hall⟩ := hrow.2.2 (by rw [hlen]; omega)
 obtain ⟨cs, _, hM, hcells⟩ := hall m (xs.getD m z, m) (Kd.zip_at hx)
 refine ⟨fun k => (ok k ∧ some k ≠ (Value.slice A n c).ownBlock) ∧ f k = m, cs, ad, hA, fun k hk => hk.1.1, hM, hcells, ?_⟩
 have hT := Kd.R_take (m := m) hR (by rw [hlen]; omega)
 have he : (xs.take m).zipIdx = xs.zipIdx.take m := by
  apply List.ext_getElem?
  intro j
  simp only [List.getElem?_zipIdx, List.getElem?_take, Nat.zero_add]
  split <;> simp
 have hown : (Value.slice A m c).ownBlock = (Value.slice A n c).ownBlock := by cases A <;> rfl
 obtain ⟨h0', inner', ho', hr'⟩ := hT
 refine ⟨f, fun k hk => ⟨h0' k hk, fun hl => hl.1.2 (by rw [← hown, hk])⟩, inner', by rw [he]; exact ho', ?_⟩
 rw [he]
 refine ⟨hr'.1, fun j p hj => ?_⟩
 have hj2 : p.2 < m := by
  rw [List.getElem?_take] at hj
  split at hj
  ·rw [List.getElem?_zipIdx] at hj
   obtain ⟨x, _, hx2⟩ := Option.map_eq_some_iff.1 hj
   rw [← hx2]
   simp only
   omega
  ·cases hj
 exact d.M_mono (fun k hk => ⟨⟨⟨hk.1.1, fun hl => by have := hl.2; have := hk.2; omega⟩, hk.1.2⟩, hk.2⟩) (hr'.2 j p hj)
set_option maxHeartbeats 8000000 in
set_option maxRecDepth 100000 in
theorem spec_l15Copy.calls_s (k : Nat) (A0_0 : Option Addr) (c0_0 : Nat) (l0_0 : List Int) (a0_1 : Int) (A0_2 : Option Addr) (c0_2 : Nat) (l0_2 : List Int) (A0_3 : Option Addr) (c0_3 : Nat) (l0_3 : List (S26)) (r1 : List Int) (r2 : Int) (r3 : List Int) (r4 : List (S26)) (w : World) (hr0_0 : Kd.C (Kd.int .i64) w A0_0 l0_0.length l0_0) (hc0_0 : l0_0.length ≤ c0_0) (hr0_2 : Kd.C (Kd.int .i64) w A0_2 l0_2.length l0_2) (hc0_2 : l0_2.length ≤ c0_2) (hr0_3 : Kd.C k26 w A0_3 l0_3.length l0_3) (hc0_3 : l0_3.length ≤ c0_3) (h : spec_l15Copy.f k l0_0 a0_1 l0_2 l0_3 = some (r1, r2, r3, r4)) :
  Calls Try.prog 73 #[.agg #[.slice A0_0 l0_0.length c0_0, .int .i64 a0_1, .slice A0_2 l0_2.length c0_2, .slice A0_3 l0_3.length c0_3]] w fun e w' => ∃ v0_ v2_ v3_ : Value, e = .returned (.agg #[v0_, .int .i64 r2, v2_, v3_]) ∧ Kd.R (Kd.int .i64) 3 w' w.heap.size (fun k_ => some k_ ≠ (v2_ : Value).ownBlock) v0_ r1 ∧ Kd.R (Kd.int .i64) 3 w' w.heap.size (fun k_ => some k_ ≠ (v0_ : Value).ownBlock) v2_ r3 ∧ Kd.S k26s 26 w' w.heap.size (fun k_ => some k_ ≠ (v0_ : Value).ownBlock ∧ some k_ ≠ (v2_ : Value).ownBlock) v3_ r4 ∧ Below w.heap.size w w' := by
 have hu29 := Try.underlying29
 have hu26 := Try.underlying26
 have HR0_0 := Aside0.mk hr0_0
 have HC0_0 := Aside0.mk hc0_0
 clear hr0_0 hc0_0
 have HR0_2 := Aside0.mk hr0_2
 have HC0_2 := Aside0.mk hc0_2
 clear hr0_2 hc0_2
 have HR0_3 := Aside0.mk hr0_3
 have HC0_3 := Aside0.mk hc0_3
 clear hr0_3 hc0_3
 have HB := Aside0.mk (Below.refl w.heap.size w)
 have H : ((spec_l15Place.f l0_0 a0_1 l0_2).bind fun bt276 => (spec_l15Copy.l0 k 0 l0_0 a0_1 l0_2 l0_3 bt276.1 bt276.2.1 bt276.2.2 ([] : List (S26)))) = some (r1, r2, r3, r4) := h
 clear h
 replace H := Option.bind_eq_some_iff.mp H
 obtain ⟨⟨t276, t279, t280⟩, A20, H⟩ := H
 replace H : (spec_l15Copy.l0 k 0 l0_0 a0_1 l0_2 l0_3 t276 t279 t280 ([] : List (S26))) = some (r1, r2, r3, r4) := H
 have A2 := Aside0.mk A20
 clear A20
 have H' := Aside0.mk H
 clear H
 go_enter Try.func73, Try.ntmps73
 go_wp2_with (first | ((with_reducible refine gate_dst (N := 1) rfl ?_); refine box_event ?hg (N := 1) ?hd (cs := #[.slice A0_0 l0_0.length c0_0, .int .i64 a0_1, .slice A0_2 l0_2.length c0_2, .slice A0_3 l0_3.length c0_3]) (t := 29) ?hr ?_; (case hd => rfl); (case hg => rfl); (case hr => first | (go_simp; done) | (go_simp; rfl)); intro gb274 hg w3 hbox hb; have n0_ := Aside0.mk (below_step (hbq HB.out) hb); have n1_ := Aside0.mk (hbox); have n2_ := Aside0.mk ((by rw [hg]; exact (below_size (hbq HB.out)) : w.heap.size ≤ gb274)); have n3_ := Aside0.mk ((by rw [hg]; exact (below_size (hbq HB.out)) : w.heap.size ≤ gb274)); clear HB; revert n0_ n1_ n2_ n3_; intro HB BK274 GW274 GE274; clear hb hbox hg) | ((with_reducible refine gate_dst (N := 2) rfl ?_); refine box_event ?hg (N := 2) ?hd (cs := #[.slice none 0 0, .int .i64 0, .slice none 0 0, .slice none 0 0]) (t := 29) ?hr ?_; (case hd => rfl); (case hg => rfl); (case hr => first | (go_simp; done) | (go_simp; rfl)); intro gb275 hg w4 hbox hb; have n0_ := Aside0.mk (blk_below (bkq BK274.out) hb); have n1_ := Aside0.mk (below_step (hbqa HB.out) hb); have n2_ := Aside0.mk (hbox); have n3_ := Aside0.mk ((by rw [hg]; exact (below_size (hbqa HB.out)) : w.heap.size ≤ gb275)); have n4_ := Aside0.mk ((by rw [hg]; exact (below_size (hbqa HB.out)) : w.heap.size ≤ gb275)); have n5_ := Aside0.mk ((by rw [hg]; exact Nat.ne_of_lt (blk_lt (bkq BK274.out)) : gb274 ≠ gb275)); have n6_ := Aside0.mk ((by rw [hg]; exact Nat.ne_of_gt (blk_lt (bkq BK274.out)) : gb275 ≠ gb274)); clear BK274 HB; revert n0_ n1_ n2_ n3_ n4_ n5_ n6_; intro BK274 HB BK275 GW275 GE275 NB274_275 NB275_274; clear hb hbox hg; have hnb5 := NB274_275.out; have hnc5 := NB275_274.out; have hcz6_0 : w4.cell? ⟨gb274, 0, none⟩ = some (.slice A0_0 l0_0.length c0_0) := (blk_cell BK274.out 0).trans rfl; have hcz6_1 : w4.cell? ⟨gb274, 1, none⟩ = some (.int .i64 a0_1) := (blk_cell BK274.out 1).trans rfl; have hcz6_2 : w4.cell? ⟨gb274, 2, none⟩ = some (.slice A0_2 l0_2.length c0_2) := (blk_cell BK274.out 2).trans rfl; have hcz6_3 : w4.cell? ⟨gb274, 3, none⟩ = some (.slice A0_3 l0_3.length c0_3) := (blk_cell BK274.out 3).trans rfl; have hfz6_0 := blk_frozen BK274.out 0; have hfz6_1 := blk_frozen BK274.out 1; have hfz6_2 := blk_frozen BK274.out 2; have hfz6_3 := blk_frozen BK274.out 3) | ((with_reducible refine gate_callee (f := 34) rfl ?_); refine goesL_ (some 7) rfl rfl Try.func34 (by kernel_rfl) rfl #[.agg #[.slice A0_0 l0_0.length c0_0, .int .i64 a0_1, .slice A0_2 l0_2.length c0_2]] rfl mpq ?_; (with_reducible refine (spec_l15Place.calls _ _ l0_0 a0_1 _ _ l0_2 t276 t279 t280 _ ?side1 ?side2 ?side3 ?side4 A2.out).mono ?_); (case side1 => exact coq (Kd.C_below HR0_0.out HB.out)); (case side2 => exact HC0_0.out); (case side3 => exact coq (Kd.C_below HR0_2.out HB.out)); (case side4 => exact HC0_2.out); rintro e w7 ⟨v277, v281, rfl, ho0, ho1, hb⟩; refine ⟨_, rfl, ?_⟩; have n0_ := Aside0.mk (Kd.R_lower ho0 (below_size (hbqa HB.out))); have n1_ := Aside0.mk (Kd.R_lower ho1 (below_size (hbqa HB.out))); have n2_ := Aside0.mk (blk_below (bkq BK274.out) hb); have n3_ := Aside0.mk (blk_below (bkq BK275.out) hb); have n4_ := Aside0.mk (below_step (hbqa HB.out) hb); clear BK274 BK275 HB; revert n0_ n1_ n2_ n3_ n4_; intro HO278 HO282 BK274 BK275 HB; (try clear hb); (try clear hb2); (try clear hk); (try clear hi); (try clear ho0); (try clear ho1); obtain ⟨Ao8, co8, eo8⟩ := Kd.R_slice HO282.out; subst eo8; obtain ⟨Ao9, co9, eo9⟩ := Kd.R_slice HO278.out; subst eo9) | ((with_reducible refine gate_dst (N := 3) rfl ?_); refine box_event ?hg (N := 3) ?hd (cs := #[.slice none 0 0, .int .i64 0, .slice none 0 0, .slice none 0 0]) (t := 29) ?hr ?_; (case hd => rfl); (case hg => rfl); (case hr => first | (go_simp; done) | (go_simp; rfl)); intro gb283 hg w10 hbox hb; have n0_ := Aside0.mk (Kd.R_below (roq HO278.out) hb); have n1_ := Aside0.mk (Kd.R_below (roq HO282.out) hb); have n2_ := Aside0.mk (blk_below (bkq BK274.out) hb); have n3_ := Aside0.mk (blk_below (bkq BK275.out) hb); have n4_ := Aside0.mk (below_step (hbqa HB.out) hb); have n5_ := Aside0.mk (hbox); have n6_ := Aside0.mk ((by rw [hg]; exact (below_size (hbqa HB.out)) : w.heap.size ≤ gb283)); have n7_ := Aside0.mk ((by rw [hg]; exact (below_size (hbqa HB.out)) : w.heap.size ≤ gb283)); have n8_ := Aside0.mk ((by rw [hg]; exact Nat.ne_of_lt (blk_lt (bkq BK274.out)) : gb274 ≠ gb283)); have n9_ := Aside0.mk ((by rw [hg]; exact Nat.ne_of_gt (blk_lt (bkq BK274.out)) : gb283 ≠ gb274)); have n10_ := Aside0.mk ((by rw [hg]; exact Nat.ne_of_lt (blk_lt (bkq BK275.out)) : gb275 ≠ gb283)); have n11_ := Aside0.mk ((by rw [hg]; exact Nat.ne_of_gt (blk_lt (bkq BK275.out)) : gb283 ≠ gb275)); clear HO278 HO282 BK274 BK275 HB; revert n0_ n1_ n2_ n3_ n4_ n5_ n6_ n7_ n8_ n9_ n10_ n11_; intro HO278 HO282 BK274 BK275 HB BK283 GW283 GE283 NB274_283 NB283_274 NB275_283 NB283_275; clear hb hbox hg; have hnb11 := NB283_274.out; have hnc11 := NB274_283.out; have hnb12 := NB283_275.out; have hnc12 := NB275_283.out; have hcz13_0 : w10.cell? ⟨gb283, 0, none⟩ = some (.slice none 0 0) := (blk_cell BK283.out 0).trans rfl; have hcz13_1 : w10.cell? ⟨gb283, 1, none⟩ = some (.int .i64 0) := (blk_cell BK283.out 1).trans rfl; have hcz13_2 : w10.cell? ⟨gb283, 2, none⟩ = some (.slice none 0 0) := (blk_cell BK283.out 2).trans rfl; have hcz13_3 : w10.cell? ⟨gb283, 3, none⟩ = some (.slice none 0 0) := (blk_cell BK283.out 3).trans rfl; have hfz13_0 := blk_frozen BK283.out 0; have hfz13_1 := blk_frozen BK283.out 1; have hfz13_2 := blk_frozen BK283.out 2; have hfz13_3 := blk_frozen BK283.out 3))
 go_loopg [4] k (fun kq v4 w' => ∃ (x4_1 : Int) (x284003_1 : List (S26)) (u284003 : Value), v4 = .int .i64 x4_1 ∧ Aside0 (spec_l15Copy.l0 kq x4_1 l0_0 a0_1 l0_2 l0_3 t276 t279 t280 x284003_1 = some (r1, r2, r3, r4)) ∧ Aside0 (kq ≤ k) ∧ Aside0 (Kd.R (Kd.int .i64) 3 w' w.heap.size (fun k_ => some k_ ≠ ((.slice Ao8 t280.length co8) : Value).ownBlock) (.slice Ao9 t276.length co9) t276) ∧ Aside0 (Kd.R (Kd.int .i64) 3 w' w.heap.size (fun k_ => some k_ ≠ ((.slice Ao9 t276.length co9) : Value).ownBlock) (.slice Ao8 t280.length co8) t280) ∧ Aside0 (Kd.S k26s 26 w' w.heap.size (fun k_ => some k_ ≠ ((.slice Ao9 t276.length co9) : Value).ownBlock ∧ some k_ ≠ ((.slice Ao8 t280.length co8) : Value).ownBlock) u284003 x284003_1) ∧ Aside0 (w'.heap[gb274]? = some (.cells #[(.slice A0_0 l0_0.length c0_0), .int .i64 a0_1, (.slice A0_2 l0_2.length c0_2), (.slice A0_3 l0_3.length c0_3)] 29 (0, 0))) ∧ Aside0 (w'.heap[gb275]? = some (.cells #[(.slice none 0 0), .int .i64 0, (.slice none 0 0), (.slice none 0 0)] 29 (0, 0))) ∧ Aside0 (w'.heap[gb283]? = some (.cells #[(.slice Ao9 t276.length co9), .int .i64 t279, (.slice Ao8 t280.length co8), u284003] 29 (0, 0))) ∧ Aside0 (Below w.heap.size w w'))
 case atStart => exact ⟨(0), (([] : List (S26))), (.slice none 0 0), rfq, H', ⟨Nat.le_refl _⟩, ⟨by refine roq ?_; exact Kd.R_mono (Kd.R_far (p := ⟨gb283, 3, none⟩) (Kd.R_far (p := ⟨gb283, 2, none⟩) (Kd.R_far (p := ⟨gb283, 1, none⟩) (Kd.R_far (p := ⟨gb283, 0, none⟩) (Kd.R_types HO278.out BK283.out (by decide)) (fun _ hk => hk.2) (.slice Ao9 t276.length co9)) (fun _ hk => hk.2) (.int .i64 t279)) (fun _ hk => hk.2) (.slice Ao8 t280.length co8)) (fun _ hk => hk.2) (.slice none 0 0)) (fun _ hk => hk.1)⟩, ⟨by refine roq ?_; exact Kd.R_mono (Kd.R_far (p := ⟨gb283, 3, none⟩) (Kd.R_far (p := ⟨gb283, 2, none⟩) (Kd.R_far (p := ⟨gb283, 1, none⟩) (Kd.R_far (p := ⟨gb283, 0, none⟩) (Kd.R_types HO282.out BK283.out (by decide)) (fun _ hk => hk.2) (.slice Ao9 t276.length co9)) (fun _ hk => hk.2) (.int .i64 t279)) (fun _ hk => hk.2) (.slice Ao8 t280.length co8)) (fun _ hk => hk.2) (.slice none 0 0)) (fun _ hk => hk.1)⟩, ⟨by first | exact Kd.S_nil _ _ _ _ _ | exact Kd.N_nil _ _ _ _ _ | exact Kd.V_nil _ _ _ _ _ | exact Kd.Q_nil _ _ _ _ _ | exact Kd.R_nil _ _ _ _ _⟩, ⟨by refine bkq ?_; refine blk_far ?_ NB274_283.out _; refine bkq ?_; refine blk_far ?_ NB274_283.out _; refine bkq ?_; refine blk_far ?_ NB274_283.out _; refine bkq ?_; refine blk_far ?_ NB274_283.out _; refine bkq ?_; exact BK274.out⟩, ⟨by refine bkq ?_; refine blk_far ?_ NB275_283.out _; refine bkq ?_; refine blk_far ?_ NB275_283.out _; refine bkq ?_; refine blk_far ?_ NB275_283.out _; refine bkq ?_; refine blk_far ?_ NB275_283.out _; refine bkq ?_; exact BK275.out⟩, ⟨by refine bkq ?_; refine blk_put (cs := #[.slice Ao9 t276.length co9, .int .i64 t279, .slice Ao8 t280.length co8, .slice none 0 0]) ?_ 3 _ rfl; refine bkq ?_; refine blk_put (cs := #[.slice Ao9 t276.length co9, .int .i64 t279, .slice none 0 0, .slice none 0 0]) ?_ 2 _ rfl; refine bkq ?_; refine blk_put (cs := #[.slice Ao9 t276.length co9, .int .i64 0, .slice none 0 0, .slice none 0 0]) ?_ 1 _ rfl; refine bkq ?_; refine blk_put (cs := #[.slice none 0 0, .int .i64 0, .slice none 0 0, .slice none 0 0]) ?_ 0 _ rfl; refine bkq ?_; exact BK283.out⟩, ⟨hbqa HB.out⟩⟩
 case round =>
  clear H'
  try clear c1
  try clear p2
  try clear c3
  try clear c5
  try clear c7
  try clear c11
  try clear c12
  try clear hcz13_0
  try clear hcz13_1
  try clear hcz13_2
  try clear hcz13_3
  try clear hcz6_0
  try clear hcz6_1
  try clear hcz6_2
  try clear hcz6_3
  try clear hfz13_0
  try clear hfz13_1
  try clear hfz13_2
  try clear hfz13_3
  try clear hfz6_0
  try clear hfz6_1
  try clear hfz6_2
  try clear hfz6_3
  obtain ⟨x4_1, x284003_1, u284003, rfl, HA, HK1, HO_284000, HO_284002, HO_284003, BK274, BK275, BK283, HB⟩ := hrel
  cases gk with
  | zero => exact absurd HA.out (by simp [spec_l15Copy.l0])
  | succ k1 =>
   have H := HA.out
   clear HA
   simp only [spec_l15Copy.l0] at H
   by_cases c14 : x4_1 < (l0_3.length : Int)
   ·rw [if_pos c14] at H
    have c14b0 : decide (x4_1 < (l0_3.length : Int)) = true := decide_eq_true c14
    clear c14
    by_cases c15 : 0 ≤ x4_1
    ·rw [if_pos c15] at H
     have c15b0 : decide (0 ≤ x4_1) = true := decide_eq_true c15
     clear c15
     replace H := Option.bind_eq_some_iff.mp H
     obtain ⟨⟨t285, t288, t289⟩, A160, H⟩ := H
     replace H : (if x284003_1.length < 2513169434916 then (spec_l15Copy.l0 k1 (wrap64 (x4_1 + 1)) l0_0 a0_1 l0_2 l0_3 t276 t279 t280 (x284003_1 ++ [(⟨t285, t288, t289⟩ : S26)])) else (none)) = some (r1, r2, r3, r4) := H
     have A16 := Aside0.mk A160
     clear A160
     by_cases c17 : x284003_1.length < 2513169434916
     ·rw [if_pos c17] at H
      have LMc17 := Aside0.mk c17
      clear c17
      obtain ⟨y292, hy292⟩ : ∃ y_ : List (S26), y_ = (x284003_1 ++ [(⟨t285, t288, t289⟩ : S26)]) := ⟨_, rfl⟩
      replace H : (spec_l15Copy.l0 k1 (wrap64 (x4_1 + 1)) l0_0 a0_1 l0_2 l0_3 t276 t279 t280 y292) = some (r1, r2, r3, r4) := by first | (rw [hy292]; with_reducible exact H) | (have H2_ := (Option.bind_some _ _).symm.trans H; rw [hy292]; with_reducible exact H2_) | (have H2_ := (Option.bind_some _ _).symm.trans H; with_reducible exact H2_) | with_reducible exact H | (rw [hy292]; exact H) | exact H
      have Ny292 := Aside0.mk hy292
      clear hy292
      have H' := Aside0.mk H
      clear H
      have hnb18 := NB274_275.out
      have hnc18 := NB275_274.out
      have hnb19 := NB274_283.out
      have hnc19 := NB283_274.out
      have hcz20_0 : wr.cell? ⟨gb274, 0, none⟩ = some (.slice A0_0 l0_0.length c0_0) := (blk_cell BK274.out 0).trans rfl
      have hcz20_1 : wr.cell? ⟨gb274, 1, none⟩ = some (.int .i64 a0_1) := (blk_cell BK274.out 1).trans rfl
      have hcz20_2 : wr.cell? ⟨gb274, 2, none⟩ = some (.slice A0_2 l0_2.length c0_2) := (blk_cell BK274.out 2).trans rfl
      have hcz20_3 : wr.cell? ⟨gb274, 3, none⟩ = some (.slice A0_3 l0_3.length c0_3) := (blk_cell BK274.out 3).trans rfl
      have hfz20_0 := blk_frozen BK274.out 0
      have hfz20_1 := blk_frozen BK274.out 1
      have hfz20_2 := blk_frozen BK274.out 2
      have hfz20_3 := blk_frozen BK274.out 3
      try go_wp2
      have n0_ := Aside0.mk (Kd.R_drew HO_284000.out)
      have n1_ := Aside0.mk (Kd.R_drew HO_284002.out)
      have n2_ := Aside0.mk (Kd.S_drew HO_284003.out)
      have n3_ := Aside0.mk (blk_drew BK274.out)
      have n4_ := Aside0.mk (blk_drew BK275.out)
      have n5_ := Aside0.mk (blk_drew BK283.out)
      have n6_ := Aside0.mk (below_drew1 HB.out)
      clear HO_284000 HO_284002 HO_284003 BK274 BK275 BK283 HB
      revert n0_ n1_ n2_ n3_ n4_ n5_ n6_
      intro HO_284000 HO_284002 HO_284003 BK274 BK275 BK283 HB
      have p284 : 0 ≤ (x4_1 : Int) := od
      have q284 : x4_1 < (l0_3.length : Int) := od
      obtain ⟨ad284, A284_0, c284_0, A284_2, c284_2, e284, hx284_0, hx284_1, hx284_2, hl284_0, hi284_0, hl284_2, hi284_2⟩ := at_T26 HR0_3.out x4_1 p284 q284
      have hw284_2 := hx284_2
      have hw284_1 := hx284_1
      have hw284_0 := hx284_0
      cases e284
      replace hx284_0 := (HB.out.cell (World.block_lt_of_cell? w _ hx284_0)).trans hx284_0
      replace hx284_1 := (HB.out.cell (World.block_lt_of_cell? w _ hx284_1)).trans hx284_1
      replace hx284_2 := (HB.out.cell (World.block_lt_of_cell? w _ hx284_2)).trans hx284_2
      have HR284_0 := Aside0.mk hi284_0
      have HC284_0 := Aside0.mk hl284_0
      clear hi284_0 hl284_0
      have HR284_2 := Aside0.mk hi284_2
      have HC284_2 := Aside0.mk hl284_2
      clear hi284_2 hl284_2
      replace p284 := eq_true p284
      replace q284 := eq_true q284
      refine start_ (n := 12) (S := fun w' => w'.cell? ⟨gb283, 0, none⟩ = some (.slice Ao9 t276.length co9) ∧ w'.cell? ⟨gb283, 1, none⟩ = some (.int .i64 t279) ∧ w'.cell? ⟨gb283, 2, none⟩ = some (.slice Ao8 t280.length co8) ∧ w'.cell? ⟨gb283, 3, none⟩ = some (u284003) ∧ w'.cell? ⟨gb274, 0, none⟩ = some (.slice A0_0 l0_0.length c0_0) ∧ w'.cell? ⟨gb274, 1, none⟩ = some (.int .i64 a0_1) ∧ w'.cell? ⟨gb274, 2, none⟩ = some (.slice A0_2 l0_2.length c0_2) ∧ w'.cell? ⟨gb274, 3, none⟩ = some (.slice (some ad284) l0_3.length c0_3) ∧ w'.cell? (ad284.add ((x4_1).toNat * 3)) = some (.slice A284_0 ((rd_T26 l0_3 x4_1).f0).length c284_0) ∧ w'.cell? ⟨(ad284.add ((x4_1).toNat * 3)).block, (ad284.add ((x4_1).toNat * 3)).off + 1, none⟩ = some (.int .i64 ((rd_T26 l0_3 x4_1).f1)) ∧ w'.cell? ⟨(ad284.add ((x4_1).toNat * 3)).block, (ad284.add ((x4_1).toNat * 3)).off + 2, none⟩ = some (.slice A284_2 ((rd_T26 l0_3 x4_1).f2).length c284_2)) (ds := [11]) #[false, false, false, false, false, false, false, false, false, false, false, false] (by kernel_rfl) rfl rfl ⟨(blk_cell BK283.out 0).trans rfl, (blk_cell BK283.out 1).trans rfl, (blk_cell BK283.out 2).trans rfl, (blk_cell BK283.out 3).trans rfl, (blk_cell BK274.out 0).trans rfl, (blk_cell BK274.out 1).trans rfl, (blk_cell BK274.out 2).trans rfl, (blk_cell BK274.out 3).trans rfl, ((HB.out.cell (World.block_lt_of_cell? w _ hw284_0)).trans hw284_0), ((HB.out.cell (World.block_lt_of_cell? w _ hw284_1)).trans hw284_1), ((HB.out.cell (World.block_lt_of_cell? w _ hw284_2)).trans hw284_2)⟩ (fun hHeld => ?_); refine with_tabW spec_l15Copy.tab5 spec_l15Copy.bits5 (fun HT_ HW_ => ?_)
      generalize wr.drew = w21 at HO_284000 HO_284002 HO_284003 BK274 BK275 BK283 HB HR284_0 HR284_2 hx284_0 hx284_1 hx284_2 hHeld ⊢
      refine pureq (i := 0) (N := some 16) #[true, false, false, false, false, false, false, false, false, false, false, false] rfl rfl HT_.out ?_
      refine pureq (i := 2) (N := some 18) #[true, false, true, false, false, false, false, false, false, false, false, false] rfl rfl HT_.out ?_
      refine pureq (i := 4) (N := some 20) #[true, false, true, false, true, false, false, false, false, false, false, false] rfl rfl HT_.out ?_
      refine take_ (i := 1) (N := some 17) (v := ?_) (a' := ?_) #[true, true, true, false, true, false, false, false, false, false, false, false] rfl rfl (take_ofW HT_.out HW_.out (by kernel_rfl)) (fun _ _ _ h => h) (Or.inl ⟨by rfl, ?_⟩) hHeld ?_ ?_
      rotate_left
      ·rintro w' ⟨s0, s1, s2, s3, s4, s5, s6, s7, s8, s9, s10⟩
       go_simp
       with_reducible rfl
      rotate_left
      ·simp only [Act.put, List.setIfInBounds_toArray, List.set_cons_zero, List.set_cons_succ, i64_w, i32_w]
       rfl
      refine take_ (i := 3) (N := some 19) (v := ?_) (a' := ?_) #[true, true, true, true, true, false, false, false, false, false, false, false] rfl rfl (take_ofW HT_.out HW_.out (by kernel_rfl)) (fun _ _ _ h => h) (Or.inl ⟨by rfl, ?_⟩) hHeld ?_ ?_
      rotate_left
      ·rintro w' ⟨s0, s1, s2, s3, s4, s5, s6, s7, s8, s9, s10⟩
       go_simp
       with_reducible rfl
      rotate_left
      ·simp only [Act.put, List.setIfInBounds_toArray, List.set_cons_zero, List.set_cons_succ, i64_w, i32_w]
       rfl
      refine pureq (i := 5) (N := some 21) #[true, true, true, true, true, true, false, false, false, false, false, false] rfl rfl HT_.out ?_
      refine take_ (i := 6) (N := some 22) (v := ?_) (a' := ?_) #[true, true, true, true, true, true, true, false, false, false, false, false] rfl rfl (take_ofW HT_.out HW_.out (by kernel_rfl)) (fun _ _ _ h => h) (Or.inl ⟨by rfl, ?_⟩) hHeld ?_ ?_
      rotate_left
      ·rintro w' ⟨s0, s1, s2, s3, s4, s5, s6, s7, s8, s9, s10⟩
       go_simp
       with_reducible rfl
      rotate_left
      ·simp only [Act.put, List.setIfInBounds_toArray, List.set_cons_zero, List.set_cons_succ, i64_w, i32_w]
       rfl
      refine one_ (i := 7) (N := some 23) #[true, true, true, true, true, true, true, true, false, false, false, false] rfl rfl (one_of HT_.out (by kernel_rfl)) (by decide) (fun K hK => ?_)
      refine goes_ Try.func34 (by kernel_rfl) rfl #[.agg #[.slice A284_0 ((rd_T26 l0_3 x4_1).f0).length c284_0, .int .i64 ((rd_T26 l0_3 x4_1).f1), .slice A284_2 ((rd_T26 l0_3 x4_1).f2).length c284_2]] (by rfl) rfl rfl mpq ?_
      with_reducible refine (spec_l15Place.calls _ _ ((rd_T26 l0_3 x4_1).f0) ((rd_T26 l0_3 x4_1).f1) _ _ ((rd_T26 l0_3 x4_1).f2) t285 t288 t289 _ ?side1 ?side2 ?side3 ?side4 A16.out).mono ?_
      (case side1 => exact coq (Kd.C_below HR284_0.out HB.out))
      (case side2 => exact HC284_0.out)
      (case side3 => exact coq (Kd.C_below HR284_2.out HB.out))
      (case side4 => exact HC284_2.out)
      rintro e w22 ⟨v286, v290, rfl, ho0, ho1, hb⟩
      refine ⟨_, rfl, ?_⟩
      have n0_ := Aside0.mk (Kd.R_mono (Kd.R_told (Kd.R_told (Kd.R_old (roq HO_284000.out) hb) (Kd.R_base ho0)) (Kd.R_base ho1)) (fun _ h_ => h_.1))
      have n1_ := Aside0.mk (Kd.R_mono (Kd.R_told (Kd.R_told (Kd.R_old (roq HO_284002.out) hb) (Kd.R_base ho0)) (Kd.R_base ho1)) (fun _ h_ => h_.1))
      have n2_ := Aside0.mk (Kd.S_mono (Kd.S_told (Kd.S_told (Kd.S_old (soq HO_284003.out) hb) (Kd.R_base ho0)) (Kd.R_base ho1)) (fun _ h_ => h_.1))
      have n3_ := Aside0.mk (Kd.R_lower (Kd.R_new' (Kd.R_new' ho0 (Kd.R_lt (roq HO_284000.out))) (Kd.R_lt (roq HO_284002.out))) (below_size (hbqa HB.out)))
      have n4_ := Aside0.mk (Kd.R_lower (Kd.R_new' (Kd.R_new' ho1 (Kd.R_lt (roq HO_284000.out))) (Kd.R_lt (roq HO_284002.out))) (below_size (hbqa HB.out)))
      have n5_ := Aside0.mk (blk_below (bkq BK274.out) hb)
      have n6_ := Aside0.mk (blk_below (bkq BK275.out) hb)
      have n7_ := Aside0.mk (blk_below (bkq BK283.out) hb)
      have n8_ := Aside0.mk (below_step (hbqa HB.out) hb)
      clear HO_284000 HO_284002 HO_284003 BK274 BK275 BK283 HB
      revert n0_ n1_ n2_ n3_ n4_ n5_ n6_ n7_ n8_
      intro HO_284000 HO_284002 HO_284003 HO287 HO291 BK274 BK275 BK283 HB
      (try clear hb)
      (try clear hb2)
      (try clear hk)
      (try clear hi)
      (try clear ho0)
      (try clear ho1)
      obtain ⟨Ao24, co24, eo24⟩ := Kd.R_slice HO287.out
      (first | subst eo24 | (injection eo24 with f1_ f2_ f3_; have f4_ := f1_.symm; have f5_ := f3_.symm; clear f1_ f2_ f3_; subst f4_; subst f5_))
      obtain ⟨Ao25, co25, eo25⟩ := Kd.R_slice HO291.out
      (first | subst eo25 | (injection eo25 with f1_ f2_ f3_; have f4_ := f1_.symm; have f5_ := f3_.symm; clear f1_ f2_ f3_; subst f4_; subst f5_))
      refine hK.out _ _ ⟨(blk_cell BK283.out 0).trans rfl, (blk_cell BK283.out 1).trans rfl, (blk_cell BK283.out 2).trans rfl, (blk_cell BK283.out 3).trans rfl, (blk_cell BK274.out 0).trans rfl, (blk_cell BK274.out 1).trans rfl, (blk_cell BK274.out 2).trans rfl, (blk_cell BK274.out 3).trans rfl, ((HB.out.cell (World.block_lt_of_cell? w _ hw284_0)).trans hw284_0), ((HB.out.cell (World.block_lt_of_cell? w _ hw284_1)).trans hw284_1), ((HB.out.cell (World.block_lt_of_cell? w _ hw284_2)).trans hw284_2)⟩ (fun hHeld => ?_)
      clear hK K
      refine normq 23 ?_
      refine one_ (i := 8) (N := some 24) #[true, true, true, true, true, true, true, true, true, false, false, false] rfl rfl (one_of HT_.out (by kernel_rfl)) (by decide) (fun K hK => ?_)
      refine value_ (w1 := ?_) (v := ?_) (by rfl) rfl ?_ ?_
      rotate_left 2
      ·go_simp
       constructor
       ·rfl
       ·rfl
      refine hK.out _ _ ⟨(blk_cell (blk_alloc BK283.out _) 0).trans rfl, (blk_cell (blk_alloc BK283.out _) 1).trans rfl, (blk_cell (blk_alloc BK283.out _) 2).trans rfl, (blk_cell (blk_alloc BK283.out _) 3).trans rfl, (blk_cell (blk_alloc BK274.out _) 0).trans rfl, (blk_cell (blk_alloc BK274.out _) 1).trans rfl, (blk_cell (blk_alloc BK274.out _) 2).trans rfl, (blk_cell (blk_alloc BK274.out _) 3).trans rfl, (World.cell?_alloc_lt _ _ _ (World.block_lt_of_cell? _ _ (((HB.out.cell (World.block_lt_of_cell? w _ hw284_0)).trans hw284_0)))).trans (((HB.out.cell (World.block_lt_of_cell? w _ hw284_0)).trans hw284_0)), (World.cell?_alloc_lt _ _ _ (World.block_lt_of_cell? _ _ (((HB.out.cell (World.block_lt_of_cell? w _ hw284_1)).trans hw284_1)))).trans (((HB.out.cell (World.block_lt_of_cell? w _ hw284_1)).trans hw284_1)), (World.cell?_alloc_lt _ _ _ (World.block_lt_of_cell? _ _ (((HB.out.cell (World.block_lt_of_cell? w _ hw284_2)).trans hw284_2)))).trans (((HB.out.cell (World.block_lt_of_cell? w _ hw284_2)).trans hw284_2))⟩ (fun hHeld => ?_)
      clear hK K
      refine normq 24 ?_
      refine one_ (i := 9) (N := some 25) #[true, true, true, true, true, true, true, true, true, true, false, false] rfl rfl (one_of HT_.out (by kernel_rfl)) (by decide) (fun K hK => ?_)
      refine Kd.S_append_step k26s (w0 := w) w.heap.size (by rfl) (.tmp 17) (.tmp 24) 27 26 (.agg #[(.slice none 0 0), (.int .i64 0), (.slice none 0 0)]) 56 rfl Try.underlying27 info26 rfl (by decide) (by omega) u284003 x284003_1 (⟨t285, t288, t289⟩ : S26) [.slice Ao24 t285.length co24, .int .i64 t288, .slice Ao25 t289.length co25] (fun k_ => some k_ ≠ (.slice Ao9 t276.length co9 : Value).ownBlock ∧ some k_ ≠ (.slice Ao8 t280.length co8 : Value).ownBlock) (fun k_ => some k_ = (.slice Ao24 t285.length co24 : Value).ownBlock ∨ some k_ = (.slice Ao25 t289.length co25 : Value).ownBlock) rfl rfl ?aP (fun k_ hk_ => hk_.elim (fun h_ => ((Kd.R_mono (ok' := fun k_ => ((fun k_ => some k_ ≠ (.slice Ao9 t276.length co9 : Value).ownBlock ∧ some k_ ≠ (.slice Ao8 t280.length co8 : Value).ownBlock)) k_ ∧ some k_ ≠ (u284003 : Value).ownBlock) (Kd.R_apart' (HO287.out) (Kd.S_typed HO_284003.out) (by decide)) (fun k_ hk => ⟨⟨hk.1.1.2, hk.1.2⟩, hk.2⟩))).1 k_ h_.symm) (fun h_ => ((Kd.R_mono (ok' := fun k_ => ((fun k_ => some k_ ≠ (.slice Ao9 t276.length co9 : Value).ownBlock ∧ some k_ ≠ (.slice Ao8 t280.length co8 : Value).ownBlock)) k_ ∧ some k_ ≠ (u284003 : Value).ownBlock) (Kd.R_apart' (HO291.out) (Kd.S_typed HO_284003.out) (by decide)) (fun k_ hk => ⟨⟨hk.1.1.2, hk.1.2⟩, hk.2⟩))).1 k_ h_.symm)) ?aF ?aO ?aB ?aS ?aL ?_
      (case aP => exact k26s_mkM _ _ _ (⟨t285, t288, t289⟩ : S26) (Kd.R_mono (Kd.R_tight rfl (Kd.R_mono (ok' := fun k_ => ((fun k_ => some k_ ≠ (.slice Ao9 t276.length co9 : Value).ownBlock ∧ some k_ ≠ (.slice Ao8 t280.length co8 : Value).ownBlock)) k_ ∧ some k_ ≠ (u284003 : Value).ownBlock) (Kd.R_apart' (HO287.out) (Kd.S_typed HO_284003.out) (by decide)) (fun k_ hk => ⟨⟨hk.1.1.2, hk.1.2⟩, hk.2⟩))) (fun _ h_ => Or.inl h_)) (Kd.R_mono (Kd.R_tight rfl (Kd.R_mono (ok' := fun k_ => ((fun k_ => some k_ ≠ (.slice Ao9 t276.length co9 : Value).ownBlock ∧ some k_ ≠ (.slice Ao8 t280.length co8 : Value).ownBlock)) k_ ∧ some k_ ≠ (u284003 : Value).ownBlock) (Kd.R_apart' (HO291.out) (Kd.S_typed HO_284003.out) (by decide)) (fun k_ hk => ⟨⟨hk.1.1.2, hk.1.2⟩, hk.2⟩))) (fun _ h_ => Or.inr (h_))) (fun k_ hk_ => (HO287.out.1 k_ hk_).1.1))
      (case aB => exact (hbqa HB.out))
      (case aF => exact (fun k_ hk => ⟨Kd.fresh' (Kd.R_lt (roq HO_284000.out)) k_ hk, Kd.fresh' (Kd.R_lt (roq HO_284002.out)) k_ hk⟩))
      (case aO => exact (soq (Kd.S_mono HO_284003.out (fun k_ hk => ⟨⟨hk.1.1.1, hk.1.1.2⟩, fun e_ => e_.elim (fun h_ => hk.1.2 h_) (fun h_ => hk.2 h_)⟩))))
      (case aS => exact (below_size (hbqa HB.out)))
      (case aL => have := LMc17.out; omega)
      intro v293 w23 ho hb hg hat
      rw [← Ny292.out] at ho
      have n0_ := Aside0.mk (Kd.R_over' (roq HO_284000.out) (Kd.S_typed (soq HO_284003.out)) (by decide) hg)
      have n1_ := Aside0.mk (Kd.R_over' (roq HO_284002.out) (Kd.S_typed (soq HO_284003.out)) (by decide) hg)
      have n2_ := Aside0.mk (blk_grown (bkq BK274.out) hg (Kd.S_ne HO_284003.out BK274.out (by decide)))
      have n3_ := Aside0.mk (blk_grown (bkq BK275.out) hg (Kd.S_ne HO_284003.out BK275.out (by decide)))
      have n4_ := Aside0.mk (blk_grown (bkq BK283.out) hg (Kd.S_ne HO_284003.out BK283.out (by decide)))
      have n5_ := Aside0.mk (hb)
      have n6_ := Aside0.mk (ho)
      clear HO_284000 HO_284002 BK274 BK275 BK283 HB HO_284003 HO287 HO291
      revert n0_ n1_ n2_ n3_ n4_ n5_ n6_
      intro HO_284000 HO_284002 BK274 BK275 BK283 HB HO294
      clear ho hb hg hat
      obtain ⟨Ao26, co26, eo26⟩ := Kd.S_slice HO294.out
      (first | subst eo26 | (injection eo26 with f1_ f2_ f3_; have f4_ := f1_.symm; have f5_ := f3_.symm; clear f1_ f2_ f3_; subst f4_; subst f5_))
      refine hK.out _ _ ⟨(blk_cell BK283.out 0).trans rfl, (blk_cell BK283.out 1).trans rfl, (blk_cell BK283.out 2).trans rfl, (blk_cell BK283.out 3).trans rfl, (blk_cell BK274.out 0).trans rfl, (blk_cell BK274.out 1).trans rfl, (blk_cell BK274.out 2).trans rfl, (blk_cell BK274.out 3).trans rfl, ((HB.out.cell (World.block_lt_of_cell? w _ hw284_0)).trans hw284_0), ((HB.out.cell (World.block_lt_of_cell? w _ hw284_1)).trans hw284_1), ((HB.out.cell (World.block_lt_of_cell? w _ hw284_2)).trans hw284_2)⟩ (fun hHeld => ?_)
      clear hK K
      refine normq 25 ?_
      refine pureq (i := 10) (N := some 26) #[true, true, true, true, true, true, true, true, true, true, true, false] rfl rfl HT_.out ?_
      refine last_ (i := 11) (N := none) #[true, true, true, true, true, true, true, true, true, true, true, true] rfl rfl (one_of HT_.out (by kernel_rfl)) (by decide) (fun K hK => ?_)
      have hs27 : w23.cell? ⟨gb283, 3, none⟩ = some (u284003) := (blk_cell BK283.out 3).trans rfl
      have hfs27 := blk_frozen BK283.out 3
      have hns27_0 := NB274_283.out
      have hns27_1 := NB275_283.out
      have hms27_0 := NB283_274.out
      have hms27_1 := NB283_275.out
      refine skip_ (w1 := ?_) (by rfl) rfl ?_ ?_
      rotate_left
      ·go_simp
       rfl
      refine hK.out _ _ ?_
      clear hK K
      refine done_ (done_of HT_.out (by kernel_rfl)) ?_
      try go_wp2
      go_roundg k1
      case measure => have := HK1.out; omega
      case rel => exact ⟨(wrap64 (x4_1 + 1)), (y292), (.slice Ao26 y292.length co26), rfq, H', ⟨by have := HK1.out; omega⟩, ⟨by refine roq ?_; exact Kd.R_mono (Kd.R_far (p := ⟨gb283, 3, none⟩) (Kd.R_types HO_284000.out BK283.out (by decide)) (fun _ hk => hk.2) (.slice Ao26 y292.length co26)) (fun _ hk => hk.1.1.1)⟩, ⟨by refine roq ?_; exact Kd.R_mono (Kd.R_far (p := ⟨gb283, 3, none⟩) (Kd.R_types HO_284002.out BK283.out (by decide)) (fun _ hk => hk.2) (.slice Ao26 y292.length co26)) (fun _ hk => hk.1.1.1)⟩, ⟨by refine soq ?_; exact Kd.S_mono (Kd.S_far (p := ⟨gb283, 3, none⟩) (Kd.S_types HO294.out BK283.out (by decide)) (fun _ hk => hk.2) (.slice Ao26 y292.length co26)) (fun _ hk => ⟨hk.1.1, hk.1.2⟩)⟩, ⟨by refine bkq ?_; refine blk_far ?_ NB274_283.out _; refine bkq ?_; exact BK274.out⟩, ⟨by refine bkq ?_; refine blk_far ?_ NB275_283.out _; refine bkq ?_; exact BK275.out⟩, ⟨by refine bkq ?_; refine blk_put (cs := #[.slice Ao9 t276.length co9, .int .i64 t279, .slice Ao8 t280.length co8, u284003]) ?_ 3 _ rfl; refine bkq ?_; exact BK283.out⟩, ⟨hbqa HB.out⟩⟩
     ·rw [if_neg c17] at H
      exact absurd H (by simp)
    ·rw [if_neg c15] at H
     exact absurd H (by simp)
   ·rw [if_neg c14] at H
    have c14b0 : decide (x4_1 < (l0_3.length : Int)) = false := decide_eq_false c14
    clear c14
    simp only [Option.some.injEq, Prod.mk.injEq] at H
    obtain ⟨rfl, rfl, rfl, rfl⟩ := H
    have hnb28 := NB274_275.out
    have hnc28 := NB275_274.out
    have hnb29 := NB274_283.out
    have hnc29 := NB283_274.out
    have hcz30_0 : wr.cell? ⟨gb274, 0, none⟩ = some (.slice A0_0 l0_0.length c0_0) := (blk_cell BK274.out 0).trans rfl
    have hcz30_1 : wr.cell? ⟨gb274, 1, none⟩ = some (.int .i64 a0_1) := (blk_cell BK274.out 1).trans rfl
    have hcz30_2 : wr.cell? ⟨gb274, 2, none⟩ = some (.slice A0_2 l0_2.length c0_2) := (blk_cell BK274.out 2).trans rfl
    have hcz30_3 : wr.cell? ⟨gb274, 3, none⟩ = some (.slice A0_3 l0_3.length c0_3) := (blk_cell BK274.out 3).trans rfl
    have hfz30_0 := blk_frozen BK274.out 0
    have hfz30_1 := blk_frozen BK274.out 1
    have hfz30_2 := blk_frozen BK274.out 2
    have hfz30_3 := blk_frozen BK274.out 3
    have hnb31 := NB283_275.out
    have hnc31 := NB275_283.out
    have hcz32_0 : wr.cell? ⟨gb283, 0, none⟩ = some (.slice Ao9 t276.length co9) := (blk_cell BK283.out 0).trans rfl
    have hcz32_1 : wr.cell? ⟨gb283, 1, none⟩ = some (.int .i64 t279) := (blk_cell BK283.out 1).trans rfl
    have hcz32_2 : wr.cell? ⟨gb283, 2, none⟩ = some (.slice Ao8 t280.length co8) := (blk_cell BK283.out 2).trans rfl
    have hcz32_3 : wr.cell? ⟨gb283, 3, none⟩ = some (u284003) := (blk_cell BK283.out 3).trans rfl
    have hfz32_0 := blk_frozen BK283.out 0
    have hfz32_1 := blk_frozen BK283.out 1
    have hfz32_2 := blk_frozen BK283.out 2
    have hfz32_3 := blk_frozen BK283.out 3
    have hcz33_0 : wr.cell? ⟨gb275, 0, none⟩ = some (.slice none 0 0) := (blk_cell BK275.out 0).trans rfl
    have hcz33_1 : wr.cell? ⟨gb275, 1, none⟩ = some (.int .i64 0) := (blk_cell BK275.out 1).trans rfl
    have hcz33_2 : wr.cell? ⟨gb275, 2, none⟩ = some (.slice none 0 0) := (blk_cell BK275.out 2).trans rfl
    have hcz33_3 : wr.cell? ⟨gb275, 3, none⟩ = some (.slice none 0 0) := (blk_cell BK275.out 3).trans rfl
    have hfz33_0 := blk_frozen BK275.out 0
    have hfz33_1 := blk_frozen BK275.out 1
    have hfz33_2 := blk_frozen BK275.out 2
    have hfz33_3 := blk_frozen BK275.out 3
    obtain ⟨Ao34, co34, eo34⟩ := Kd.S_slice HO_284003.out
    subst eo34
    go_wp2
    refine bodyPost_ret (results_cell_row rfl _ _ gb275 29 #[.slice Ao9 t276.length co9, .int .i64 t279, .slice Ao8 t280.length co8, .slice Ao34 x284003_1.length co34] (0, 0) _ rfl (by refine bkq ?_; refine blk_put (cs := #[.slice Ao9 t276.length co9, .int .i64 t279, .slice Ao8 t280.length co8, .slice none 0 0]) ?_ 3 _ rfl; refine bkq ?_; refine blk_put (cs := #[.slice Ao9 t276.length co9, .int .i64 t279, .slice none 0 0, .slice none 0 0]) ?_ 2 _ rfl; refine bkq ?_; refine blk_put (cs := #[.slice Ao9 t276.length co9, .int .i64 0, .slice none 0 0, .slice none 0 0]) ?_ 1 _ rfl; refine bkq ?_; refine blk_put (cs := #[.slice none 0 0, .int .i64 0, .slice none 0 0, .slice none 0 0]) ?_ 0 _ rfl; refine bkq ?_; exact BK275.out) Try.underlying29 rfl (by kernel_rfl)) rfl ?_
    exact ⟨_, _, _, by first | rfl | (simp [errW_none, errW_some] <;> rfl) | (simp [*, errW_none, errW_some] <;> rfl), by refine roq ?_; exact Kd.R_mono (Kd.R_far (p := ⟨gb275, 3, none⟩) (Kd.R_far (p := ⟨gb275, 2, none⟩) (Kd.R_far (p := ⟨gb275, 1, none⟩) (Kd.R_far (p := ⟨gb275, 0, none⟩) (Kd.R_types HO_284000.out BK275.out (by decide)) (fun _ hk => hk.2) (.slice Ao9 t276.length co9)) (fun _ hk => hk.2) (.int .i64 t279)) (fun _ hk => hk.2) (.slice Ao8 t280.length co8)) (fun _ hk => hk.2) (.slice Ao34 x284003_1.length co34)) (fun _ hk => hk.1), by refine roq ?_; exact Kd.R_mono (Kd.R_far (p := ⟨gb275, 3, none⟩) (Kd.R_far (p := ⟨gb275, 2, none⟩) (Kd.R_far (p := ⟨gb275, 1, none⟩) (Kd.R_far (p := ⟨gb275, 0, none⟩) (Kd.R_types HO_284002.out BK275.out (by decide)) (fun _ hk => hk.2) (.slice Ao9 t276.length co9)) (fun _ hk => hk.2) (.int .i64 t279)) (fun _ hk => hk.2) (.slice Ao8 t280.length co8)) (fun _ hk => hk.2) (.slice Ao34 x284003_1.length co34)) (fun _ hk => hk.1), by refine soq ?_; exact Kd.S_mono (Kd.S_far (p := ⟨gb275, 3, none⟩) (Kd.S_far (p := ⟨gb275, 2, none⟩) (Kd.S_far (p := ⟨gb275, 1, none⟩) (Kd.S_far (p := ⟨gb275, 0, none⟩) (Kd.S_types HO_284003.out BK275.out (by decide)) (fun _ hk => hk.2) (.slice Ao9 t276.length co9)) (fun _ hk => hk.2) (.int .i64 t279)) (fun _ hk => hk.2) (.slice Ao8 t280.length co8)) (fun _ hk => hk.2) (.slice Ao34 x284003_1.length co34)) (fun _ hk => ⟨hk.1.1, hk.1.2⟩), hbqa HB.out⟩
theorem spec_l15Copy.calls (k : Nat) (A0_0 : Option Addr) (c0_0 : Nat) (l0_0 : List Int) (a0_1 : Int) (A0_2 : Option Addr) (c0_2 : Nat) (l0_2 : List Int) (A0_3 : Option Addr) (c0_3 : Nat) (l0_3 : List (S26)) (r1 : List Int) (r2 : Int) (r3 : List Int) (r4 : List (S26)) (w : World) (hr0_0 : Kd.C (Kd.int .i64) w A0_0 l0_0.length l0_0) (hc0_0 : l0_0.length ≤ c0_0) (hr0_2 : Kd.C (Kd.int .i64) w A0_2 l0_2.length l0_2) (hc0_2 : l0_2.length ≤ c0_2) (hr0_3 : Kd.C k26 w A0_3 l0_3.length l0_3) (hc0_3 : l0_3.length ≤ c0_3) (h : spec_l15Copy.f k l0_0 a0_1 l0_2 l0_3 = some (r1, r2, r3, r4)) :
  Calls Try.prog 73 #[.agg #[.slice A0_0 l0_0.length c0_0, .int .i64 a0_1, .slice A0_2 l0_2.length c0_2, .slice A0_3 l0_3.length c0_3]] w fun e w' => ∃ v0_ v2_ v3_ : Value, e = .returned (.agg #[v0_, .int .i64 r2, v2_, v3_]) ∧ Kd.R (Kd.int .i64) 3 w' w.heap.size (fun k_ => some k_ ≠ (v2_ : Value).ownBlock) v0_ r1 ∧ Kd.R (Kd.int .i64) 3 w' w.heap.size (fun k_ => some k_ ≠ (v0_ : Value).ownBlock) v2_ r3 ∧ Kd.S k26 26 w' w.heap.size (fun k_ => some k_ ≠ (v0_ : Value).ownBlock ∧ some k_ ≠ (v2_ : Value).ownBlock) v3_ r4 ∧ Below w.heap.size w w' := by
 refine (spec_l15Copy.calls_s k A0_0 c0_0 l0_0 a0_1 A0_2 c0_2 l0_2 A0_3 c0_3 l0_3 r1 r2 r3 r4 w hr0_0 hc0_0 hr0_2 hc0_2 hr0_3 hc0_3 h).mono ?_
 rintro e w' ⟨v0_, v2_, v3_, he, h0, h2, h3, hb⟩
 exact ⟨v0_, v2_, v3_, he, h0, h2, k26s_S h3, hb⟩

/-! ### spec_l3Step: function 78 -/
mutual
def spec_l3Step.l0 : Nat → List Int → Int → List Int → Int → Int → Option (List Int)
 | 0, _, _, _, _, _ => none
 | k + 1, x0, x1, x2, x7, x8 => if x8 < (x2.length : Int) then (if 0 ≤ x8 then (if (rd x2 x8) = 1 then (spec_l3Step.l0 k x0 x1 x2 (Go.bits .or .i64 x7 (shl .i64 1 x8)) (wrap64 (x8 + 1))) else (spec_l3Step.l0 k x0 x1 x2 x7 (wrap64 (x8 + 1)))) else (none)) else (spec_l3Step.l1 k x0 x1 x2 x7 (([] : List Int)) 0)
def spec_l3Step.l1 : Nat → List Int → Int → List Int → Int → List Int → Int → Option (List Int)
 | 0, _, _, _, _, _, _ => none
 | k + 1, x0, x1, x2, x7, x9, x10 => if x10 < (x2.length : Int) then (if 0 ≤ x10 then (if (rd x2 x10) > 0 then (if x1 = 0 then (none) else (if x9.length < 17592186044416 then (spec_l3Step.l1 k x0 x1 x2 x7 (x9 ++ [Int.tmod (wrap64 ((rd x2 x10) + 1)) x1]) (wrap64 (x10 + 1))) else (none))) else (if x10 < (x0.length : Int) then (if (Go.bits .and .i64 (rd x0 x10) x7) = 0 then (if x9.length < 17592186044416 then (spec_l3Step.l1 k x0 x1 x2 x7 (x9 ++ [rd x2 x10]) (wrap64 (x10 + 1))) else (none)) else (if x9.length < 17592186044416 then (spec_l3Step.l1 k x0 x1 x2 x7 (x9 ++ [1]) (wrap64 (x10 + 1))) else (none))) else (none))) else (none)) else (some x9)
end
def spec_l3Step.f (k : Nat) (l0 : List Int) (a1 : Int) (l2 : List Int) : Option (List Int) := spec_l3Step.l0 k l0 a1 l2 0 0
theorem spec_l3Step.mono_l : ∀ k, (∀ y0 y1 y2 y3 y4, LeO (spec_l3Step.l0 k y0 y1 y2 y3 y4) (spec_l3Step.l0 (k + 1) y0 y1 y2 y3 y4)) ∧ (∀ y0 y1 y2 y3 y4 y5, LeO (spec_l3Step.l1 k y0 y1 y2 y3 y4 y5) (spec_l3Step.l1 (k + 1) y0 y1 y2 y3 y4 y5))
 | 0 => ⟨fun _ _ _ _ _ r h => by simp [spec_l3Step.l0] at h, fun _ _ _ _ _ _ r h => by simp [spec_l3Step.l1] at h⟩
 | k + 1 => by
  obtain ⟨ih0, ih1⟩ := spec_l3Step.mono_l k
  refine ⟨?_, ?_⟩
  ·intro y0 y1 y2 y3 y4
   unfold spec_l3Step.l0
   repeat' first | (with_reducible first | exact ih0 _ _ _ _ _ | exact ih1 _ _ _ _ _ _ | exact LeO.refl _ | exact LeO.none _ | refine LeO.ite ?_ ?_ | refine LeO.bind ?_ (fun _ => ?_)) | exact LeO.none _ | refine LeO.ite ?_ ?_ | refine LeO.bind ?_ (fun _ => ?_)
  ·intro y0 y1 y2 y3 y4 y5
   unfold spec_l3Step.l1
   repeat' first | (with_reducible first | exact ih0 _ _ _ _ _ | exact ih1 _ _ _ _ _ _ | exact LeO.refl _ | exact LeO.none _ | refine LeO.ite ?_ ?_ | refine LeO.bind ?_ (fun _ => ?_)) | exact LeO.none _ | refine LeO.ite ?_ ?_ | refine LeO.bind ?_ (fun _ => ?_)
theorem spec_l3Step.mono : ∀ a0 a1 a2 k, LeO (spec_l3Step.f k a0 a1 a2) (spec_l3Step.f (k + 1) a0 a1 a2) := by
 intro a0 a1 a2 k
 obtain ⟨ih0, ih1⟩ := spec_l3Step.mono_l k
 unfold spec_l3Step.f
 repeat' first
   | (with_reducible exact ih0 _ _ _ _ _)
   | (with_reducible exact ih1 _ _ _ _ _ _)
   | (with_reducible exact LeO.refl _)
   | (with_reducible exact LeO.none _)
   | (with_reducible refine LeO.ite ?_ ?_)
   | (with_reducible refine LeO.bind ?_ (fun _ => ?_))
   | exact ih0 _ _ _ _ _
   | exact ih1 _ _ _ _ _ _
   | exact LeO.none _
   | refine LeO.ite ?_ ?_
   | refine LeO.bind ?_ (fun _ => ?_)
set_option maxHeartbeats 8000000 in
set_option maxRecDepth 100000 in
theorem spec_l3Step.calls (k : Nat) (A0 : Option Addr) (c0 : Nat) (l0 : List Int) (a1 : Int) (A2 : Option Addr) (c2 : Nat) (l2 : List Int) (r : List Int) (w : World) (hr0 : Kd.C (Kd.int .i64) w A0 l0.length l0) (hc0 : l0.length ≤ c0) (hr2 : Kd.C (Kd.int .i64) w A2 l2.length l2) (hc2 : l2.length ≤ c2) (h : spec_l3Step.f k l0 a1 l2 = some r) :
  Calls Try.prog 78 #[.slice A0 l0.length c0, .int .i64 a1, .slice A2 l2.length c2] w fun e w' => ∃ v0_ : Value, e = .returned (v0_) ∧ Kd.R (Kd.int .i64) 3 w' w.heap.size (fun _ => True) v0_ r ∧ Below w.heap.size w w' := by
 have HR0 := Aside0.mk hr0
 have HC0 := Aside0.mk hc0
 clear hr0 hc0
 have HR2 := Aside0.mk hr2
 have HC2 := Aside0.mk hc2
 clear hr2 hc2
 have HB := Aside0.mk (Below.refl w.heap.size w)
 have H : (spec_l3Step.l0 k l0 a1 l2 0 0) = some r := h
 clear h
 have H' := Aside0.mk H
 clear H
 go_enter Try.func78, Try.ntmps78
 go_wp2
 go_loopg [7, 8] k (fun kq v7 v8 w' => ∃ (x7_1 : Int) (x8_1 : Int), v7 = .int .i64 x7_1 ∧ v8 = .int .i64 x8_1 ∧ Aside0 (spec_l3Step.l0 kq l0 a1 l2 x7_1 x8_1 = some r) ∧ Aside0 (kq ≤ k) ∧ Aside0 (Below w.heap.size w w'))
 case atStart => exact ⟨(0), (0), rfq, rfq, H', ⟨Nat.le_refl _⟩, ⟨hbq HB.out⟩⟩
 case round =>
  clear H'
  try clear c2
  try clear p2
  obtain ⟨x7_1, x8_1, rfl, rfl, HA, HK1, HB⟩ := hrel
  cases gk with
  | zero => exact absurd HA.out (by simp [spec_l3Step.l0])
  | succ k1 =>
   have H := HA.out
   clear HA
   simp only [spec_l3Step.l0] at H
   by_cases c4 : x8_1 < (l2.length : Int)
   ·rw [if_pos c4] at H
    have c4b0 : decide (x8_1 < (l2.length : Int)) = true := decide_eq_true c4
    clear c4
    by_cases c5 : 0 ≤ x8_1
    ·rw [if_pos c5] at H
     have c5b0 : decide (0 ≤ x8_1) = true := decide_eq_true c5
     clear c5
     by_cases c6 : (rd l2 x8_1) = 1
     ·rw [if_pos c6] at H
      have c6b0 : ((rd l2 x8_1) == 1) = true := beq_iff_eq.mpr c6
      have c6b1 : ((rd l2 x8_1) != 1) = false := bne_eq_false_iff_eq.mpr c6
      clear c6
      have c7b0 := eq_true (od : 0 ≤ x8_1)
      obtain ⟨ji8, hji8⟩ : ∃ j_ : Int, (shl .i64 1 x8_1) = j_ := ⟨_, rfl⟩
      replace H : (spec_l3Step.l0 k1 l0 a1 l2 (Go.bits .or .i64 x7_1 (ji8)) (wrap64 (x8_1 + 1))) = some r := by first | (rw [hji8] at H; exact H) | (simp only [hji8] at H ⊢; exact H)
      have hji8_ : (IntKind.i64.wrap (1 * 2 ^ min x8_1.toNat 64)) = ji8 := hji8
      have hji8z : x8_1 ≤ 64 → (IntKind.i64.wrap (1 * 2 ^ x8_1.toNat)) = ji8 := shl_small hji8
      have hji8u : (IntKind.i64.wrap (2 ^ min x8_1.toNat 64)) = ji8 := by have h_ := hji8_; rw [Int.one_mul] at h_; exact h_
      have hji8v : x8_1 ≤ 64 → (IntKind.i64.wrap (2 ^ x8_1.toNat)) = ji8 := fun hle_ => by have h_ := hji8z hle_; rw [Int.one_mul] at h_; exact h_
      have hji8y : (wrap64 (1 * 2 ^ min x8_1.toNat 64)) = ji8 := (i64_w _).symm.trans hji8_
      have hji8x : x8_1 ≤ 64 → (wrap64 (1 * 2 ^ x8_1.toNat)) = ji8 := fun h_ => (i64_w _).symm.trans (hji8z h_)
      have H' := Aside0.mk H
      clear H
      have p295 : 0 ≤ (x8_1 : Int) := od
      have q295 : x8_1 < (l2.length : Int) := od
      obtain ⟨ad295, e295, hx295_0⟩ := Kd.at_int HR2.out x8_1 p295 q295
      cases e295
      replace hx295_0 := (HB.out.cell (World.block_lt_of_cell? w _ hx295_0)).trans hx295_0
      replace p295 := eq_true p295
      replace q295 := eq_true q295
      go_wp2
      go_roundg k1
      case measure => have := HK1.out; omega
      case rel => exact ⟨(Go.bits .or .i64 x7_1 (ji8)), (wrap64 (x8_1 + 1)), (by first | rfl | (simp; done) | (simp only [← hji8] <;> (first | rfl | simp)) | (simp [*]; done)), rfq, H', ⟨by have := HK1.out; omega⟩, ⟨hbq HB.out⟩⟩
     ·rw [if_neg c6] at H
      have c6b0 : ((rd l2 x8_1) == 1) = false := beq_eq_false_iff_ne.mpr c6
      have c6b1 : ((rd l2 x8_1) != 1) = true := bne_iff_ne.mpr c6
      have H' := Aside0.mk H
      clear H
      have p295 : 0 ≤ (x8_1 : Int) := od
      have q295 : x8_1 < (l2.length : Int) := od
      obtain ⟨ad295, e295, hx295_0⟩ := Kd.at_int HR2.out x8_1 p295 q295
      cases e295
      replace hx295_0 := (HB.out.cell (World.block_lt_of_cell? w _ hx295_0)).trans hx295_0
      replace p295 := eq_true p295
      replace q295 := eq_true q295
      go_wp2
      go_roundg k1
      case measure => have := HK1.out; omega
      case rel => exact ⟨(x7_1), (wrap64 (x8_1 + 1)), rfq, rfq, H', ⟨by have := HK1.out; omega⟩, ⟨hbq HB.out⟩⟩
    ·rw [if_neg c5] at H
     exact absurd H (by simp)
   ·rw [if_neg c4] at H
    have c4b0 : decide (x8_1 < (l2.length : Int)) = false := decide_eq_false c4
    clear c4
    obtain ⟨y296, hy296⟩ : ∃ y_ : List Int, y_ = (([] : List Int)) := ⟨_, rfl⟩
    replace H : (spec_l3Step.l1 k1 l0 a1 l2 x7_1 y296 0) = some r := by first | (rw [hy296]; with_reducible exact H) | (have H2_ := (Option.bind_some _ _).symm.trans H; rw [hy296]; with_reducible exact H2_) | (have H2_ := (Option.bind_some _ _).symm.trans H; with_reducible exact H2_) | with_reducible exact H | (rw [hy296]; exact H) | exact H
    have Ny296 := Aside0.mk hy296
    clear hy296
    have H' := Aside0.mk H
    clear H
    go_wp2_with (first | ((with_reducible refine gate_dst (N := 27) rfl ?_); refine Kd.R_lit (Kd.int .i64) _ 3 ?hg (N := 27) ?hd (xs := ([] : List Int)) (inner := []) (ok := fun _ => True) (okp := fun _ => True) ?hr ?hp (fun _ hk => hk) trivial (Below.refl _ _) (Nat.le_refl _) (by simp) ?_; (case hd => rfl); (case hg => rfl); (case hr => first | (go_simp; done) | (go_simp; rfl)); (case hp => exact (Reps.none _ _)); intro v297 w9 ho10 hb hg_ hnew_; clear hg_ hnew_; (first | rw [← Ny296.out] at ho10 | (simp only [Int.reduceToNat] at ho10; rw [← Ny296.out] at ho10)); have n0_ := Aside0.mk (Kd.R_lower ho10 (below_size (hbq HB.out))); have n1_ := Aside0.mk (below_step (hbq HB.out) hb); clear HB; revert n0_ n1_; intro HO298 HB; clear hb ho10))
    go_loopg [9, 10] k1 (fun kq v9 v10 w' => ∃ (x9_2 : List Int) (x10_2 : Int), v10 = .int .i64 x10_2 ∧ Aside0 (spec_l3Step.l1 kq l0 a1 l2 x7_1 x9_2 x10_2 = some r) ∧ Aside0 (kq ≤ k1) ∧ Aside0 (Kd.R (Kd.int .i64) 3 w' w.heap.size (fun _ => True) v9 x9_2) ∧ Aside0 (Below w.heap.size w w'))
    case atStart => exact ⟨(y296), (0), rfq, H', ⟨Nat.le_refl _⟩, ⟨by refine roq ?_; exact HO298.out⟩, ⟨hbq HB.out⟩⟩
    case round =>
     clear H'
     try clear c2
     try clear p2
     try clear q2
     try clear hx2
     try clear c4
     try clear c4b0
     try clear c5
     try clear c5b0
     try clear c6
     try clear c6b0
     try clear c6b1
     try clear p6
     try clear c7
     try clear c7b0
     try clear hx295_0
     try clear p2
     try clear p295
     try clear q295
     obtain ⟨x9_2, x10_2, rfl, HA, HK2, HO_9, HB⟩ := hrel
     cases gk with
     | zero => exact absurd HA.out (by simp [spec_l3Step.l1])
     | succ k2 =>
      have H := HA.out
      clear HA
      simp only [spec_l3Step.l1] at H
      by_cases c11 : x10_2 < (l2.length : Int)
      ·rw [if_pos c11] at H
       have c11b0 : decide (x10_2 < (l2.length : Int)) = true := decide_eq_true c11
       clear c11
       by_cases c12 : 0 ≤ x10_2
       ·rw [if_pos c12] at H
        have c12b0 : decide (0 ≤ x10_2) = true := decide_eq_true c12
        clear c12
        by_cases c13 : (rd l2 x10_2) > 0
        ·rw [if_pos c13] at H
         have c13b0 : decide (0 < (rd l2 x10_2)) = true := decide_eq_true c13
         clear c13
         by_cases c14 : a1 = 0
         ·rw [if_pos c14] at H
          exact absurd H (by simp)
         ·rw [if_neg c14] at H
          have c14b0 : (a1 == 0) = false := beq_eq_false_iff_ne.mpr c14
          have c14b1 : (a1 != 0) = true := bne_iff_ne.mpr c14
          by_cases c15 : x9_2.length < 17592186044416
          ·rw [if_pos c15] at H
           have LMc15 := Aside0.mk c15
           clear c15
           obtain ⟨y300, hy300⟩ : ∃ y_ : List Int, y_ = (x9_2 ++ [Int.tmod (wrap64 ((rd l2 x10_2) + 1)) a1]) := ⟨_, rfl⟩
           replace H : (spec_l3Step.l1 k2 l0 a1 l2 x7_1 y300 (wrap64 (x10_2 + 1))) = some r := by first | (rw [hy300]; with_reducible exact H) | (have H2_ := (Option.bind_some _ _).symm.trans H; rw [hy300]; with_reducible exact H2_) | (have H2_ := (Option.bind_some _ _).symm.trans H; with_reducible exact H2_) | with_reducible exact H | (rw [hy300]; exact H) | exact H
           have Ny300 := Aside0.mk hy300
           clear hy300
           have H' := Aside0.mk H
           clear H
           have p299 : 0 ≤ (x10_2 : Int) := od
           have q299 : x10_2 < (l2.length : Int) := od
           obtain ⟨ad299, e299, hx299_0⟩ := Kd.at_int HR2.out x10_2 p299 q299
           cases e299
           replace hx299_0 := (HB.out.cell (World.block_lt_of_cell? w _ hx299_0)).trans hx299_0
           replace p299 := eq_true p299
           replace q299 := eq_true q299
           go_wp2_with (first | ((with_reducible refine gate_builtin (b := .append) (xs := #[.tmp 53, .tmp 55]) rfl ?_); at_builtin; refine Kd.R_append (Kd.int .i64) (w0 := w) w.heap.size rfl (.tmp 53) (.tmp 55) 22 3 (.int .i64 0) 8 rfl Try.underlying22 info3 rfl (by decide) (by omega) u9 x9_2 (Int.tmod (wrap64 ((rd l2 x10_2) + 1)) a1) [.int .i64 (Int.tmod (wrap64 ((rd l2 x10_2) + 1)) a1)] (fun _ => True) (fun _ => False) rfl rfl ?aP (fun _ hk => hk.elim) ?aF ?aO ?aB ?aS ?aL ?_; (case aP => exact rfl); (case aB => exact (hbq HB.out)); (case aF => exact (fun _ _ => trivial)); (case aO => exact (roq HO_9.out)); (case aS => exact (below_size (hbq HB.out))); (case aL => have := LMc15.out; omega); intro v301 w16 ho hb hg hat; rw [← Ny300.out] at ho; have n0_ := Aside0.mk (hb); have n1_ := Aside0.mk (ho); clear HB HO_9; revert n0_ n1_; intro HB HO302; clear ho hb hg hat))
           go_roundg k2
           case measure => have := HK1.out; have := HK2.out; omega
           case rel => exact ⟨(y300), (wrap64 (x10_2 + 1)), rfq, H', ⟨by have := HK1.out; have := HK2.out; omega⟩, ⟨by refine roq ?_; exact HO302.out⟩, ⟨hbq HB.out⟩⟩
          ·rw [if_neg c15] at H
           exact absurd H (by simp)
        ·rw [if_neg c13] at H
         have c13b0 : decide (0 < (rd l2 x10_2)) = false := decide_eq_false c13
         clear c13
         by_cases c17 : x10_2 < (l0.length : Int)
         ·rw [if_pos c17] at H
          have c17b0 : decide (x10_2 < (l0.length : Int)) = true := decide_eq_true c17
          clear c17
          by_cases c18 : (Go.bits .and .i64 (rd l0 x10_2) x7_1) = 0
          ·rw [if_pos c18] at H
           have c18b0 : ((Go.bits .and .i64 (rd l0 x10_2) x7_1) == 0) = true := beq_iff_eq.mpr c18
           have c18b1 : ((Go.bits .and .i64 (rd l0 x10_2) x7_1) != 0) = false := bne_eq_false_iff_eq.mpr c18
           clear c18
           by_cases c19 : x9_2.length < 17592186044416
           ·rw [if_pos c19] at H
            have LMc19 := Aside0.mk c19
            clear c19
            obtain ⟨y304, hy304⟩ : ∃ y_ : List Int, y_ = (x9_2 ++ [rd l2 x10_2]) := ⟨_, rfl⟩
            replace H : (spec_l3Step.l1 k2 l0 a1 l2 x7_1 y304 (wrap64 (x10_2 + 1))) = some r := by first | (rw [hy304]; with_reducible exact H) | (have H2_ := (Option.bind_some _ _).symm.trans H; rw [hy304]; with_reducible exact H2_) | (have H2_ := (Option.bind_some _ _).symm.trans H; with_reducible exact H2_) | with_reducible exact H | (rw [hy304]; exact H) | exact H
            have Ny304 := Aside0.mk hy304
            clear hy304
            have H' := Aside0.mk H
            clear H
            have p299 : 0 ≤ (x10_2 : Int) := od
            have q299 : x10_2 < (l2.length : Int) := od
            obtain ⟨ad299, e299, hx299_0⟩ := Kd.at_int HR2.out x10_2 p299 q299
            cases e299
            replace hx299_0 := (HB.out.cell (World.block_lt_of_cell? w _ hx299_0)).trans hx299_0
            replace p299 := eq_true p299
            replace q299 := eq_true q299
            have p303 : 0 ≤ (x10_2 : Int) := od
            have q303 : x10_2 < (l0.length : Int) := od
            obtain ⟨ad303, e303, hx303_0⟩ := Kd.at_int HR0.out x10_2 p303 q303
            cases e303
            replace hx303_0 := (HB.out.cell (World.block_lt_of_cell? w _ hx303_0)).trans hx303_0
            replace p303 := eq_true p303
            replace q303 := eq_true q303
            go_wp2_with (first | ((with_reducible refine gate_builtin (b := .append) (xs := #[.tmp 53, .tmp 55]) rfl ?_); at_builtin; refine Kd.R_append (Kd.int .i64) (w0 := w) w.heap.size rfl (.tmp 53) (.tmp 55) 22 3 (.int .i64 0) 8 rfl Try.underlying22 info3 rfl (by decide) (by omega) u9 x9_2 (rd l2 x10_2) [.int .i64 (rd l2 x10_2)] (fun _ => True) (fun _ => False) rfl rfl ?aP (fun _ hk => hk.elim) ?aF ?aO ?aB ?aS ?aL ?_; (case aP => exact rfl); (case aB => exact (hbq HB.out)); (case aF => exact (fun _ _ => trivial)); (case aO => exact (roq HO_9.out)); (case aS => exact (below_size (hbq HB.out))); (case aL => have := LMc19.out; omega); intro v305 w20 ho hb hg hat; rw [← Ny304.out] at ho; have n0_ := Aside0.mk (hb); have n1_ := Aside0.mk (ho); clear HB HO_9; revert n0_ n1_; intro HB HO306; clear ho hb hg hat))
            go_roundg k2
            case measure => have := HK1.out; have := HK2.out; omega
            case rel => exact ⟨(y304), (wrap64 (x10_2 + 1)), rfq, H', ⟨by have := HK1.out; have := HK2.out; omega⟩, ⟨by refine roq ?_; exact HO306.out⟩, ⟨hbq HB.out⟩⟩
           ·rw [if_neg c19] at H
            exact absurd H (by simp)
          ·rw [if_neg c18] at H
           have c18b0 : ((Go.bits .and .i64 (rd l0 x10_2) x7_1) == 0) = false := beq_eq_false_iff_ne.mpr c18
           have c18b1 : ((Go.bits .and .i64 (rd l0 x10_2) x7_1) != 0) = true := bne_iff_ne.mpr c18
           by_cases c21 : x9_2.length < 17592186044416
           ·rw [if_pos c21] at H
            have LMc21 := Aside0.mk c21
            clear c21
            obtain ⟨y307, hy307⟩ : ∃ y_ : List Int, y_ = (x9_2 ++ [1]) := ⟨_, rfl⟩
            replace H : (spec_l3Step.l1 k2 l0 a1 l2 x7_1 y307 (wrap64 (x10_2 + 1))) = some r := by first | (rw [hy307]; with_reducible exact H) | (have H2_ := (Option.bind_some _ _).symm.trans H; rw [hy307]; with_reducible exact H2_) | (have H2_ := (Option.bind_some _ _).symm.trans H; with_reducible exact H2_) | with_reducible exact H | (rw [hy307]; exact H) | exact H
            have Ny307 := Aside0.mk hy307
            clear hy307
            have H' := Aside0.mk H
            clear H
            have p299 : 0 ≤ (x10_2 : Int) := od
            have q299 : x10_2 < (l2.length : Int) := od
            obtain ⟨ad299, e299, hx299_0⟩ := Kd.at_int HR2.out x10_2 p299 q299
            cases e299
            replace hx299_0 := (HB.out.cell (World.block_lt_of_cell? w _ hx299_0)).trans hx299_0
            replace p299 := eq_true p299
            replace q299 := eq_true q299
            have p303 : 0 ≤ (x10_2 : Int) := od
            have q303 : x10_2 < (l0.length : Int) := od
            obtain ⟨ad303, e303, hx303_0⟩ := Kd.at_int HR0.out x10_2 p303 q303
            cases e303
            replace hx303_0 := (HB.out.cell (World.block_lt_of_cell? w _ hx303_0)).trans hx303_0
            replace p303 := eq_true p303
            replace q303 := eq_true q303
            go_wp2_with (first | ((with_reducible refine gate_builtin (b := .append) (xs := #[.tmp 53, .tmp 55]) rfl ?_); at_builtin; refine Kd.R_append (Kd.int .i64) (w0 := w) w.heap.size rfl (.tmp 53) (.tmp 55) 22 3 (.int .i64 0) 8 rfl Try.underlying22 info3 rfl (by decide) (by omega) u9 x9_2 1 [.int .i64 1] (fun _ => True) (fun _ => False) rfl rfl ?aP (fun _ hk => hk.elim) ?aF ?aO ?aB ?aS ?aL ?_; (case aP => exact rfl); (case aB => exact (hbq HB.out)); (case aF => exact (fun _ _ => trivial)); (case aO => exact (roq HO_9.out)); (case aS => exact (below_size (hbq HB.out))); (case aL => have := LMc21.out; omega); intro v308 w22 ho hb hg hat; rw [← Ny307.out] at ho; have n0_ := Aside0.mk (hb); have n1_ := Aside0.mk (ho); clear HB HO_9; revert n0_ n1_; intro HB HO309; clear ho hb hg hat))
            go_roundg k2
            case measure => have := HK1.out; have := HK2.out; omega
            case rel => exact ⟨(y307), (wrap64 (x10_2 + 1)), rfq, H', ⟨by have := HK1.out; have := HK2.out; omega⟩, ⟨by refine roq ?_; exact HO309.out⟩, ⟨hbq HB.out⟩⟩
           ·rw [if_neg c21] at H
            exact absurd H (by simp)
         ·rw [if_neg c17] at H
          exact absurd H (by simp)
       ·rw [if_neg c12] at H
        exact absurd H (by simp)
      ·rw [if_neg c11] at H
       have c11b0 : decide (x10_2 < (l2.length : Int)) = false := decide_eq_false c11
       clear c11
       obtain rfl := Option.some.inj H
       go_wp2
       go_ret
       exact ⟨_, by first | rfl | (simp [errW_none, errW_some] <;> rfl) | (simp [*, errW_none, errW_some] <;> rfl), by refine roq ?_; exact HO_9.out, hbq HB.out⟩

end Go.Proofs.Ytnhgiincboocaaa.PFnDeskOk
