-- written by wip/tools/pstub.py (my own program, over the kit's print)
import Derived.Test.YtnhgiincboocaaaPFnDeskOkx0
import Derived.Test.YtnhgiincboocaaaPFnDeskOkx1
import Derived.Test.YtnhgiincboocaaaPFnDeskOkx3
import Derived.Test.YtnhgiincboocaaaPFnDeskOkx7
import Derived.Test.YtnhgiincboocaaaPFnDeskOkx8
import Derived.Test.YtnhgiincboocaaaPFnDeskOkx10
namespace Go.Proofs.Ytnhgiincboocaaa.PFnDeskOk
open Go.RowKit Go.Proofs.YtnhgiincboocaaaW.PrintWords Go.Proofs.YtnhgiincboocaaaW.PrintLast Go.Proofs.YtnhgiincboocaaaW.PrintMore
attribute [local go_sem] max2_int min2_int max_two min_two max_three min_three max_four min_four   -- for this text's walks alone
set_option linter.unusedVariables false
set_option linter.unusedSimpArgs false

attribute [local go_sem high] eqA81
/-! ### spec_DeskDo: function 67 -/
mutual
def spec_DeskDo.j0 : Nat → Bool → Bool → List Int → Int → List Int → List (S26) → Int → Int → Int → Int → List Int → Int → List Int → List (S26) → Option (List Int × Int × List Int × (List (S26)) × Bool)
 | 0, _, _, _, _, _, _, _, _, _, _, _, _, _, _ => none
 | k + 1, x5, x23, x354000, x354001, x354002, x354003, x355000, x355001, x355002, x356001, x368000, x368001, x368002, x368003 => if x23 = true then (if 0 < (x368003.length : Int) then (some ((rd_T26 x368003 (wrap64 ((x368003.length : Int) - 1))).f0, (rd_T26 x368003 (wrap64 ((x368003.length : Int) - 1))).f1, (rd_T26 x368003 (wrap64 ((x368003.length : Int) - 1))).f2, x368003.take (wrap64 ((x368003.length : Int) - 1)).toNat, true)) else (none)) else ((spec_l15Made.f k x354000 x354001 x354002 x355000 x355001 x355002).bind fun bt368 => ((spec_PlaceOk.f k bt368.1 bt368.2.1 bt368.2.2).bind fun t376 => (if t376 = true then ((spec_PlaceText.f k bt368.1 bt368.2.1 bt368.2.2).bind fun t377 => ((spec_PlaceText.f k x354000 x354001 x354002).bind fun t378 => (spec_DeskDo.j1 k (t377.toList == t378.toList) x368000 x368001 x368002 x368003 bt368.1 bt368.2.1 bt368.2.2))) else (spec_DeskDo.j1 k true x368000 x368001 x368002 x368003 bt368.1 bt368.2.1 bt368.2.2))))
def spec_DeskDo.j1 : Nat → Bool → List Int → Int → List Int → List (S26) → List Int → Int → List Int → Option (List Int × Int × List Int × (List (S26)) × Bool)
 | 0, _, _, _, _, _, _, _, _ => none
 | k + 1, x54, x368000, x368001, x368002, x368003, x376000, x376001, x376002 => if x54 = true then (some (x368000, x368001, x368002, x368003, false)) else (if x368003.length < 2513169434916 then ((some (x368003 ++ [(⟨x368000, x368001, x368002⟩ : S26)] : List (S26))).bind fun y379 => (if (y379.length : Int) > 8 then (if 1 ≤ (y379.length : Int) then (some (x376000, x376001, x376002, (y379.drop (1 : Int).toNat), true)) else (none)) else (some (x376000, x376001, x376002, y379, true)))) else (none))
end
def spec_DeskDo.f (k : Nat) (l0_0 : List Int) (a0_1 : Int) (l0_2 : List Int) (l0_3 : List (S26)) (a1_0 : Int) (a1_1 : Int) (a1_2 : Int) : Option (List Int × Int × List Int × (List (S26)) × Bool) := (spec_DeskOk.f k l0_0 a0_1 l0_2 l0_3).bind fun t356 => (if t356 = true then ((spec_l15Copy.f k l0_0 a0_1 l0_2 l0_3).bind fun bt357 => (if (a1_0 == 4 && (a1_1 == 0 && (a1_2 == 0))) = true then (spec_DeskDo.j0 k false (decide ((l0_3.length : Int) > 0)) l0_0 a0_1 l0_2 l0_3 a1_0 a1_1 a1_2 0 bt357.1 bt357.2.1 bt357.2.2.1 bt357.2.2.2) else (spec_DeskDo.j0 k false false l0_0 a0_1 l0_2 l0_3 a1_0 a1_1 a1_2 0 bt357.1 bt357.2.1 bt357.2.2.1 bt357.2.2.2))) else (some (([] : List Int), 0, ([] : List Int), ([] : List (S26)), false)))
theorem spec_DeskDo.mono_l : ∀ k, (∀ y0 y1 y2 y3 y4 y5 y6 y7 y8 y9 y10 y11 y12 y13, LeO (spec_DeskDo.j0 k y0 y1 y2 y3 y4 y5 y6 y7 y8 y9 y10 y11 y12 y13) (spec_DeskDo.j0 (k + 1) y0 y1 y2 y3 y4 y5 y6 y7 y8 y9 y10 y11 y12 y13)) ∧ (∀ y0 y1 y2 y3 y4 y5 y6 y7, LeO (spec_DeskDo.j1 k y0 y1 y2 y3 y4 y5 y6 y7) (spec_DeskDo.j1 (k + 1) y0 y1 y2 y3 y4 y5 y6 y7))
 | 0 => ⟨fun _ _ _ _ _ _ _ _ _ _ _ _ _ _ r h => by simp [spec_DeskDo.j0] at h, fun _ _ _ _ _ _ _ _ r h => by simp [spec_DeskDo.j1] at h⟩
 | k + 1 => by
  obtain ⟨ih0, ih1⟩ := spec_DeskDo.mono_l k
  refine ⟨?_, ?_⟩
  ·intro y0 y1 y2 y3 y4 y5 y6 y7 y8 y9 y10 y11 y12 y13
   unfold spec_DeskDo.j0
   repeat' first | (with_reducible first | exact ih0 _ _ _ _ _ _ _ _ _ _ _ _ _ _ | exact ih1 _ _ _ _ _ _ _ _ | exact spec_DeskOk.mono _ _ _ _ _ | exact spec_PlaceOk.mono _ _ _ _ | exact spec_PlaceText.mono _ _ _ _ | exact spec_l15Copy.mono _ _ _ _ _ | exact spec_l15Made.mono _ _ _ _ _ _ _ | exact LeO.refl _ | exact LeO.none _ | refine LeO.ite ?_ ?_ | refine LeO.bind ?_ (fun _ => ?_)) | exact LeO.none _ | refine LeO.ite ?_ ?_ | refine LeO.bind ?_ (fun _ => ?_)
  ·intro y0 y1 y2 y3 y4 y5 y6 y7
   unfold spec_DeskDo.j1
   repeat' first | (with_reducible first | exact ih0 _ _ _ _ _ _ _ _ _ _ _ _ _ _ | exact ih1 _ _ _ _ _ _ _ _ | exact spec_DeskOk.mono _ _ _ _ _ | exact spec_PlaceOk.mono _ _ _ _ | exact spec_PlaceText.mono _ _ _ _ | exact spec_l15Copy.mono _ _ _ _ _ | exact spec_l15Made.mono _ _ _ _ _ _ _ | exact LeO.refl _ | exact LeO.none _ | refine LeO.ite ?_ ?_ | refine LeO.bind ?_ (fun _ => ?_)) | exact LeO.none _ | refine LeO.ite ?_ ?_ | refine LeO.bind ?_ (fun _ => ?_)
theorem spec_DeskDo.mono : ∀ a0 a1 a2 a3 a4 a5 a6 k, LeO (spec_DeskDo.f k a0 a1 a2 a3 a4 a5 a6) (spec_DeskDo.f (k + 1) a0 a1 a2 a3 a4 a5 a6) := by
 intro a0 a1 a2 a3 a4 a5 a6 k
 obtain ⟨ih0, ih1⟩ := spec_DeskDo.mono_l k
 unfold spec_DeskDo.f
 repeat' first
   | (with_reducible exact ih0 _ _ _ _ _ _ _ _ _ _ _ _ _ _)
   | (with_reducible exact ih1 _ _ _ _ _ _ _ _)
   | (with_reducible exact spec_DeskOk.mono _ _ _ _ _)
   | (with_reducible exact spec_PlaceOk.mono _ _ _ _)
   | (with_reducible exact spec_PlaceText.mono _ _ _ _)
   | (with_reducible exact spec_l15Copy.mono _ _ _ _ _)
   | (with_reducible exact spec_l15Made.mono _ _ _ _ _ _ _)
   | (with_reducible exact LeO.refl _)
   | (with_reducible exact LeO.none _)
   | (with_reducible refine LeO.ite ?_ ?_)
   | (with_reducible refine LeO.bind ?_ (fun _ => ?_))
   | exact ih0 _ _ _ _ _ _ _ _ _ _ _ _ _ _
   | exact ih1 _ _ _ _ _ _ _ _
   | exact spec_DeskOk.mono _ _ _ _ _
   | exact spec_PlaceOk.mono _ _ _ _
   | exact spec_PlaceText.mono _ _ _ _
   | exact spec_l15Copy.mono _ _ _ _ _
   | exact spec_l15Made.mono _ _ _ _ _ _ _
   | exact LeO.none _
   | refine LeO.ite ?_ ?_
   | refine LeO.bind ?_ (fun _ => ?_)
def spec_DeskDo.T10 : Bool × List (List Nat × List Nat) := (true, [([], []), ([0], [0]), ([1], [1]), ([2, 1], [2]), ([3], [3]), ([4, 3, 3], [3, 4]), ([3], [3]), ([6, 3], [3, 6]), ([7, 5, 3], [3, 7]), ([5, 8, 3], [3, 5, 8]), ([3, 9], [3, 9])])
def spec_DeskDo.B10 : List Nat := [0, 1, 3, 7, 15, 31, 15, 79, 255, 511, 1023]
theorem spec_DeskDo.tab10 : rtab .any (opsOf Try.f67 10) = spec_DeskDo.T10 := by kernel_rfl
theorem spec_DeskDo.bits10 : waitsOk spec_DeskDo.T10.2 spec_DeskDo.B10 = true := by kernel_rfl
set_option maxHeartbeats 8000000 in
set_option maxRecDepth 100000 in
theorem spec_DeskDo.calls (k : Nat) (A0_0 : Option Addr) (c0_0 : Nat) (l0_0 : List Int) (a0_1 : Int) (A0_2 : Option Addr) (c0_2 : Nat) (l0_2 : List Int) (A0_3 : Option Addr) (c0_3 : Nat) (l0_3 : List (S26)) (a1_0 : Int) (a1_1 : Int) (a1_2 : Int) (r1 : List Int) (r2 : Int) (r3 : List Int) (r4 : List (S26)) (r5 : Bool) (w : World) (hr0_0 : Kd.C (Kd.int .i64) w A0_0 l0_0.length l0_0) (hc0_0 : l0_0.length ≤ c0_0) (hr0_2 : Kd.C (Kd.int .i64) w A0_2 l0_2.length l0_2) (hc0_2 : l0_2.length ≤ c0_2) (hr0_3 : Kd.C k26 w A0_3 l0_3.length l0_3) (hc0_3 : l0_3.length ≤ c0_3) (h : spec_DeskDo.f k l0_0 a0_1 l0_2 l0_3 a1_0 a1_1 a1_2 = some (r1, r2, r3, r4, r5)) :
  Calls Try.prog 67 #[.agg #[.slice A0_0 l0_0.length c0_0, .int .i64 a0_1, .slice A0_2 l0_2.length c0_2, .slice A0_3 l0_3.length c0_3], .agg #[.int .i64 a1_0, .int .i64 a1_1, .int .i64 a1_2]] w fun e w' => ∃ v0_ v2_ v3_ : Value, e = .returned (.tuple #[.agg #[v0_, .int .i64 r2, v2_, v3_], .bool r5]) ∧ Kd.R (Kd.int .i64) 3 w' w.heap.size (fun k_ => some k_ ≠ (v2_ : Value).ownBlock) v0_ r1 ∧ Kd.R (Kd.int .i64) 3 w' w.heap.size (fun k_ => some k_ ≠ (v0_ : Value).ownBlock) v2_ r3 ∧ Kd.Q k26 26 w' w.heap.size (fun k_ => some k_ ≠ (v0_ : Value).ownBlock ∧ some k_ ≠ (v2_ : Value).ownBlock) v3_ r4 ∧ Below w.heap.size w w' := by
 have hu29 := Try.underlying29
 have hu81 := Try.underlying81
 have hu26 := Try.underlying26
 have HR0_0 := Aside0.mk hr0_0
 have HC0_0 := Aside0.mk hc0_0
 clear hr0_0 hc0_0
 have HR0_2 := Aside0.mk hr0_2
 have HC0_2 := Aside0.mk hc0_2
 clear hr0_2 hc0_2
 have HR0_3 := Aside0.mk hr0_3
 have HC0_3 := Aside0.mk hc0_3
 clear hr0_3 hc0_3
 have HB := Aside0.mk (Below.refl w.heap.size w)
 have H : ((spec_DeskOk.f k l0_0 a0_1 l0_2 l0_3).bind fun t356 => (if t356 = true then ((spec_l15Copy.f k l0_0 a0_1 l0_2 l0_3).bind fun bt357 => (if (a1_0 == 4 && (a1_1 == 0 && (a1_2 == 0))) = true then (spec_DeskDo.j0 k false (decide ((l0_3.length : Int) > 0)) l0_0 a0_1 l0_2 l0_3 a1_0 a1_1 a1_2 0 bt357.1 bt357.2.1 bt357.2.2.1 bt357.2.2.2) else (spec_DeskDo.j0 k false false l0_0 a0_1 l0_2 l0_3 a1_0 a1_1 a1_2 0 bt357.1 bt357.2.1 bt357.2.2.1 bt357.2.2.2))) else (some (([] : List Int), 0, ([] : List Int), ([] : List (S26)), false)))) = some (r1, r2, r3, r4, r5) := h
 clear h
 replace H := Option.bind_eq_some_iff.mp H
 obtain ⟨t356, A30, H⟩ := H
 replace H : (if t356 = true then ((spec_l15Copy.f k l0_0 a0_1 l0_2 l0_3).bind fun bt357 => (if (a1_0 == 4 && (a1_1 == 0 && (a1_2 == 0))) = true then (spec_DeskDo.j0 k false (decide ((l0_3.length : Int) > 0)) l0_0 a0_1 l0_2 l0_3 a1_0 a1_1 a1_2 0 bt357.1 bt357.2.1 bt357.2.2.1 bt357.2.2.2) else (spec_DeskDo.j0 k false false l0_0 a0_1 l0_2 l0_3 a1_0 a1_1 a1_2 0 bt357.1 bt357.2.1 bt357.2.2.1 bt357.2.2.2))) else (some (([] : List Int), 0, ([] : List Int), ([] : List (S26)), false))) = some (r1, r2, r3, r4, r5) := H
 have A3 := Aside0.mk A30
 clear A30
 by_cases c4 : t356 = true
 ·subst c4
  have H1 : ((spec_l15Copy.f k l0_0 a0_1 l0_2 l0_3).bind fun bt357 => (if (a1_0 == 4 && (a1_1 == 0 && (a1_2 == 0))) = true then (spec_DeskDo.j0 k false (decide ((l0_3.length : Int) > 0)) l0_0 a0_1 l0_2 l0_3 a1_0 a1_1 a1_2 0 bt357.1 bt357.2.1 bt357.2.2.1 bt357.2.2.2) else (spec_DeskDo.j0 k false false l0_0 a0_1 l0_2 l0_3 a1_0 a1_1 a1_2 0 bt357.1 bt357.2.1 bt357.2.2.1 bt357.2.2.2))) = some (r1, r2, r3, r4, r5) := by rw [if_pos rfl] at H; exact H
  clear H
  have H := H1
  clear H1
  replace H := Option.bind_eq_some_iff.mp H
  obtain ⟨⟨t357, t360, t361, t364⟩, A50, H⟩ := H
  replace H : (if (a1_0 == 4 && (a1_1 == 0 && (a1_2 == 0))) = true then (spec_DeskDo.j0 k false (decide ((l0_3.length : Int) > 0)) l0_0 a0_1 l0_2 l0_3 a1_0 a1_1 a1_2 0 t357 t360 t361 t364) else (spec_DeskDo.j0 k false false l0_0 a0_1 l0_2 l0_3 a1_0 a1_1 a1_2 0 t357 t360 t361 t364)) = some (r1, r2, r3, r4, r5) := H
  have A5 := Aside0.mk A50
  clear A50
  have HC6 := Aside0.mk H
  clear H
  go_enter Try.func67, Try.ntmps67
  go_upto_region 4 with (first | ((with_reducible refine gate_dst (N := 2) rfl ?_); (try (refine gate_guard (by rfl) ?_; dsimp only)); refine box_event ?hg (N := 2) ?hd (cs := #[.slice A0_0 l0_0.length c0_0, .int .i64 a0_1, .slice A0_2 l0_2.length c0_2, .slice A0_3 l0_3.length c0_3]) (t := 29) ?hr ?_; (case hd => rfl); (case hg => rfl); (case hr => first | (go_simp; done) | (go_simp; rfl)); intro gb353 hg w7 hbox hb; have n0_ := Aside0.mk (below_step (hbq HB.out) hb); have n1_ := Aside0.mk (hbox); have n2_ := Aside0.mk ((by rw [hg]; exact (below_size (hbq HB.out)) : w.heap.size ≤ gb353)); have n3_ := Aside0.mk ((by rw [hg]; exact (below_size (hbq HB.out)) : w.heap.size ≤ gb353)); clear HB; revert n0_ n1_ n2_ n3_; intro HB BK353 GW353 GE353; clear hb hbox hg) | ((with_reducible refine gate_dst (N := 3) rfl ?_); (try (refine gate_guard (by rfl) ?_; dsimp only)); refine box_event ?hg (N := 3) ?hd (cs := #[.int .i64 a1_0, .int .i64 a1_1, .int .i64 a1_2]) (t := 81) ?hr ?_; (case hd => rfl); (case hg => rfl); (case hr => first | (go_simp; done) | (go_simp; rfl)); intro gb354 hg w8 hbox hb; have n0_ := Aside0.mk (blk_below (bkq BK353.out) hb); have n1_ := Aside0.mk (below_step (hbqa HB.out) hb); have n2_ := Aside0.mk (hbox); have n3_ := Aside0.mk ((by rw [hg]; exact (below_size (hbqa HB.out)) : w.heap.size ≤ gb354)); have n4_ := Aside0.mk ((by rw [hg]; exact (below_size (hbqa HB.out)) : w.heap.size ≤ gb354)); have n5_ := Aside0.mk ((by rw [hg]; exact Nat.ne_of_lt (blk_lt (bkq BK353.out)) : gb353 ≠ gb354)); have n6_ := Aside0.mk ((by rw [hg]; exact Nat.ne_of_gt (blk_lt (bkq BK353.out)) : gb354 ≠ gb353)); clear BK353 HB; revert n0_ n1_ n2_ n3_ n4_ n5_ n6_; intro BK353 HB BK354 GW354 GE354 NB353_354 NB354_353; clear hb hbox hg) | ((with_reducible refine gate_dst (N := 4) rfl ?_); (try (refine gate_guard (by rfl) ?_; dsimp only)); refine box_event ?hg (N := 4) ?hd (cs := #[.slice none 0 0, .int .i64 0, .slice none 0 0, .slice none 0 0]) (t := 29) ?hr ?_; (case hd => rfl); (case hg => rfl); (case hr => first | (go_simp; done) | (go_simp; rfl)); intro gb355 hg w9 hbox hb; have n0_ := Aside0.mk (blk_below (bkq BK353.out) hb); have n1_ := Aside0.mk (blk_below (bkq BK354.out) hb); have n2_ := Aside0.mk (below_step (hbqa HB.out) hb); have n3_ := Aside0.mk (hbox); have n4_ := Aside0.mk ((by rw [hg]; exact (below_size (hbqa HB.out)) : w.heap.size ≤ gb355)); have n5_ := Aside0.mk ((by rw [hg]; exact (below_size (hbqa HB.out)) : w.heap.size ≤ gb355)); have n6_ := Aside0.mk ((by rw [hg]; exact Nat.ne_of_lt (blk_lt (bkq BK353.out)) : gb353 ≠ gb355)); have n7_ := Aside0.mk ((by rw [hg]; exact Nat.ne_of_gt (blk_lt (bkq BK353.out)) : gb355 ≠ gb353)); have n8_ := Aside0.mk ((by rw [hg]; exact Nat.ne_of_lt (blk_lt (bkq BK354.out)) : gb354 ≠ gb355)); have n9_ := Aside0.mk ((by rw [hg]; exact Nat.ne_of_gt (blk_lt (bkq BK354.out)) : gb355 ≠ gb354)); clear BK353 BK354 HB; revert n0_ n1_ n2_ n3_ n4_ n5_ n6_ n7_ n8_ n9_; intro BK353 BK354 HB BK355 GW355 GE355 NB353_355 NB355_353 NB354_355 NB355_354; clear hb hbox hg; have hnb10 := NB353_354.out; have hnc10 := NB354_353.out; have hnb11 := NB353_355.out; have hnc11 := NB355_353.out; have hcz12_0 : w9.cell? ⟨gb353, 0, none⟩ = some (.slice A0_0 l0_0.length c0_0) := (blk_cell BK353.out 0).trans rfl; have hcz12_1 : w9.cell? ⟨gb353, 1, none⟩ = some (.int .i64 a0_1) := (blk_cell BK353.out 1).trans rfl; have hcz12_2 : w9.cell? ⟨gb353, 2, none⟩ = some (.slice A0_2 l0_2.length c0_2) := (blk_cell BK353.out 2).trans rfl; have hcz12_3 : w9.cell? ⟨gb353, 3, none⟩ = some (.slice A0_3 l0_3.length c0_3) := (blk_cell BK353.out 3).trans rfl; have hfz12_0 := blk_frozen BK353.out 0; have hfz12_1 := blk_frozen BK353.out 1; have hfz12_2 := blk_frozen BK353.out 2; have hfz12_3 := blk_frozen BK353.out 3) | ((with_reducible refine gate_callee (f := 31) rfl ?_); refine goesL_ (some 10) rfl rfl Try.func31 (by kernel_rfl) rfl #[.agg #[.slice A0_0 l0_0.length c0_0, .int .i64 a0_1, .slice A0_2 l0_2.length c0_2, .slice A0_3 l0_3.length c0_3]] rfl mpq ?_; (with_reducible refine (spec_DeskOk.calls k _ _ l0_0 a0_1 _ _ l0_2 _ _ l0_3 true _ ?side1 ?side2 ?side3 ?side4 ?side5 ?side6 A3.out).mono ?_); (case side1 => exact coq (Kd.C_below HR0_0.out HB.out)); (case side2 => exact HC0_0.out); (case side3 => exact coq (Kd.C_below HR0_2.out HB.out)); (case side4 => exact HC0_2.out); (case side5 => exact coq (Kd.C_below HR0_3.out HB.out)); (case side6 => exact HC0_3.out); rintro e w13 ⟨rfl, hb⟩; refine ⟨_, rfl, ?_⟩; have n0_ := Aside0.mk (blk_below (bkq BK353.out) hb); have n1_ := Aside0.mk (blk_below (bkq BK354.out) hb); have n2_ := Aside0.mk (blk_below (bkq BK355.out) hb); have n3_ := Aside0.mk (below_step (hbqa HB.out) hb); clear BK353 BK354 BK355 HB; revert n0_ n1_ n2_ n3_; intro BK353 BK354 BK355 HB; (try clear hb); (try clear hb2); (try clear hk); (try clear hi); have hcz14_0 : w13.cell? ⟨gb353, 0, none⟩ = some (.slice A0_0 l0_0.length c0_0) := (blk_cell BK353.out 0).trans rfl; have hcz14_1 : w13.cell? ⟨gb353, 1, none⟩ = some (.int .i64 a0_1) := (blk_cell BK353.out 1).trans rfl; have hcz14_2 : w13.cell? ⟨gb353, 2, none⟩ = some (.slice A0_2 l0_2.length c0_2) := (blk_cell BK353.out 2).trans rfl; have hcz14_3 : w13.cell? ⟨gb353, 3, none⟩ = some (.slice A0_3 l0_3.length c0_3) := (blk_cell BK353.out 3).trans rfl; have hfz14_0 := blk_frozen BK353.out 0; have hfz14_1 := blk_frozen BK353.out 1; have hfz14_2 := blk_frozen BK353.out 2; have hfz14_3 := blk_frozen BK353.out 3) | ((with_reducible refine gate_callee (f := 73) rfl ?_); refine goesL_ (some 14) rfl rfl Try.func73 (by kernel_rfl) rfl #[.agg #[.slice A0_0 l0_0.length c0_0, .int .i64 a0_1, .slice A0_2 l0_2.length c0_2, .slice A0_3 l0_3.length c0_3]] rfl mpq ?_; (with_reducible refine (spec_l15Copy.calls_s k _ _ l0_0 a0_1 _ _ l0_2 _ _ l0_3 t357 t360 t361 t364 _ ?side1 ?side2 ?side3 ?side4 ?side5 ?side6 A5.out).mono ?_); (case side1 => exact coq (Kd.C_below HR0_0.out HB.out)); (case side2 => exact HC0_0.out); (case side3 => exact coq (Kd.C_below HR0_2.out HB.out)); (case side4 => exact HC0_2.out); (case side5 => exact coq (Kd.C_below HR0_3.out HB.out)); (case side6 => exact HC0_3.out); rintro e w15 ⟨v358, v362, v365, rfl, ho0, ho1, ho2, hb⟩; refine ⟨_, rfl, ?_⟩; have n0_ := Aside0.mk (Kd.R_lower ho0 (below_size (hbqa HB.out))); have n1_ := Aside0.mk (Kd.R_lower ho1 (below_size (hbqa HB.out))); have n2_ := Aside0.mk (Kd.S_lower ho2 (below_size (hbqa HB.out))); have n3_ := Aside0.mk (blk_below (bkq BK353.out) hb); have n4_ := Aside0.mk (blk_below (bkq BK354.out) hb); have n5_ := Aside0.mk (blk_below (bkq BK355.out) hb); have n6_ := Aside0.mk (below_step (hbqa HB.out) hb); clear BK353 BK354 BK355 HB; revert n0_ n1_ n2_ n3_ n4_ n5_ n6_; intro HO359 HO363 HO366 BK353 BK354 BK355 HB; (try clear hb); (try clear hb2); (try clear hk); (try clear hi); (try clear ho0); (try clear ho1); (try clear ho2)) | ((with_reducible refine gate_dst (N := 6) rfl ?_); (try (refine gate_guard (by rfl) ?_; dsimp only)); refine box_event ?hg (N := 6) ?hd (cs := #[.slice none 0 0, .int .i64 0, .slice none 0 0, .slice none 0 0]) (t := 29) ?hr ?_; (case hd => rfl); (case hg => rfl); (case hr => first | (go_simp; done) | (go_simp; rfl)); intro gb367 hg w16 hbox hb; have n0_ := Aside0.mk (Kd.R_below (roq HO359.out) hb); have n1_ := Aside0.mk (Kd.R_below (roq HO363.out) hb); have n2_ := Aside0.mk (Kd.S_below (soq HO366.out) hb); have n3_ := Aside0.mk (blk_below (bkq BK353.out) hb); have n4_ := Aside0.mk (blk_below (bkq BK354.out) hb); have n5_ := Aside0.mk (blk_below (bkq BK355.out) hb); have n6_ := Aside0.mk (below_step (hbqa HB.out) hb); have n7_ := Aside0.mk (hbox); have n8_ := Aside0.mk ((by rw [hg]; exact (below_size (hbqa HB.out)) : w.heap.size ≤ gb367)); have n9_ := Aside0.mk ((by rw [hg]; exact (below_size (hbqa HB.out)) : w.heap.size ≤ gb367)); have n10_ := Aside0.mk ((by rw [hg]; exact Nat.ne_of_lt (blk_lt (bkq BK353.out)) : gb353 ≠ gb367)); have n11_ := Aside0.mk ((by rw [hg]; exact Nat.ne_of_gt (blk_lt (bkq BK353.out)) : gb367 ≠ gb353)); have n12_ := Aside0.mk ((by rw [hg]; exact Nat.ne_of_lt (blk_lt (bkq BK354.out)) : gb354 ≠ gb367)); have n13_ := Aside0.mk ((by rw [hg]; exact Nat.ne_of_gt (blk_lt (bkq BK354.out)) : gb367 ≠ gb354)); have n14_ := Aside0.mk ((by rw [hg]; exact Nat.ne_of_lt (blk_lt (bkq BK355.out)) : gb355 ≠ gb367)); have n15_ := Aside0.mk ((by rw [hg]; exact Nat.ne_of_gt (blk_lt (bkq BK355.out)) : gb367 ≠ gb355)); clear HO359 HO363 HO366 BK353 BK354 BK355 HB; revert n0_ n1_ n2_ n3_ n4_ n5_ n6_ n7_ n8_ n9_ n10_ n11_ n12_ n13_ n14_ n15_; intro HO359 HO363 HO366 BK353 BK354 BK355 HB BK367 GW367 GE367 NB353_367 NB367_353 NB354_367 NB367_354 NB355_367 NB367_355; clear hb hbox hg; obtain ⟨Ao17, co17, eo17⟩ := Kd.R_slice HO359.out; subst eo17; have hnb18 := NB367_353.out; have hnc18 := NB353_367.out; have hnb19 := NB367_354.out; have hnc19 := NB354_367.out; have hnb20 := NB367_355.out; have hnc20 := NB355_367.out; have hcz21_0 : w16.cell? ⟨gb367, 0, none⟩ = some (.slice none 0 0) := (blk_cell BK367.out 0).trans rfl; have hcz21_1 : w16.cell? ⟨gb367, 1, none⟩ = some (.int .i64 0) := (blk_cell BK367.out 1).trans rfl; have hcz21_2 : w16.cell? ⟨gb367, 2, none⟩ = some (.slice none 0 0) := (blk_cell BK367.out 2).trans rfl; have hcz21_3 : w16.cell? ⟨gb367, 3, none⟩ = some (.slice none 0 0) := (blk_cell BK367.out 3).trans rfl; have hfz21_0 := blk_frozen BK367.out 0; have hfz21_1 := blk_frozen BK367.out 1; have hfz21_2 := blk_frozen BK367.out 2; have hfz21_3 := blk_frozen BK367.out 3; obtain ⟨Ao22, co22, eo22⟩ := Kd.R_slice HO363.out; subst eo22; obtain ⟨Ao23, co23, eo23⟩ := Kd.S_slice HO366.out; subst eo23))
  (try simp only [Act.put, List.setIfInBounds_toArray, List.set_cons_zero, List.set_cons_succ])
  go_cut [23] (fun v23 wc => ∃ (kq : Nat) (x23_5 : Bool), v23 = .bool x23_5 ∧ Aside0 (spec_DeskDo.j0 kq false x23_5 l0_0 a0_1 l0_2 l0_3 a1_0 a1_1 a1_2 0 t357 t360 t361 t364 = some (r1, r2, r3, r4, r5)) ∧ Aside0 (kq ≤ k) ∧ Aside0 (Kd.R (Kd.int .i64) 3 wc w.heap.size (fun k_ => some k_ ≠ ((.slice Ao22 t361.length co22) : Value).ownBlock) (.slice Ao17 t357.length co17) t357) ∧ Aside0 (Kd.R (Kd.int .i64) 3 wc w.heap.size (fun k_ => some k_ ≠ ((.slice Ao17 t357.length co17) : Value).ownBlock) (.slice Ao22 t361.length co22) t361) ∧ Aside0 (Kd.S k26s 26 wc w.heap.size (fun k_ => some k_ ≠ ((.slice Ao17 t357.length co17) : Value).ownBlock ∧ some k_ ≠ ((.slice Ao22 t361.length co22) : Value).ownBlock) (.slice Ao23 t364.length co23) t364) ∧ Aside0 (wc.heap[gb353]? = some (.cells #[(.slice A0_0 l0_0.length c0_0), .int .i64 a0_1, (.slice A0_2 l0_2.length c0_2), (.slice A0_3 l0_3.length c0_3)] 29 (0, 0))) ∧ Aside0 (wc.heap[gb354]? = some (.cells #[.int .i64 a1_0, .int .i64 a1_1, .int .i64 a1_2] 81 (0, 0))) ∧ Aside0 (wc.heap[gb355]? = some (.cells #[(.slice none 0 0), .int .i64 0, (.slice none 0 0), (.slice none 0 0)] 29 (0, 0))) ∧ Aside0 (wc.heap[gb367]? = some (.cells #[(.slice Ao17 t357.length co17), .int .i64 t360, (.slice Ao22 t361.length co22), (.slice Ao23 t364.length co23)] 29 (0, 0))) ∧ Aside0 (Below w.heap.size w wc))
  case first =>
   have H := HC6.out
   clear HC6
   by_cases c24 : (a1_0 == 4 && (a1_1 == 0 && (a1_2 == 0))) = true
   ·rw [if_pos c24] at H
    have c24b0 : (a1_0 == 4 && (a1_1 == 0 && (a1_2 == 0))) = true := c24
    (try (have c24b1 : decide (a1_0 = 4 && (a1_1 == 0 && (a1_2 == 0))) = true := by simpa using c24))
    (try (have c24b2 : (a1_0 == 4 && (a1_1 == 0 && (a1_2 == 0))) = true := by simpa using c24))
    clear c24
    (first | rw [c24b0] | (simp only [i64_w, i32_w]; rw [c24b0]) | skip)
    have H' := Aside0.mk H
    clear H
    have hnb25 := NB354_353.out
    have hnc25 := NB353_354.out
    have hnb26 := NB354_355.out
    have hnc26 := NB355_354.out
    have hnb27 := NB354_367.out
    have hnc27 := NB367_354.out
    have hcz28_0 : w16.cell? ⟨gb354, 0, none⟩ = some (.int .i64 a1_0) := (blk_cell BK354.out 0).trans rfl
    have hcz28_1 : w16.cell? ⟨gb354, 1, none⟩ = some (.int .i64 a1_1) := (blk_cell BK354.out 1).trans rfl
    have hcz28_2 : w16.cell? ⟨gb354, 2, none⟩ = some (.int .i64 a1_2) := (blk_cell BK354.out 2).trans rfl
    have hfz28_0 := blk_frozen BK354.out 0
    have hfz28_1 := blk_frozen BK354.out 1
    have hfz28_2 := blk_frozen BK354.out 2
    have hnb29 := NB353_355.out
    have hnc29 := NB355_353.out
    have hnb30 := NB353_367.out
    have hnc30 := NB367_353.out
    have hcz31_0 : w16.cell? ⟨gb353, 0, none⟩ = some (.slice A0_0 l0_0.length c0_0) := (blk_cell BK353.out 0).trans rfl
    have hcz31_1 : w16.cell? ⟨gb353, 1, none⟩ = some (.int .i64 a0_1) := (blk_cell BK353.out 1).trans rfl
    have hcz31_2 : w16.cell? ⟨gb353, 2, none⟩ = some (.slice A0_2 l0_2.length c0_2) := (blk_cell BK353.out 2).trans rfl
    have hcz31_3 : w16.cell? ⟨gb353, 3, none⟩ = some (.slice A0_3 l0_3.length c0_3) := (blk_cell BK353.out 3).trans rfl
    have hfz31_0 := blk_frozen BK353.out 0
    have hfz31_1 := blk_frozen BK353.out 1
    have hfz31_2 := blk_frozen BK353.out 2
    have hfz31_3 := blk_frozen BK353.out 3
    go_wp2
    go_meet
    case rel => exact ⟨_, (decide ((l0_3.length : Int) > 0)), rfq, H', ⟨by first | omega | exact Nat.le_refl _⟩, ⟨by refine roq ?_; exact Kd.R_mono (Kd.R_far (p := ⟨gb367, 3, none⟩) (Kd.R_far (p := ⟨gb367, 2, none⟩) (Kd.R_far (p := ⟨gb367, 1, none⟩) (Kd.R_far (p := ⟨gb367, 0, none⟩) (Kd.R_types HO359.out BK367.out (by decide)) (fun _ hk => hk.2) (.slice Ao17 t357.length co17)) (fun _ hk => hk.2) (.int .i64 t360)) (fun _ hk => hk.2) (.slice Ao22 t361.length co22)) (fun _ hk => hk.2) (.slice Ao23 t364.length co23)) (fun _ hk => hk.1)⟩, ⟨by refine roq ?_; exact Kd.R_mono (Kd.R_far (p := ⟨gb367, 3, none⟩) (Kd.R_far (p := ⟨gb367, 2, none⟩) (Kd.R_far (p := ⟨gb367, 1, none⟩) (Kd.R_far (p := ⟨gb367, 0, none⟩) (Kd.R_types HO363.out BK367.out (by decide)) (fun _ hk => hk.2) (.slice Ao17 t357.length co17)) (fun _ hk => hk.2) (.int .i64 t360)) (fun _ hk => hk.2) (.slice Ao22 t361.length co22)) (fun _ hk => hk.2) (.slice Ao23 t364.length co23)) (fun _ hk => hk.1)⟩, ⟨by refine soq ?_; exact Kd.S_mono (Kd.S_far (p := ⟨gb367, 3, none⟩) (Kd.S_far (p := ⟨gb367, 2, none⟩) (Kd.S_far (p := ⟨gb367, 1, none⟩) (Kd.S_far (p := ⟨gb367, 0, none⟩) (Kd.S_types HO366.out BK367.out (by decide)) (fun _ hk => hk.2) (.slice Ao17 t357.length co17)) (fun _ hk => hk.2) (.int .i64 t360)) (fun _ hk => hk.2) (.slice Ao22 t361.length co22)) (fun _ hk => hk.2) (.slice Ao23 t364.length co23)) (fun _ hk => ⟨hk.1.1, hk.1.2⟩)⟩, ⟨by refine bkq ?_; refine blk_far ?_ NB353_367.out _; refine bkq ?_; refine blk_far ?_ NB353_367.out _; refine bkq ?_; refine blk_far ?_ NB353_367.out _; refine bkq ?_; refine blk_far ?_ NB353_367.out _; refine bkq ?_; exact BK353.out⟩, ⟨by refine bkq ?_; refine blk_far ?_ NB354_367.out _; refine bkq ?_; refine blk_far ?_ NB354_367.out _; refine bkq ?_; refine blk_far ?_ NB354_367.out _; refine bkq ?_; refine blk_far ?_ NB354_367.out _; refine bkq ?_; exact BK354.out⟩, ⟨by refine bkq ?_; refine blk_far ?_ NB355_367.out _; refine bkq ?_; refine blk_far ?_ NB355_367.out _; refine bkq ?_; refine blk_far ?_ NB355_367.out _; refine bkq ?_; refine blk_far ?_ NB355_367.out _; refine bkq ?_; exact BK355.out⟩, ⟨by refine bkq ?_; refine blk_put (cs := #[.slice Ao17 t357.length co17, .int .i64 t360, .slice Ao22 t361.length co22, .slice none 0 0]) ?_ 3 _ rfl; refine bkq ?_; refine blk_put (cs := #[.slice Ao17 t357.length co17, .int .i64 t360, .slice none 0 0, .slice none 0 0]) ?_ 2 _ rfl; refine bkq ?_; refine blk_put (cs := #[.slice Ao17 t357.length co17, .int .i64 0, .slice none 0 0, .slice none 0 0]) ?_ 1 _ rfl; refine bkq ?_; refine blk_put (cs := #[.slice none 0 0, .int .i64 0, .slice none 0 0, .slice none 0 0]) ?_ 0 _ rfl; refine bkq ?_; exact BK367.out⟩, ⟨hbqa HB.out⟩⟩
   ·rw [if_neg c24] at H
    have c24b0 : (a1_0 == 4 && (a1_1 == 0 && (a1_2 == 0))) = false := by simpa using c24
    (try (have c24b1 : decide (a1_0 = 4 && (a1_1 == 0 && (a1_2 == 0))) = false := by simpa using c24))
    (try (have c24b2 : (a1_0 == 4 && (a1_1 == 0 && (a1_2 == 0))) = false := by simpa using c24))
    (try (have c24b3 : ¬ (a1_0 = 4 && (a1_1 == 0 && (a1_2 == 0))) := by simpa using c24))
    clear c24
    (first | rw [c24b0] | (simp only [i64_w, i32_w]; rw [c24b0]) | skip)
    have H' := Aside0.mk H
    clear H
    have hnb32 := NB354_353.out
    have hnc32 := NB353_354.out
    have hnb33 := NB354_355.out
    have hnc33 := NB355_354.out
    have hnb34 := NB354_367.out
    have hnc34 := NB367_354.out
    have hcz35_0 : w16.cell? ⟨gb354, 0, none⟩ = some (.int .i64 a1_0) := (blk_cell BK354.out 0).trans rfl
    have hcz35_1 : w16.cell? ⟨gb354, 1, none⟩ = some (.int .i64 a1_1) := (blk_cell BK354.out 1).trans rfl
    have hcz35_2 : w16.cell? ⟨gb354, 2, none⟩ = some (.int .i64 a1_2) := (blk_cell BK354.out 2).trans rfl
    have hfz35_0 := blk_frozen BK354.out 0
    have hfz35_1 := blk_frozen BK354.out 1
    have hfz35_2 := blk_frozen BK354.out 2
    go_wp2
    go_meet
    case rel => exact ⟨_, (false), rfq, H', ⟨by first | omega | exact Nat.le_refl _⟩, ⟨by refine roq ?_; exact Kd.R_mono (Kd.R_far (p := ⟨gb367, 3, none⟩) (Kd.R_far (p := ⟨gb367, 2, none⟩) (Kd.R_far (p := ⟨gb367, 1, none⟩) (Kd.R_far (p := ⟨gb367, 0, none⟩) (Kd.R_types HO359.out BK367.out (by decide)) (fun _ hk => hk.2) (.slice Ao17 t357.length co17)) (fun _ hk => hk.2) (.int .i64 t360)) (fun _ hk => hk.2) (.slice Ao22 t361.length co22)) (fun _ hk => hk.2) (.slice Ao23 t364.length co23)) (fun _ hk => hk.1)⟩, ⟨by refine roq ?_; exact Kd.R_mono (Kd.R_far (p := ⟨gb367, 3, none⟩) (Kd.R_far (p := ⟨gb367, 2, none⟩) (Kd.R_far (p := ⟨gb367, 1, none⟩) (Kd.R_far (p := ⟨gb367, 0, none⟩) (Kd.R_types HO363.out BK367.out (by decide)) (fun _ hk => hk.2) (.slice Ao17 t357.length co17)) (fun _ hk => hk.2) (.int .i64 t360)) (fun _ hk => hk.2) (.slice Ao22 t361.length co22)) (fun _ hk => hk.2) (.slice Ao23 t364.length co23)) (fun _ hk => hk.1)⟩, ⟨by refine soq ?_; exact Kd.S_mono (Kd.S_far (p := ⟨gb367, 3, none⟩) (Kd.S_far (p := ⟨gb367, 2, none⟩) (Kd.S_far (p := ⟨gb367, 1, none⟩) (Kd.S_far (p := ⟨gb367, 0, none⟩) (Kd.S_types HO366.out BK367.out (by decide)) (fun _ hk => hk.2) (.slice Ao17 t357.length co17)) (fun _ hk => hk.2) (.int .i64 t360)) (fun _ hk => hk.2) (.slice Ao22 t361.length co22)) (fun _ hk => hk.2) (.slice Ao23 t364.length co23)) (fun _ hk => ⟨hk.1.1, hk.1.2⟩)⟩, ⟨by refine bkq ?_; refine blk_far ?_ NB353_367.out _; refine bkq ?_; refine blk_far ?_ NB353_367.out _; refine bkq ?_; refine blk_far ?_ NB353_367.out _; refine bkq ?_; refine blk_far ?_ NB353_367.out _; refine bkq ?_; exact BK353.out⟩, ⟨by refine bkq ?_; refine blk_far ?_ NB354_367.out _; refine bkq ?_; refine blk_far ?_ NB354_367.out _; refine bkq ?_; refine blk_far ?_ NB354_367.out _; refine bkq ?_; refine blk_far ?_ NB354_367.out _; refine bkq ?_; exact BK354.out⟩, ⟨by refine bkq ?_; refine blk_far ?_ NB355_367.out _; refine bkq ?_; refine blk_far ?_ NB355_367.out _; refine bkq ?_; refine blk_far ?_ NB355_367.out _; refine bkq ?_; refine blk_far ?_ NB355_367.out _; refine bkq ?_; exact BK355.out⟩, ⟨by refine bkq ?_; refine blk_put (cs := #[.slice Ao17 t357.length co17, .int .i64 t360, .slice Ao22 t361.length co22, .slice none 0 0]) ?_ 3 _ rfl; refine bkq ?_; refine blk_put (cs := #[.slice Ao17 t357.length co17, .int .i64 t360, .slice none 0 0, .slice none 0 0]) ?_ 2 _ rfl; refine bkq ?_; refine blk_put (cs := #[.slice Ao17 t357.length co17, .int .i64 0, .slice none 0 0, .slice none 0 0]) ?_ 1 _ rfl; refine bkq ?_; refine blk_put (cs := #[.slice none 0 0, .int .i64 0, .slice none 0 0, .slice none 0 0]) ?_ 0 _ rfl; refine bkq ?_; exact BK367.out⟩, ⟨hbqa HB.out⟩⟩
  case rest =>
   clear HC6
   try clear c1
   try clear c2
   try clear p2
   try clear c3
   try clear c4
   try clear c6
   try clear c7
   try clear c10
   try clear c11
   try clear c18
   try clear c19
   try clear c20
   try clear c24
   try clear c24b0
   try clear c24b1
   try clear c24b2
   try clear c25
   try clear c26
   try clear c27
   try clear c29
   try clear c30
   try clear c31
   try clear c32
   try clear c33
   try clear c34
   try clear hcz12_0
   try clear hcz12_1
   try clear hcz12_2
   try clear hcz12_3
   try clear hcz14_0
   try clear hcz14_1
   try clear hcz14_2
   try clear hcz14_3
   try clear hcz21_0
   try clear hcz21_1
   try clear hcz21_2
   try clear hcz21_3
   try clear hcz28_0
   try clear hcz28_1
   try clear hcz28_2
   try clear hcz31_0
   try clear hcz31_1
   try clear hcz31_2
   try clear hcz31_3
   try clear hcz35_0
   try clear hcz35_1
   try clear hcz35_2
   try clear hfz12_0
   try clear hfz12_1
   try clear hfz12_2
   try clear hfz12_3
   try clear hfz14_0
   try clear hfz14_1
   try clear hfz14_2
   try clear hfz14_3
   try clear hfz21_0
   try clear hfz21_1
   try clear hfz21_2
   try clear hfz21_3
   try clear hfz28_0
   try clear hfz28_1
   try clear hfz28_2
   try clear hfz31_0
   try clear hfz31_1
   try clear hfz31_2
   try clear hfz31_3
   try clear hfz35_0
   try clear hfz35_1
   try clear hfz35_2
   obtain ⟨kq, x23_5, rfl, HA, HJ5, HO_368000, HO_368002, HO_368003, BK353, BK354, BK355, BK367, HB⟩ := hcut
   have HSB := HO_368003
   replace HO_368003 := Aside0.mk (Kd.Q_of_R (Kd.S_R (k26s_S HO_368003.out)))
   cases kq with
   | zero => exact absurd HA.out (by simp [spec_DeskDo.j0])
   | succ kj5 =>
    have H := HA.out
    clear HA
    simp only [spec_DeskDo.j0] at H
    by_cases c36 : x23_5 = true
    ·subst c36
     have H1 : (if 0 < (t364.length : Int) then (some ((rd_T26 t364 (wrap64 ((t364.length : Int) - 1))).f0, (rd_T26 t364 (wrap64 ((t364.length : Int) - 1))).f1, (rd_T26 t364 (wrap64 ((t364.length : Int) - 1))).f2, t364.take (wrap64 ((t364.length : Int) - 1)).toNat, true)) else (none)) = some (r1, r2, r3, r4, r5) := by rw [if_pos rfl] at H; exact H
     clear H
     by_cases cP : 0 < (t364.length : Int)
     ·rw [if_pos cP] at H1
      have hmax := (Kd.S_reads' HSB.out).2.2.2.1
      obtain ⟨ji, hji⟩ : ∃ j_ : Int, (wrap64 ((t364.length : Int) - 1)) = j_ := ⟨_, rfl⟩
      have hjr : 0 ≤ ji ∧ ji < (t364.length : Int) := by rw [← hji]; unfold wrap64; omega
      rw [hji] at H1
      simp only [Option.some.injEq, Prod.mk.injEq] at H1
      obtain ⟨rfl, rfl, rfl, rfl, rfl⟩ := H1
      have hjiw : IntKind.i64.wrap ((t364.length : Int) - 1) = ji := (i64_w _).trans hji
      obtain ⟨okl, cs_, ad, hA, hok, hM, hcell, hS⟩ := S_last_ HSB.out ji.toNat z26 (by omega)
      have hM2 : k26s.M wc w.heap.size okl (rd_T26 t364 ji) cs_ := hM
      clear hM
      subst hA
      obtain ⟨v0, v2, rfl, g0, g2⟩ := hM2
      obtain ⟨E0, d0, rfl⟩ := Kd.R_slice g0
      obtain ⟨E2, d2, rfl⟩ := Kd.R_slice g2
      have hx0 : wc.cell? (ad.add (ji.toNat * 3)) = some (.slice E0 (rd_T26 t364 ji).f0.length d0) := hcell 0 _ rfl
      have hx1 : wc.cell? ⟨(ad.add (ji.toNat * 3)).block, (ad.add (ji.toNat * 3)).off + 1, none⟩ = some (.int .i64 (rd_T26 t364 ji).f1) := by rw [← add_field _ _ 1 (by omega)]; exact hcell 1 _ rfl
      have hx2 : wc.cell? ⟨(ad.add (ji.toNat * 3)).block, (ad.add (ji.toNat * 3)).off + 2, none⟩ = some (.slice E2 (rd_T26 t364 ji).f2.length d2) := by rw [← add_field _ _ 2 (by omega)]; exact hcell 2 _ rfl
      clear hcell
      obtain ⟨i0_, hi0_, _, hsz_, _⟩ := info_parts info26
      have hcut_ := cut_to (P := Try.prog) 27 26 .i64 Try.underlying27 hi0_ (some ad) t364.length co23 ji hjr.1 (by omega) (Kd.S_reads' HSB.out).2.1
      have HSL := Aside0.mk hS
      have HG0 := Aside0.mk g0
      have HG2 := Aside0.mk g2
      have p_ := eq_true hjr.1
      have q_ := eq_true hjr.2
      have r_ := eq_true (show ji ≤ (t364.length : Int) by omega)
      clear hS g0 g2 hjr hmax cP hok
      have hnb_ := NB367_355.out
      have hnc_ := NB355_367.out
      have hcz_0 : wc.cell? ⟨gb367, 0, none⟩ = some (.slice Ao17 t357.length co17) := (blk_cell BK367.out 0).trans rfl
      have hcz_1 : wc.cell? ⟨gb367, 1, none⟩ = some (.int .i64 t360) := (blk_cell BK367.out 1).trans rfl
      have hcz_2 : wc.cell? ⟨gb367, 2, none⟩ = some (.slice Ao22 t361.length co22) := (blk_cell BK367.out 2).trans rfl
      have hcz_3 : wc.cell? ⟨gb367, 3, none⟩ = some (.slice (some ad) t364.length co23) := (blk_cell BK367.out 3).trans rfl
      have hfz_0 := blk_frozen BK367.out 0
      have hfz_1 := blk_frozen BK367.out 1
      have hfz_2 := blk_frozen BK367.out 2
      have hfz_3 := blk_frozen BK367.out 3
      have hcy_0 : wc.cell? ⟨gb355, 0, none⟩ = some (.slice none 0 0) := (blk_cell BK355.out 0).trans rfl
      have hcy_1 : wc.cell? ⟨gb355, 1, none⟩ = some (.int .i64 0) := (blk_cell BK355.out 1).trans rfl
      have hcy_2 : wc.cell? ⟨gb355, 2, none⟩ = some (.slice none 0 0) := (blk_cell BK355.out 2).trans rfl
      have hcy_3 : wc.cell? ⟨gb355, 3, none⟩ = some (.slice none 0 0) := (blk_cell BK355.out 3).trans rfl
      have hfy_0 := blk_frozen BK355.out 0
      have hfy_1 := blk_frozen BK355.out 1
      have hfy_2 := blk_frozen BK355.out 2
      have hfy_3 := blk_frozen BK355.out 3
      go_wp2
      refine bodyPost_ret (results_ct rfl _ _ gb355 29 #[.slice E0 (rd_T26 t364 ji).f0.length d0, .int .i64 (rd_T26 t364 ji).f1, .slice E2 (rd_T26 t364 ji).f2.length d2, .slice (some ad) ji.toNat co23] (0, 0) _ rfl (by refine bkq ?_; refine blk_put (cs := #[.slice E0 (rd_T26 t364 ji).f0.length d0, .int .i64 (rd_T26 t364 ji).f1, .slice E2 (rd_T26 t364 ji).f2.length d2, .slice none 0 0]) ?_ 3 _ rfl; refine bkq ?_; refine blk_put (cs := #[.slice E0 (rd_T26 t364 ji).f0.length d0, .int .i64 (rd_T26 t364 ji).f1, .slice none 0 0, .slice none 0 0]) ?_ 2 _ rfl; refine bkq ?_; refine blk_put (cs := #[.slice E0 (rd_T26 t364 ji).f0.length d0, .int .i64 0, .slice none 0 0, .slice none 0 0]) ?_ 1 _ rfl; refine bkq ?_; refine blk_put (cs := #[.slice none 0 0, .int .i64 0, .slice none 0 0, .slice none 0 0]) ?_ 0 _ rfl; refine bkq ?_; refine blk_far ?_ NB355_367.out _; refine bkq ?_; refine blk_far ?_ NB355_367.out _; refine bkq ?_; refine blk_far ?_ NB355_367.out _; refine bkq ?_; refine blk_far ?_ NB355_367.out _; refine bkq ?_; exact BK355.out) Try.underlying29 rfl (by kernel_rfl)) rfl ?_
      exact ⟨_, _, _, rfl, by refine roq ?_; exact Kd.R_mono (Kd.R_far (p := ⟨gb355, 3, none⟩) (Kd.R_far (p := ⟨gb355, 2, none⟩) (Kd.R_far (p := ⟨gb355, 1, none⟩) (Kd.R_far (p := ⟨gb355, 0, none⟩) (Kd.R_far (p := ⟨gb367, 3, none⟩) (Kd.R_far (p := ⟨gb367, 2, none⟩) (Kd.R_far (p := ⟨gb367, 1, none⟩) (Kd.R_far (p := ⟨gb367, 0, none⟩) (Kd.R_types (Kd.R_types HG0.out BK367.out (by decide)) BK355.out (by decide)) (fun _ hk => hk.1.2) _) (fun _ hk => hk.1.2) _) (fun _ hk => hk.1.2) _) (fun _ hk => hk.1.2) _) (fun _ hk => hk.2) _) (fun _ hk => hk.2) _) (fun _ hk => hk.2) _) (fun _ hk => hk.2) _) (fun _ hk => hk.1.1.2), by refine roq ?_; exact Kd.R_mono (Kd.R_far (p := ⟨gb355, 3, none⟩) (Kd.R_far (p := ⟨gb355, 2, none⟩) (Kd.R_far (p := ⟨gb355, 1, none⟩) (Kd.R_far (p := ⟨gb355, 0, none⟩) (Kd.R_far (p := ⟨gb367, 3, none⟩) (Kd.R_far (p := ⟨gb367, 2, none⟩) (Kd.R_far (p := ⟨gb367, 1, none⟩) (Kd.R_far (p := ⟨gb367, 0, none⟩) (Kd.R_types (Kd.R_types HG2.out BK367.out (by decide)) BK355.out (by decide)) (fun _ hk => hk.1.2) _) (fun _ hk => hk.1.2) _) (fun _ hk => hk.1.2) _) (fun _ hk => hk.1.2) _) (fun _ hk => hk.2) _) (fun _ hk => hk.2) _) (fun _ hk => hk.2) _) (fun _ hk => hk.2) _) (fun _ hk => hk.1.1.2), by refine qoq ?_; exact Kd.Q_mono (Kd.Q_far (p := ⟨gb355, 3, none⟩) (Kd.Q_far (p := ⟨gb355, 2, none⟩) (Kd.Q_far (p := ⟨gb355, 1, none⟩) (Kd.Q_far (p := ⟨gb355, 0, none⟩) (Kd.Q_far (p := ⟨gb367, 3, none⟩) (Kd.Q_far (p := ⟨gb367, 2, none⟩) (Kd.Q_far (p := ⟨gb367, 1, none⟩) (Kd.Q_far (p := ⟨gb367, 0, none⟩) (Kd.Q_types (Kd.Q_types (Kd.Q_of_R (Kd.S_R (k26s_S HSL.out))) BK367.out (by decide)) BK355.out (by decide)) (fun _ hk => hk.1.2) _) (fun _ hk => hk.1.2) _) (fun _ hk => hk.1.2) _) (fun _ hk => hk.1.2) _) (fun _ hk => hk.2) _) (fun _ hk => hk.2) _) (fun _ hk => hk.2) _) (fun _ hk => hk.2) _) (fun k_ hk => ⟨fun e_ => hk.1.1.2 (HG0.out.1 k_ e_.symm).1, fun e_ => hk.1.1.2 (HG2.out.1 k_ e_.symm).1⟩), hbqa HB.out⟩
     ·rw [if_neg cP] at H1
      exact absurd H1 (by simp)
    ·replace c36 := Bool.eq_false_iff.mpr c36
     subst c36
     have H1 : ((spec_l15Made.f kj5 l0_0 a0_1 l0_2 a1_0 a1_1 a1_2).bind fun bt368 => ((spec_PlaceOk.f kj5 bt368.1 bt368.2.1 bt368.2.2).bind fun t376 => (if t376 = true then ((spec_PlaceText.f kj5 bt368.1 bt368.2.1 bt368.2.2).bind fun t377 => ((spec_PlaceText.f kj5 l0_0 a0_1 l0_2).bind fun t378 => (spec_DeskDo.j1 kj5 (t377.toList == t378.toList) t357 t360 t361 t364 bt368.1 bt368.2.1 bt368.2.2))) else (spec_DeskDo.j1 kj5 true t357 t360 t361 t364 bt368.1 bt368.2.1 bt368.2.2)))) = some (r1, r2, r3, r4, r5) := by rw [if_neg (show ¬ (false = true) by decide)] at H; exact H
     clear H
     have H := H1
     clear H1
     replace H := Option.bind_eq_some_iff.mp H
     obtain ⟨⟨t368, t371, t372⟩, A370, H⟩ := H
     replace H : ((spec_PlaceOk.f kj5 t368 t371 t372).bind fun t376 => (if t376 = true then ((spec_PlaceText.f kj5 t368 t371 t372).bind fun t377 => ((spec_PlaceText.f kj5 l0_0 a0_1 l0_2).bind fun t378 => (spec_DeskDo.j1 kj5 (t377.toList == t378.toList) t357 t360 t361 t364 t368 t371 t372))) else (spec_DeskDo.j1 kj5 true t357 t360 t361 t364 t368 t371 t372))) = some (r1, r2, r3, r4, r5) := H
     have A37 := Aside0.mk A370
     clear A370
     have HC38 := Aside0.mk H
     clear H
     have hnb39 := NB353_354.out
     have hnc39 := NB354_353.out
     have hnb40 := NB353_355.out
     have hnc40 := NB355_353.out
     have hnb41 := NB353_367.out
     have hnc41 := NB367_353.out
     have hcz42_0 : wc.cell? ⟨gb353, 0, none⟩ = some (.slice A0_0 l0_0.length c0_0) := (blk_cell BK353.out 0).trans rfl
     have hcz42_1 : wc.cell? ⟨gb353, 1, none⟩ = some (.int .i64 a0_1) := (blk_cell BK353.out 1).trans rfl
     have hcz42_2 : wc.cell? ⟨gb353, 2, none⟩ = some (.slice A0_2 l0_2.length c0_2) := (blk_cell BK353.out 2).trans rfl
     have hcz42_3 : wc.cell? ⟨gb353, 3, none⟩ = some (.slice A0_3 l0_3.length c0_3) := (blk_cell BK353.out 3).trans rfl
     have hfz42_0 := blk_frozen BK353.out 0
     have hfz42_1 := blk_frozen BK353.out 1
     have hfz42_2 := blk_frozen BK353.out 2
     have hfz42_3 := blk_frozen BK353.out 3
     have hnb43 := NB354_355.out
     have hnc43 := NB355_354.out
     have hnb44 := NB354_367.out
     have hnc44 := NB367_354.out
     have hcz45_0 : wc.cell? ⟨gb354, 0, none⟩ = some (.int .i64 a1_0) := (blk_cell BK354.out 0).trans rfl
     have hcz45_1 : wc.cell? ⟨gb354, 1, none⟩ = some (.int .i64 a1_1) := (blk_cell BK354.out 1).trans rfl
     have hcz45_2 : wc.cell? ⟨gb354, 2, none⟩ = some (.int .i64 a1_2) := (blk_cell BK354.out 2).trans rfl
     have hfz45_0 := blk_frozen BK354.out 0
     have hfz45_1 := blk_frozen BK354.out 1
     have hfz45_2 := blk_frozen BK354.out 2
     go_upto_region 10 with (first | ((with_reducible refine gate_callee (f := 74) rfl ?_); refine goesL_ (some 43) rfl rfl Try.func74 (by kernel_rfl) rfl #[.agg #[.slice A0_0 l0_0.length c0_0, .int .i64 a0_1, .slice A0_2 l0_2.length c0_2], .agg #[.int .i64 a1_0, .int .i64 a1_1, .int .i64 a1_2]] rfl mpq ?_; (with_reducible refine (spec_l15Made.calls kj5 _ _ l0_0 a0_1 _ _ l0_2 a1_0 a1_1 a1_2 t368 t371 t372 _ ?side1 ?side2 ?side3 ?side4 A37.out).mono ?_); (case side1 => exact coq (Kd.C_below HR0_0.out HB.out)); (case side2 => exact HC0_0.out); (case side3 => exact coq (Kd.C_below HR0_2.out HB.out)); (case side4 => exact HC0_2.out); rintro e w46 ⟨v369, v373, rfl, ho0, ho1, hb⟩; refine ⟨_, rfl, ?_⟩; have n0_ := Aside0.mk (Kd.R_mono (Kd.R_told (Kd.R_told (Kd.R_old (roq HO_368000.out) hb) (Kd.R_base ho0)) (Kd.R_base ho1)) (fun _ h_ => h_.1)); have n1_ := Aside0.mk (Kd.R_mono (Kd.R_told (Kd.R_told (Kd.R_old (roq HO_368002.out) hb) (Kd.R_base ho0)) (Kd.R_base ho1)) (fun _ h_ => h_.1)); have n2_ := Aside0.mk (Kd.Q_mono (Kd.Q_told (Kd.Q_told (Kd.Q_old (qoq HO_368003.out) hb) (Kd.R_base ho0)) (Kd.R_base ho1)) (fun _ h_ => h_.1)); have n3_ := Aside0.mk (Kd.R_lower (Kd.R_new' (Kd.R_new' ho0 (Kd.R_lt (roq HO_368000.out))) (Kd.R_lt (roq HO_368002.out))) (below_size (hbqa HB.out))); have n4_ := Aside0.mk (Kd.R_lower (Kd.R_new' (Kd.R_new' ho1 (Kd.R_lt (roq HO_368000.out))) (Kd.R_lt (roq HO_368002.out))) (below_size (hbqa HB.out))); have n5_ := Aside0.mk (blk_below (bkq BK353.out) hb); have n6_ := Aside0.mk (blk_below (bkq BK354.out) hb); have n7_ := Aside0.mk (blk_below (bkq BK355.out) hb); have n8_ := Aside0.mk (blk_below (bkq BK367.out) hb); have n9_ := Aside0.mk (below_step (hbqa HB.out) hb); clear HO_368000 HO_368002 HO_368003 BK353 BK354 BK355 BK367 HB; revert n0_ n1_ n2_ n3_ n4_ n5_ n6_ n7_ n8_ n9_; intro HO_368000 HO_368002 HO_368003 HO370 HO374 BK353 BK354 BK355 BK367 HB; (try clear hb); (try clear hb2); (try clear hk); (try clear hi); (try clear ho0); (try clear ho1)) | ((with_reducible refine gate_dst (N := 8) rfl ?_); (try (refine gate_guard (by rfl) ?_; dsimp only)); refine box_event ?hg (N := 8) ?hd (cs := #[.slice none 0 0, .int .i64 0, .slice none 0 0]) (t := 26) ?hr ?_; (case hd => rfl); (case hg => rfl); (case hr => first | (go_simp; done) | (go_simp; rfl)); intro gb375 hg w47 hbox hb; have n0_ := Aside0.mk (Kd.R_below (roq HO_368000.out) hb); have n1_ := Aside0.mk (Kd.R_below (roq HO_368002.out) hb); have n2_ := Aside0.mk (Kd.Q_below (Kd.Q_elderB (qoq HO_368003.out) gb375 (Nat.le_of_eq hg.symm)) hb); have n3_ := Aside0.mk (Kd.R_below (roq HO370.out) hb); have n4_ := Aside0.mk (Kd.R_below (roq HO374.out) hb); have n5_ := Aside0.mk (blk_below (bkq BK353.out) hb); have n6_ := Aside0.mk (blk_below (bkq BK354.out) hb); have n7_ := Aside0.mk (blk_below (bkq BK355.out) hb); have n8_ := Aside0.mk (blk_below (bkq BK367.out) hb); have n9_ := Aside0.mk (below_step (hbqa HB.out) hb); have n10_ := Aside0.mk (hbox); have n11_ := Aside0.mk ((by rw [hg]; exact (below_size (hbqa HB.out)) : w.heap.size ≤ gb375)); have n12_ := Aside0.mk ((by rw [hg]; exact (below_size (hbqa HB.out)) : w.heap.size ≤ gb375)); have n13_ := Aside0.mk ((by rw [hg]; exact Nat.ne_of_lt (blk_lt (bkq BK353.out)) : gb353 ≠ gb375)); have n14_ := Aside0.mk ((by rw [hg]; exact Nat.ne_of_gt (blk_lt (bkq BK353.out)) : gb375 ≠ gb353)); have n15_ := Aside0.mk ((by rw [hg]; exact Nat.ne_of_lt (blk_lt (bkq BK354.out)) : gb354 ≠ gb375)); have n16_ := Aside0.mk ((by rw [hg]; exact Nat.ne_of_gt (blk_lt (bkq BK354.out)) : gb375 ≠ gb354)); have n17_ := Aside0.mk ((by rw [hg]; exact Nat.ne_of_lt (blk_lt (bkq BK355.out)) : gb355 ≠ gb375)); have n18_ := Aside0.mk ((by rw [hg]; exact Nat.ne_of_gt (blk_lt (bkq BK355.out)) : gb375 ≠ gb355)); have n19_ := Aside0.mk ((by rw [hg]; exact Nat.ne_of_lt (blk_lt (bkq BK367.out)) : gb367 ≠ gb375)); have n20_ := Aside0.mk ((by rw [hg]; exact Nat.ne_of_gt (blk_lt (bkq BK367.out)) : gb375 ≠ gb367)); clear HO_368000 HO_368002 HO_368003 HO370 HO374 BK353 BK354 BK355 BK367 HB; revert n0_ n1_ n2_ n3_ n4_ n5_ n6_ n7_ n8_ n9_ n10_ n11_ n12_ n13_ n14_ n15_ n16_ n17_ n18_ n19_ n20_; intro HO_368000 HO_368002 HO_368003 HO370 HO374 BK353 BK354 BK355 BK367 HB BK375 GW375 GE375 NB353_375 NB375_353 NB354_375 NB375_354 NB355_375 NB375_355 NB367_375 NB375_367; clear hb hbox hg; obtain ⟨Ao48, co48, eo48⟩ := Kd.R_slice HO370.out; subst eo48; have hnb49 := NB375_353.out; have hnc49 := NB353_375.out; have hnb50 := NB375_354.out; have hnc50 := NB354_375.out; have hnb51 := NB375_355.out; have hnc51 := NB355_375.out; have hnb52 := NB375_367.out; have hnc52 := NB367_375.out; have hcz53_0 : w47.cell? ⟨gb375, 0, none⟩ = some (.slice none 0 0) := (blk_cell BK375.out 0).trans rfl; have hcz53_1 : w47.cell? ⟨gb375, 1, none⟩ = some (.int .i64 0) := (blk_cell BK375.out 1).trans rfl; have hcz53_2 : w47.cell? ⟨gb375, 2, none⟩ = some (.slice none 0 0) := (blk_cell BK375.out 2).trans rfl; have hfz53_0 := blk_frozen BK375.out 0; have hfz53_1 := blk_frozen BK375.out 1; have hfz53_2 := blk_frozen BK375.out 2; obtain ⟨Ao54, co54, eo54⟩ := Kd.R_slice HO374.out; subst eo54))
     (try simp only [Act.put, List.setIfInBounds_toArray, List.set_cons_zero, List.set_cons_succ])
     go_cut [54] (fun v54 wc => ∃ (kq : Nat) (x54_37 : Bool), v54 = .bool x54_37 ∧ Aside0 (spec_DeskDo.j1 kq x54_37 t357 t360 t361 t364 t368 t371 t372 = some (r1, r2, r3, r4, r5)) ∧ Aside0 (kq ≤ kj5) ∧ Aside0 (Kd.R (Kd.int .i64) 3 wc w.heap.size (fun k_ => some k_ ≠ ((.slice Ao22 t361.length co22) : Value).ownBlock ∧ some k_ ≠ ((.slice Ao48 t368.length co48) : Value).ownBlock ∧ some k_ ≠ ((.slice Ao54 t372.length co54) : Value).ownBlock) (.slice Ao17 t357.length co17) t357) ∧ Aside0 (Kd.R (Kd.int .i64) 3 wc w.heap.size (fun k_ => some k_ ≠ ((.slice Ao17 t357.length co17) : Value).ownBlock ∧ some k_ ≠ ((.slice Ao48 t368.length co48) : Value).ownBlock ∧ some k_ ≠ ((.slice Ao54 t372.length co54) : Value).ownBlock) (.slice Ao22 t361.length co22) t361) ∧ Aside0 (Kd.Q k26 26 wc w.heap.size (fun k_ => some k_ ≠ ((.slice Ao17 t357.length co17) : Value).ownBlock ∧ some k_ ≠ ((.slice Ao22 t361.length co22) : Value).ownBlock ∧ some k_ ≠ ((.slice Ao48 t368.length co48) : Value).ownBlock ∧ some k_ ≠ ((.slice Ao54 t372.length co54) : Value).ownBlock ∧ k_ ≠ gb375) (.slice Ao23 t364.length co23) t364) ∧ Aside0 (Kd.R (Kd.int .i64) 3 wc w.heap.size (fun k_ => some k_ ≠ ((.slice Ao17 t357.length co17) : Value).ownBlock ∧ some k_ ≠ ((.slice Ao22 t361.length co22) : Value).ownBlock ∧ some k_ ≠ ((.slice Ao54 t372.length co54) : Value).ownBlock) (.slice Ao48 t368.length co48) t368) ∧ Aside0 (Kd.R (Kd.int .i64) 3 wc w.heap.size (fun k_ => some k_ ≠ ((.slice Ao17 t357.length co17) : Value).ownBlock ∧ some k_ ≠ ((.slice Ao22 t361.length co22) : Value).ownBlock ∧ some k_ ≠ ((.slice Ao48 t368.length co48) : Value).ownBlock) (.slice Ao54 t372.length co54) t372) ∧ Aside0 (wc.heap[gb353]? = some (.cells #[(.slice A0_0 l0_0.length c0_0), .int .i64 a0_1, (.slice A0_2 l0_2.length c0_2), (.slice A0_3 l0_3.length c0_3)] 29 (0, 0))) ∧ Aside0 (wc.heap[gb354]? = some (.cells #[.int .i64 a1_0, .int .i64 a1_1, .int .i64 a1_2] 81 (0, 0))) ∧ Aside0 (wc.heap[gb355]? = some (.cells #[(.slice none 0 0), .int .i64 0, (.slice none 0 0), (.slice none 0 0)] 29 (0, 0))) ∧ Aside0 (wc.heap[gb367]? = some (.cells #[(.slice Ao17 t357.length co17), .int .i64 t360, (.slice Ao22 t361.length co22), (.slice Ao23 t364.length co23)] 29 (0, 0))) ∧ Aside0 (wc.heap[gb375]? = some (.cells #[(.slice Ao48 t368.length co48), .int .i64 t371, (.slice Ao54 t372.length co54)] 26 (0, 0))) ∧ Aside0 (Below w.heap.size w wc))
     case first =>
      have H := HC38.out
      clear HC38
      replace H := Option.bind_eq_some_iff.mp H
      obtain ⟨t376, A550, H⟩ := H
      replace H : (if t376 = true then ((spec_PlaceText.f kj5 t368 t371 t372).bind fun t377 => ((spec_PlaceText.f kj5 l0_0 a0_1 l0_2).bind fun t378 => (spec_DeskDo.j1 kj5 (t377.toList == t378.toList) t357 t360 t361 t364 t368 t371 t372))) else (spec_DeskDo.j1 kj5 true t357 t360 t361 t364 t368 t371 t372)) = some (r1, r2, r3, r4, r5) := H
      have A55 := Aside0.mk A550
      clear A550
      by_cases c56 : t376 = true
      ·subst c56
       have H1 : ((spec_PlaceText.f kj5 t368 t371 t372).bind fun t377 => ((spec_PlaceText.f kj5 l0_0 a0_1 l0_2).bind fun t378 => (spec_DeskDo.j1 kj5 (t377.toList == t378.toList) t357 t360 t361 t364 t368 t371 t372))) = some (r1, r2, r3, r4, r5) := by rw [if_pos rfl] at H; exact H
       clear H
       have H := H1
       clear H1
       replace H := Option.bind_eq_some_iff.mp H
       obtain ⟨t377, A570, H⟩ := H
       replace H : ((spec_PlaceText.f kj5 l0_0 a0_1 l0_2).bind fun t378 => (spec_DeskDo.j1 kj5 (t377.toList == t378.toList) t357 t360 t361 t364 t368 t371 t372)) = some (r1, r2, r3, r4, r5) := H
       have A57 := Aside0.mk A570
       clear A570
       replace H := Option.bind_eq_some_iff.mp H
       obtain ⟨t378, A580, H⟩ := H
       replace H : (spec_DeskDo.j1 kj5 (t377.toList == t378.toList) t357 t360 t361 t364 t368 t371 t372) = some (r1, r2, r3, r4, r5) := H
       have A58 := Aside0.mk A580
       clear A580
       have H' := Aside0.mk H
       clear H
       try go_wp2
       have n0_ : Aside0 (Kd.R (Kd.int .i64) 3 (((w47.setCell ⟨gb375, 0, none⟩ (.slice Ao48 t368.length co48)).setCell ⟨gb375, 1, none⟩ (.int .i64 t371)).setCell ⟨gb375, 2, none⟩ (.slice Ao54 t372.length co54)) w.heap.size (fun k_ => some k_ ≠ (.slice Ao22 t361.length co22 : Value).ownBlock ∧ some k_ ≠ (.slice Ao48 t368.length co48 : Value).ownBlock ∧ some k_ ≠ (.slice Ao54 t372.length co54 : Value).ownBlock) (.slice Ao17 t357.length co17) t357) := ⟨by refine roq ?_; exact Kd.R_mono (Kd.R_far (p := ⟨gb375, 2, none⟩) (Kd.R_far (p := ⟨gb375, 1, none⟩) (Kd.R_far (p := ⟨gb375, 0, none⟩) (Kd.R_types HO_368000.out BK375.out (by decide)) (fun _ hk => hk.2) (.slice Ao48 t368.length co48)) (fun _ hk => hk.2) (.int .i64 t371)) (fun _ hk => hk.2) (.slice Ao54 t372.length co54)) (fun _ hk => ⟨hk.1.1.1, ⟨hk.1.1.2, hk.1.2⟩⟩)⟩
       have n1_ : Aside0 (Kd.R (Kd.int .i64) 3 (((w47.setCell ⟨gb375, 0, none⟩ (.slice Ao48 t368.length co48)).setCell ⟨gb375, 1, none⟩ (.int .i64 t371)).setCell ⟨gb375, 2, none⟩ (.slice Ao54 t372.length co54)) w.heap.size (fun k_ => some k_ ≠ (.slice Ao17 t357.length co17 : Value).ownBlock ∧ some k_ ≠ (.slice Ao48 t368.length co48 : Value).ownBlock ∧ some k_ ≠ (.slice Ao54 t372.length co54 : Value).ownBlock) (.slice Ao22 t361.length co22) t361) := ⟨by refine roq ?_; exact Kd.R_mono (Kd.R_far (p := ⟨gb375, 2, none⟩) (Kd.R_far (p := ⟨gb375, 1, none⟩) (Kd.R_far (p := ⟨gb375, 0, none⟩) (Kd.R_types HO_368002.out BK375.out (by decide)) (fun _ hk => hk.2) (.slice Ao48 t368.length co48)) (fun _ hk => hk.2) (.int .i64 t371)) (fun _ hk => hk.2) (.slice Ao54 t372.length co54)) (fun _ hk => ⟨hk.1.1.1, ⟨hk.1.1.2, hk.1.2⟩⟩)⟩
       have n2_ : Aside0 (Kd.Q k26 26 (((w47.setCell ⟨gb375, 0, none⟩ (.slice Ao48 t368.length co48)).setCell ⟨gb375, 1, none⟩ (.int .i64 t371)).setCell ⟨gb375, 2, none⟩ (.slice Ao54 t372.length co54)) w.heap.size (fun k_ => some k_ ≠ (.slice Ao17 t357.length co17 : Value).ownBlock ∧ some k_ ≠ (.slice Ao22 t361.length co22 : Value).ownBlock ∧ some k_ ≠ (.slice Ao48 t368.length co48 : Value).ownBlock ∧ some k_ ≠ (.slice Ao54 t372.length co54 : Value).ownBlock ∧ k_ ≠ gb375) (.slice Ao23 t364.length co23) t364) := ⟨by refine qoq ?_; exact Kd.Q_mono (Kd.Q_far (p := ⟨gb375, 2, none⟩) (Kd.Q_far (p := ⟨gb375, 1, none⟩) (Kd.Q_far (p := ⟨gb375, 0, none⟩) (Kd.Q_mono HO_368003.out (fun k_ hk => (⟨hk, hk.2⟩ : _ ∧ k_ ≠ gb375))) (fun _ hk => hk.2) (.slice Ao48 t368.length co48)) (fun _ hk => hk.2) (.int .i64 t371)) (fun _ hk => hk.2) (.slice Ao54 t372.length co54)) (fun _ hk => ⟨hk.1.1.1.1.1, ⟨hk.1.1.1.1.2, ⟨hk.1.1.1.2, ⟨hk.1.1.2, hk.1.2⟩⟩⟩⟩)⟩
       have n3_ : Aside0 (Kd.R (Kd.int .i64) 3 (((w47.setCell ⟨gb375, 0, none⟩ (.slice Ao48 t368.length co48)).setCell ⟨gb375, 1, none⟩ (.int .i64 t371)).setCell ⟨gb375, 2, none⟩ (.slice Ao54 t372.length co54)) w.heap.size (fun k_ => some k_ ≠ (.slice Ao17 t357.length co17 : Value).ownBlock ∧ some k_ ≠ (.slice Ao22 t361.length co22 : Value).ownBlock ∧ some k_ ≠ (.slice Ao54 t372.length co54 : Value).ownBlock) (.slice Ao48 t368.length co48) t368) := ⟨by refine roq ?_; exact Kd.R_mono (Kd.R_far (p := ⟨gb375, 2, none⟩) (Kd.R_far (p := ⟨gb375, 1, none⟩) (Kd.R_far (p := ⟨gb375, 0, none⟩) (Kd.R_types HO370.out BK375.out (by decide)) (fun _ hk => hk.2) (.slice Ao48 t368.length co48)) (fun _ hk => hk.2) (.int .i64 t371)) (fun _ hk => hk.2) (.slice Ao54 t372.length co54)) (fun _ hk => ⟨hk.1.1.2, ⟨hk.1.2, hk.1.1.1⟩⟩)⟩
       have n4_ : Aside0 (Kd.R (Kd.int .i64) 3 (((w47.setCell ⟨gb375, 0, none⟩ (.slice Ao48 t368.length co48)).setCell ⟨gb375, 1, none⟩ (.int .i64 t371)).setCell ⟨gb375, 2, none⟩ (.slice Ao54 t372.length co54)) w.heap.size (fun k_ => some k_ ≠ (.slice Ao17 t357.length co17 : Value).ownBlock ∧ some k_ ≠ (.slice Ao22 t361.length co22 : Value).ownBlock ∧ some k_ ≠ (.slice Ao48 t368.length co48 : Value).ownBlock) (.slice Ao54 t372.length co54) t372) := ⟨by refine roq ?_; exact Kd.R_mono (Kd.R_far (p := ⟨gb375, 2, none⟩) (Kd.R_far (p := ⟨gb375, 1, none⟩) (Kd.R_far (p := ⟨gb375, 0, none⟩) (Kd.R_types HO374.out BK375.out (by decide)) (fun _ hk => hk.2) (.slice Ao48 t368.length co48)) (fun _ hk => hk.2) (.int .i64 t371)) (fun _ hk => hk.2) (.slice Ao54 t372.length co54)) (fun _ hk => ⟨hk.1.1.2, ⟨hk.1.2, hk.1.1.1⟩⟩)⟩
       have n5_ : Aside0 ((((w47.setCell ⟨gb375, 0, none⟩ (.slice Ao48 t368.length co48)).setCell ⟨gb375, 1, none⟩ (.int .i64 t371)).setCell ⟨gb375, 2, none⟩ (.slice Ao54 t372.length co54)).heap[gb353]? = some (.cells #[.slice A0_0 l0_0.length c0_0, .int .i64 a0_1, .slice A0_2 l0_2.length c0_2, .slice A0_3 l0_3.length c0_3] 29 (0, 0))) := ⟨by refine bkq ?_; refine blk_far ?_ NB353_375.out _; refine bkq ?_; refine blk_far ?_ NB353_375.out _; refine bkq ?_; refine blk_far ?_ NB353_375.out _; refine bkq ?_; exact BK353.out⟩
       have n6_ : Aside0 ((((w47.setCell ⟨gb375, 0, none⟩ (.slice Ao48 t368.length co48)).setCell ⟨gb375, 1, none⟩ (.int .i64 t371)).setCell ⟨gb375, 2, none⟩ (.slice Ao54 t372.length co54)).heap[gb354]? = some (.cells #[.int .i64 a1_0, .int .i64 a1_1, .int .i64 a1_2] 81 (0, 0))) := ⟨by refine bkq ?_; refine blk_far ?_ NB354_375.out _; refine bkq ?_; refine blk_far ?_ NB354_375.out _; refine bkq ?_; refine blk_far ?_ NB354_375.out _; refine bkq ?_; exact BK354.out⟩
       have n7_ : Aside0 ((((w47.setCell ⟨gb375, 0, none⟩ (.slice Ao48 t368.length co48)).setCell ⟨gb375, 1, none⟩ (.int .i64 t371)).setCell ⟨gb375, 2, none⟩ (.slice Ao54 t372.length co54)).heap[gb355]? = some (.cells #[.slice none 0 0, .int .i64 0, .slice none 0 0, .slice none 0 0] 29 (0, 0))) := ⟨by refine bkq ?_; refine blk_far ?_ NB355_375.out _; refine bkq ?_; refine blk_far ?_ NB355_375.out _; refine bkq ?_; refine blk_far ?_ NB355_375.out _; refine bkq ?_; exact BK355.out⟩
       have n8_ : Aside0 ((((w47.setCell ⟨gb375, 0, none⟩ (.slice Ao48 t368.length co48)).setCell ⟨gb375, 1, none⟩ (.int .i64 t371)).setCell ⟨gb375, 2, none⟩ (.slice Ao54 t372.length co54)).heap[gb367]? = some (.cells #[.slice Ao17 t357.length co17, .int .i64 t360, .slice Ao22 t361.length co22, .slice Ao23 t364.length co23] 29 (0, 0))) := ⟨by refine bkq ?_; refine blk_far ?_ NB367_375.out _; refine bkq ?_; refine blk_far ?_ NB367_375.out _; refine bkq ?_; refine blk_far ?_ NB367_375.out _; refine bkq ?_; exact BK367.out⟩
       have n9_ : Aside0 ((((w47.setCell ⟨gb375, 0, none⟩ (.slice Ao48 t368.length co48)).setCell ⟨gb375, 1, none⟩ (.int .i64 t371)).setCell ⟨gb375, 2, none⟩ (.slice Ao54 t372.length co54)).heap[gb375]? = some (.cells #[.slice Ao48 t368.length co48, .int .i64 t371, .slice Ao54 t372.length co54] 26 (0, 0))) := ⟨by refine bkq ?_; refine blk_put (cs := #[.slice Ao48 t368.length co48, .int .i64 t371, .slice none 0 0]) ?_ 2 _ rfl; refine bkq ?_; refine blk_put (cs := #[.slice Ao48 t368.length co48, .int .i64 0, .slice none 0 0]) ?_ 1 _ rfl; refine bkq ?_; refine blk_put (cs := #[.slice none 0 0, .int .i64 0, .slice none 0 0]) ?_ 0 _ rfl; refine bkq ?_; exact BK375.out⟩
       have n10_ : Aside0 (Below w.heap.size w (((w47.setCell ⟨gb375, 0, none⟩ (.slice Ao48 t368.length co48)).setCell ⟨gb375, 1, none⟩ (.int .i64 t371)).setCell ⟨gb375, 2, none⟩ (.slice Ao54 t372.length co54))) := ⟨hbqa HB.out⟩
       (try clear HO_368000)
       (try clear HO_368002)
       (try clear HO_368003)
       (try clear HO370)
       (try clear HO374)
       (try clear BK353)
       (try clear BK354)
       (try clear BK355)
       (try clear BK367)
       (try clear BK375)
       (try clear HB)
       generalize (((w47.setCell ⟨gb375, 0, none⟩ (.slice Ao48 t368.length co48)).setCell ⟨gb375, 1, none⟩ (.int .i64 t371)).setCell ⟨gb375, 2, none⟩ (.slice Ao54 t372.length co54)) = w59 at n0_ n1_ n2_ n3_ n4_ n5_ n6_ n7_ n8_ n9_ n10_ ⊢
       have HO_368000 := n0_
       have HO_368002 := n1_
       have HO_368003 := n2_
       have HO370 := n3_
       have HO374 := n4_
       have BK353 := n5_
       have BK354 := n6_
       have BK355 := n7_
       have BK367 := n8_
       have BK375 := n9_
       have HB := n10_
       clear n0_ n1_ n2_ n3_ n4_ n5_ n6_ n7_ n8_ n9_ n10_
       have n0_ := Aside0.mk (Kd.R_drew HO_368000.out)
       have n1_ := Aside0.mk (Kd.R_drew HO_368002.out)
       have n2_ := Aside0.mk (Kd.Q_drew HO_368003.out)
       have n3_ := Aside0.mk (Kd.R_drew HO370.out)
       have n4_ := Aside0.mk (Kd.R_drew HO374.out)
       have n5_ := Aside0.mk (blk_drew BK353.out)
       have n6_ := Aside0.mk (blk_drew BK354.out)
       have n7_ := Aside0.mk (blk_drew BK355.out)
       have n8_ := Aside0.mk (blk_drew BK367.out)
       have n9_ := Aside0.mk (blk_drew BK375.out)
       have n10_ := Aside0.mk (below_drew1 HB.out)
       clear HO_368000 HO_368002 HO_368003 HO370 HO374 BK353 BK354 BK355 BK367 BK375 HB
       revert n0_ n1_ n2_ n3_ n4_ n5_ n6_ n7_ n8_ n9_ n10_
       intro HO_368000 HO_368002 HO_368003 HO370 HO374 BK353 BK354 BK355 BK367 BK375 HB
       refine start_ (n := 11) (S := fun w' => w'.cell? ⟨gb375, 0, none⟩ = some (.slice Ao48 t368.length co48) ∧ w'.cell? ⟨gb375, 1, none⟩ = some (.int .i64 t371) ∧ w'.cell? ⟨gb375, 2, none⟩ = some (.slice Ao54 t372.length co54) ∧ w'.cell? ⟨gb353, 0, none⟩ = some (.slice A0_0 l0_0.length c0_0) ∧ w'.cell? ⟨gb353, 1, none⟩ = some (.int .i64 a0_1) ∧ w'.cell? ⟨gb353, 2, none⟩ = some (.slice A0_2 l0_2.length c0_2) ∧ w'.cell? ⟨gb353, 3, none⟩ = some (.slice A0_3 l0_3.length c0_3)) (ds := []) #[false, false, false, false, false, false, false, false, false, false, false] (by kernel_rfl) rfl rfl ⟨(blk_cell BK375.out 0).trans rfl, (blk_cell BK375.out 1).trans rfl, (blk_cell BK375.out 2).trans rfl, (blk_cell BK353.out 0).trans rfl, (blk_cell BK353.out 1).trans rfl, (blk_cell BK353.out 2).trans rfl, (blk_cell BK353.out 3).trans rfl⟩ (fun hHeld => ?_); refine with_tabW spec_DeskDo.tab10 spec_DeskDo.bits10 (fun HT_ HW_ => ?_)
       generalize w59.drew = w60 at HO_368000 HO_368002 HO_368003 HO370 HO374 BK353 BK354 BK355 BK367 BK375 HB hHeld ⊢
       refine take_ (i := 0) (N := some 44) (v := ?_) (a' := ?_) #[true, false, false, false, false, false, false, false, false, false, false] rfl rfl (take_ofW HT_.out HW_.out (by kernel_rfl)) (fun _ _ _ h => h) (Or.inl ⟨by rfl, ?_⟩) hHeld ?_ ?_
       rotate_left
       ·rintro w' ⟨s0, s1, s2, s3, s4, s5, s6⟩
        go_simp
        with_reducible rfl
       rotate_left
       ·simp only [Act.put, List.setIfInBounds_toArray, List.set_cons_zero, List.set_cons_succ, i64_w, i32_w]
        rfl
       refine one_ (i := 1) (N := some 45) #[true, true, false, false, false, false, false, false, false, false, false] rfl rfl (one_of HT_.out (by kernel_rfl)) (by decide) (fun K hK => ?_)
       refine goes_ Try.func33 (by kernel_rfl) rfl #[.agg #[.slice Ao48 t368.length co48, .int .i64 t371, .slice Ao54 t372.length co54]] (by rfl) rfl rfl mpq ?_
       with_reducible refine (spec_PlaceOk.calls kj5 _ _ t368 t371 _ _ t372 true _ ?side1 ?side2 ?side3 ?side4 A55.out).mono ?_
       (case side1 => exact coq ((Kd.R_reads' HO370.out).2.2))
       (case side2 => exact (Kd.R_reads' HO370.out).2.1)
       (case side3 => exact coq ((Kd.R_reads' HO374.out).2.2))
       (case side4 => exact (Kd.R_reads' HO374.out).2.1)
       rintro e w61 ⟨rfl, hb⟩
       refine ⟨_, rfl, ?_⟩
       have n0_ := Aside0.mk (Kd.R_below (roq HO_368000.out) hb)
       have n1_ := Aside0.mk (Kd.R_below (roq HO_368002.out) hb)
       have n2_ := Aside0.mk (Kd.Q_below (qoq HO_368003.out) hb)
       have n3_ := Aside0.mk (Kd.R_below (roq HO370.out) hb)
       have n4_ := Aside0.mk (Kd.R_below (roq HO374.out) hb)
       have n5_ := Aside0.mk (blk_below (bkq BK353.out) hb)
       have n6_ := Aside0.mk (blk_below (bkq BK354.out) hb)
       have n7_ := Aside0.mk (blk_below (bkq BK355.out) hb)
       have n8_ := Aside0.mk (blk_below (bkq BK367.out) hb)
       have n9_ := Aside0.mk (blk_below (bkq BK375.out) hb)
       have n10_ := Aside0.mk (below_step (hbqa HB.out) hb)
       clear HO_368000 HO_368002 HO_368003 HO370 HO374 BK353 BK354 BK355 BK367 BK375 HB
       revert n0_ n1_ n2_ n3_ n4_ n5_ n6_ n7_ n8_ n9_ n10_
       intro HO_368000 HO_368002 HO_368003 HO370 HO374 BK353 BK354 BK355 BK367 BK375 HB
       (try clear hb)
       (try clear hb2)
       (try clear hk)
       (try clear hi)
       refine hK.out _ _ ⟨(blk_cell BK375.out 0).trans rfl, (blk_cell BK375.out 1).trans rfl, (blk_cell BK375.out 2).trans rfl, (blk_cell BK353.out 0).trans rfl, (blk_cell BK353.out 1).trans rfl, (blk_cell BK353.out 2).trans rfl, (blk_cell BK353.out 3).trans rfl⟩ (fun hHeld => ?_)
       clear hK K
       refine normq 45 ?_
       refine pureq (i := 2) (N := some 46) #[true, true, true, false, false, false, false, false, false, false, false] rfl rfl HT_.out ?_
       refine pureq (i := 3) (N := some 47) #[true, true, true, true, false, false, false, false, false, false, false] rfl rfl HT_.out ?_
       refine pureq (i := 6) (N := some 50) #[true, true, true, true, false, false, true, false, false, false, false] rfl rfl HT_.out ?_
       refine take_ (i := 4) (N := some 48) (v := ?_) (a' := ?_) #[true, true, true, true, true, false, true, false, false, false, false] rfl rfl (take_ofW HT_.out HW_.out (by kernel_rfl)) (fun _ _ _ h => h) (Or.inl ⟨by rfl, ?_⟩) hHeld ?_ ?_
       rotate_left
       ·rintro w' ⟨s0, s1, s2, s3, s4, s5, s6⟩
        go_simp
        with_reducible rfl
       rotate_left
       ·simp only [Act.put, List.setIfInBounds_toArray, List.set_cons_zero, List.set_cons_succ, i64_w, i32_w]
        rfl
       refine take_ (i := 7) (N := some 51) (v := ?_) (a' := ?_) #[true, true, true, true, true, false, true, true, false, false, false] rfl rfl (take_ofW HT_.out HW_.out (by kernel_rfl)) (fun _ _ _ h => h) (Or.inl ⟨by rfl, ?_⟩) hHeld ?_ ?_
       rotate_left
       ·rintro w' ⟨s0, s1, s2, s3, s4, s5, s6⟩
        go_simp
        with_reducible rfl
       rotate_left
       ·simp only [Act.put, List.setIfInBounds_toArray, List.set_cons_zero, List.set_cons_succ, i64_w, i32_w]
        rfl
       refine one_ (i := 5) (N := some 49) #[true, true, true, true, true, true, true, true, false, false, false] rfl rfl (one_of HT_.out (by kernel_rfl)) (by decide) (fun K hK => ?_)
       refine goes_ Try.func75 (by kernel_rfl) rfl #[.agg #[.slice Ao48 t368.length co48, .int .i64 t371, .slice Ao54 t372.length co54]] (by rfl) rfl rfl mpq ?_
       with_reducible refine (spec_PlaceText.calls kj5 _ _ t368 t371 _ _ t372 t377 _ ?side1 ?side2 ?side3 ?side4 A57.out).mono ?_
       (case side1 => exact coq ((Kd.R_reads' HO370.out).2.2))
       (case side2 => exact (Kd.R_reads' HO370.out).2.1)
       (case side3 => exact coq ((Kd.R_reads' HO374.out).2.2))
       (case side4 => exact (Kd.R_reads' HO374.out).2.1)
       rintro e w62 ⟨rfl, hb⟩
       refine ⟨_, rfl, ?_⟩
       have n0_ := Aside0.mk (Kd.R_below (roq HO_368000.out) hb)
       have n1_ := Aside0.mk (Kd.R_below (roq HO_368002.out) hb)
       have n2_ := Aside0.mk (Kd.Q_below (qoq HO_368003.out) hb)
       have n3_ := Aside0.mk (Kd.R_below (roq HO370.out) hb)
       have n4_ := Aside0.mk (Kd.R_below (roq HO374.out) hb)
       have n5_ := Aside0.mk (blk_below (bkq BK353.out) hb)
       have n6_ := Aside0.mk (blk_below (bkq BK354.out) hb)
       have n7_ := Aside0.mk (blk_below (bkq BK355.out) hb)
       have n8_ := Aside0.mk (blk_below (bkq BK367.out) hb)
       have n9_ := Aside0.mk (blk_below (bkq BK375.out) hb)
       have n10_ := Aside0.mk (below_step (hbqa HB.out) hb)
       clear HO_368000 HO_368002 HO_368003 HO370 HO374 BK353 BK354 BK355 BK367 BK375 HB
       revert n0_ n1_ n2_ n3_ n4_ n5_ n6_ n7_ n8_ n9_ n10_
       intro HO_368000 HO_368002 HO_368003 HO370 HO374 BK353 BK354 BK355 BK367 BK375 HB
       (try clear hb)
       (try clear hb2)
       (try clear hk)
       (try clear hi)
       refine hK.out _ _ ⟨(blk_cell BK375.out 0).trans rfl, (blk_cell BK375.out 1).trans rfl, (blk_cell BK375.out 2).trans rfl, (blk_cell BK353.out 0).trans rfl, (blk_cell BK353.out 1).trans rfl, (blk_cell BK353.out 2).trans rfl, (blk_cell BK353.out 3).trans rfl⟩ (fun hHeld => ?_)
       clear hK K
       refine normq 49 ?_
       refine one_ (i := 8) (N := some 52) #[true, true, true, true, true, true, true, true, true, false, false] rfl rfl (one_of HT_.out (by kernel_rfl)) (by decide) (fun K hK => ?_)
       refine goes_ Try.func75 (by kernel_rfl) rfl #[.agg #[.slice A0_0 l0_0.length c0_0, .int .i64 a0_1, .slice A0_2 l0_2.length c0_2]] (by rfl) rfl rfl mpq ?_
       with_reducible refine (spec_PlaceText.calls kj5 _ _ l0_0 a0_1 _ _ l0_2 t378 _ ?side1 ?side2 ?side3 ?side4 A58.out).mono ?_
       (case side1 => exact coq (Kd.C_below HR0_0.out HB.out))
       (case side2 => exact HC0_0.out)
       (case side3 => exact coq (Kd.C_below HR0_2.out HB.out))
       (case side4 => exact HC0_2.out)
       rintro e w63 ⟨rfl, hb⟩
       refine ⟨_, rfl, ?_⟩
       have n0_ := Aside0.mk (Kd.R_below (roq HO_368000.out) hb)
       have n1_ := Aside0.mk (Kd.R_below (roq HO_368002.out) hb)
       have n2_ := Aside0.mk (Kd.Q_below (qoq HO_368003.out) hb)
       have n3_ := Aside0.mk (Kd.R_below (roq HO370.out) hb)
       have n4_ := Aside0.mk (Kd.R_below (roq HO374.out) hb)
       have n5_ := Aside0.mk (blk_below (bkq BK353.out) hb)
       have n6_ := Aside0.mk (blk_below (bkq BK354.out) hb)
       have n7_ := Aside0.mk (blk_below (bkq BK355.out) hb)
       have n8_ := Aside0.mk (blk_below (bkq BK367.out) hb)
       have n9_ := Aside0.mk (blk_below (bkq BK375.out) hb)
       have n10_ := Aside0.mk (below_step (hbqa HB.out) hb)
       clear HO_368000 HO_368002 HO_368003 HO370 HO374 BK353 BK354 BK355 BK367 BK375 HB
       revert n0_ n1_ n2_ n3_ n4_ n5_ n6_ n7_ n8_ n9_ n10_
       intro HO_368000 HO_368002 HO_368003 HO370 HO374 BK353 BK354 BK355 BK367 BK375 HB
       (try clear hb)
       (try clear hb2)
       (try clear hk)
       (try clear hi)
       refine hK.out _ _ ⟨(blk_cell BK375.out 0).trans rfl, (blk_cell BK375.out 1).trans rfl, (blk_cell BK375.out 2).trans rfl, (blk_cell BK353.out 0).trans rfl, (blk_cell BK353.out 1).trans rfl, (blk_cell BK353.out 2).trans rfl, (blk_cell BK353.out 3).trans rfl⟩ (fun hHeld => ?_)
       clear hK K
       refine normq 52 ?_
       refine pureq (i := 9) (N := some 53) #[true, true, true, true, true, true, true, true, true, true, false] rfl rfl HT_.out ?_
       refine pureq (i := 10) (N := some 54) #[true, true, true, true, true, true, true, true, true, true, true] rfl rfl HT_.out ?_
       refine done_ (done_of HT_.out (by kernel_rfl)) ?_
       try go_wp2
       go_meet
       case rel => exact ⟨_, ((t377.toList == t378.toList)), rfq, H', ⟨by have := HJ5.out; first | omega | exact Nat.le_refl _⟩, ⟨by refine roq ?_; exact HO_368000.out⟩, ⟨by refine roq ?_; exact HO_368002.out⟩, ⟨by refine qoq ?_; exact HO_368003.out⟩, ⟨by refine roq ?_; exact HO370.out⟩, ⟨by refine roq ?_; exact HO374.out⟩, ⟨by refine bkq ?_; exact BK353.out⟩, ⟨by refine bkq ?_; exact BK354.out⟩, ⟨by refine bkq ?_; exact BK355.out⟩, ⟨by refine bkq ?_; exact BK367.out⟩, ⟨by refine bkq ?_; exact BK375.out⟩, ⟨hbqa HB.out⟩⟩
      ·replace c56 := Bool.eq_false_iff.mpr c56
       subst c56
       have H1 : (spec_DeskDo.j1 kj5 true t357 t360 t361 t364 t368 t371 t372) = some (r1, r2, r3, r4, r5) := by rw [if_neg (show ¬ (false = true) by decide)] at H; exact H
       clear H
       have H := H1
       clear H1
       have H' := Aside0.mk H
       clear H
       try go_wp2
       have n0_ : Aside0 (Kd.R (Kd.int .i64) 3 (((w47.setCell ⟨gb375, 0, none⟩ (.slice Ao48 t368.length co48)).setCell ⟨gb375, 1, none⟩ (.int .i64 t371)).setCell ⟨gb375, 2, none⟩ (.slice Ao54 t372.length co54)) w.heap.size (fun k_ => some k_ ≠ (.slice Ao22 t361.length co22 : Value).ownBlock ∧ some k_ ≠ (.slice Ao48 t368.length co48 : Value).ownBlock ∧ some k_ ≠ (.slice Ao54 t372.length co54 : Value).ownBlock) (.slice Ao17 t357.length co17) t357) := ⟨by refine roq ?_; exact Kd.R_mono (Kd.R_far (p := ⟨gb375, 2, none⟩) (Kd.R_far (p := ⟨gb375, 1, none⟩) (Kd.R_far (p := ⟨gb375, 0, none⟩) (Kd.R_types HO_368000.out BK375.out (by decide)) (fun _ hk => hk.2) (.slice Ao48 t368.length co48)) (fun _ hk => hk.2) (.int .i64 t371)) (fun _ hk => hk.2) (.slice Ao54 t372.length co54)) (fun _ hk => ⟨hk.1.1.1, ⟨hk.1.1.2, hk.1.2⟩⟩)⟩
       have n1_ : Aside0 (Kd.R (Kd.int .i64) 3 (((w47.setCell ⟨gb375, 0, none⟩ (.slice Ao48 t368.length co48)).setCell ⟨gb375, 1, none⟩ (.int .i64 t371)).setCell ⟨gb375, 2, none⟩ (.slice Ao54 t372.length co54)) w.heap.size (fun k_ => some k_ ≠ (.slice Ao17 t357.length co17 : Value).ownBlock ∧ some k_ ≠ (.slice Ao48 t368.length co48 : Value).ownBlock ∧ some k_ ≠ (.slice Ao54 t372.length co54 : Value).ownBlock) (.slice Ao22 t361.length co22) t361) := ⟨by refine roq ?_; exact Kd.R_mono (Kd.R_far (p := ⟨gb375, 2, none⟩) (Kd.R_far (p := ⟨gb375, 1, none⟩) (Kd.R_far (p := ⟨gb375, 0, none⟩) (Kd.R_types HO_368002.out BK375.out (by decide)) (fun _ hk => hk.2) (.slice Ao48 t368.length co48)) (fun _ hk => hk.2) (.int .i64 t371)) (fun _ hk => hk.2) (.slice Ao54 t372.length co54)) (fun _ hk => ⟨hk.1.1.1, ⟨hk.1.1.2, hk.1.2⟩⟩)⟩
       have n2_ : Aside0 (Kd.Q k26 26 (((w47.setCell ⟨gb375, 0, none⟩ (.slice Ao48 t368.length co48)).setCell ⟨gb375, 1, none⟩ (.int .i64 t371)).setCell ⟨gb375, 2, none⟩ (.slice Ao54 t372.length co54)) w.heap.size (fun k_ => some k_ ≠ (.slice Ao17 t357.length co17 : Value).ownBlock ∧ some k_ ≠ (.slice Ao22 t361.length co22 : Value).ownBlock ∧ some k_ ≠ (.slice Ao48 t368.length co48 : Value).ownBlock ∧ some k_ ≠ (.slice Ao54 t372.length co54 : Value).ownBlock ∧ k_ ≠ gb375) (.slice Ao23 t364.length co23) t364) := ⟨by refine qoq ?_; exact Kd.Q_mono (Kd.Q_far (p := ⟨gb375, 2, none⟩) (Kd.Q_far (p := ⟨gb375, 1, none⟩) (Kd.Q_far (p := ⟨gb375, 0, none⟩) (Kd.Q_mono HO_368003.out (fun k_ hk => (⟨hk, hk.2⟩ : _ ∧ k_ ≠ gb375))) (fun _ hk => hk.2) (.slice Ao48 t368.length co48)) (fun _ hk => hk.2) (.int .i64 t371)) (fun _ hk => hk.2) (.slice Ao54 t372.length co54)) (fun _ hk => ⟨hk.1.1.1.1.1, ⟨hk.1.1.1.1.2, ⟨hk.1.1.1.2, ⟨hk.1.1.2, hk.1.2⟩⟩⟩⟩)⟩
       have n3_ : Aside0 (Kd.R (Kd.int .i64) 3 (((w47.setCell ⟨gb375, 0, none⟩ (.slice Ao48 t368.length co48)).setCell ⟨gb375, 1, none⟩ (.int .i64 t371)).setCell ⟨gb375, 2, none⟩ (.slice Ao54 t372.length co54)) w.heap.size (fun k_ => some k_ ≠ (.slice Ao17 t357.length co17 : Value).ownBlock ∧ some k_ ≠ (.slice Ao22 t361.length co22 : Value).ownBlock ∧ some k_ ≠ (.slice Ao54 t372.length co54 : Value).ownBlock) (.slice Ao48 t368.length co48) t368) := ⟨by refine roq ?_; exact Kd.R_mono (Kd.R_far (p := ⟨gb375, 2, none⟩) (Kd.R_far (p := ⟨gb375, 1, none⟩) (Kd.R_far (p := ⟨gb375, 0, none⟩) (Kd.R_types HO370.out BK375.out (by decide)) (fun _ hk => hk.2) (.slice Ao48 t368.length co48)) (fun _ hk => hk.2) (.int .i64 t371)) (fun _ hk => hk.2) (.slice Ao54 t372.length co54)) (fun _ hk => ⟨hk.1.1.2, ⟨hk.1.2, hk.1.1.1⟩⟩)⟩
       have n4_ : Aside0 (Kd.R (Kd.int .i64) 3 (((w47.setCell ⟨gb375, 0, none⟩ (.slice Ao48 t368.length co48)).setCell ⟨gb375, 1, none⟩ (.int .i64 t371)).setCell ⟨gb375, 2, none⟩ (.slice Ao54 t372.length co54)) w.heap.size (fun k_ => some k_ ≠ (.slice Ao17 t357.length co17 : Value).ownBlock ∧ some k_ ≠ (.slice Ao22 t361.length co22 : Value).ownBlock ∧ some k_ ≠ (.slice Ao48 t368.length co48 : Value).ownBlock) (.slice Ao54 t372.length co54) t372) := ⟨by refine roq ?_; exact Kd.R_mono (Kd.R_far (p := ⟨gb375, 2, none⟩) (Kd.R_far (p := ⟨gb375, 1, none⟩) (Kd.R_far (p := ⟨gb375, 0, none⟩) (Kd.R_types HO374.out BK375.out (by decide)) (fun _ hk => hk.2) (.slice Ao48 t368.length co48)) (fun _ hk => hk.2) (.int .i64 t371)) (fun _ hk => hk.2) (.slice Ao54 t372.length co54)) (fun _ hk => ⟨hk.1.1.2, ⟨hk.1.2, hk.1.1.1⟩⟩)⟩
       have n5_ : Aside0 ((((w47.setCell ⟨gb375, 0, none⟩ (.slice Ao48 t368.length co48)).setCell ⟨gb375, 1, none⟩ (.int .i64 t371)).setCell ⟨gb375, 2, none⟩ (.slice Ao54 t372.length co54)).heap[gb353]? = some (.cells #[.slice A0_0 l0_0.length c0_0, .int .i64 a0_1, .slice A0_2 l0_2.length c0_2, .slice A0_3 l0_3.length c0_3] 29 (0, 0))) := ⟨by refine bkq ?_; refine blk_far ?_ NB353_375.out _; refine bkq ?_; refine blk_far ?_ NB353_375.out _; refine bkq ?_; refine blk_far ?_ NB353_375.out _; refine bkq ?_; exact BK353.out⟩
       have n6_ : Aside0 ((((w47.setCell ⟨gb375, 0, none⟩ (.slice Ao48 t368.length co48)).setCell ⟨gb375, 1, none⟩ (.int .i64 t371)).setCell ⟨gb375, 2, none⟩ (.slice Ao54 t372.length co54)).heap[gb354]? = some (.cells #[.int .i64 a1_0, .int .i64 a1_1, .int .i64 a1_2] 81 (0, 0))) := ⟨by refine bkq ?_; refine blk_far ?_ NB354_375.out _; refine bkq ?_; refine blk_far ?_ NB354_375.out _; refine bkq ?_; refine blk_far ?_ NB354_375.out _; refine bkq ?_; exact BK354.out⟩
       have n7_ : Aside0 ((((w47.setCell ⟨gb375, 0, none⟩ (.slice Ao48 t368.length co48)).setCell ⟨gb375, 1, none⟩ (.int .i64 t371)).setCell ⟨gb375, 2, none⟩ (.slice Ao54 t372.length co54)).heap[gb355]? = some (.cells #[.slice none 0 0, .int .i64 0, .slice none 0 0, .slice none 0 0] 29 (0, 0))) := ⟨by refine bkq ?_; refine blk_far ?_ NB355_375.out _; refine bkq ?_; refine blk_far ?_ NB355_375.out _; refine bkq ?_; refine blk_far ?_ NB355_375.out _; refine bkq ?_; exact BK355.out⟩
       have n8_ : Aside0 ((((w47.setCell ⟨gb375, 0, none⟩ (.slice Ao48 t368.length co48)).setCell ⟨gb375, 1, none⟩ (.int .i64 t371)).setCell ⟨gb375, 2, none⟩ (.slice Ao54 t372.length co54)).heap[gb367]? = some (.cells #[.slice Ao17 t357.length co17, .int .i64 t360, .slice Ao22 t361.length co22, .slice Ao23 t364.length co23] 29 (0, 0))) := ⟨by refine bkq ?_; refine blk_far ?_ NB367_375.out _; refine bkq ?_; refine blk_far ?_ NB367_375.out _; refine bkq ?_; refine blk_far ?_ NB367_375.out _; refine bkq ?_; exact BK367.out⟩
       have n9_ : Aside0 ((((w47.setCell ⟨gb375, 0, none⟩ (.slice Ao48 t368.length co48)).setCell ⟨gb375, 1, none⟩ (.int .i64 t371)).setCell ⟨gb375, 2, none⟩ (.slice Ao54 t372.length co54)).heap[gb375]? = some (.cells #[.slice Ao48 t368.length co48, .int .i64 t371, .slice Ao54 t372.length co54] 26 (0, 0))) := ⟨by refine bkq ?_; refine blk_put (cs := #[.slice Ao48 t368.length co48, .int .i64 t371, .slice none 0 0]) ?_ 2 _ rfl; refine bkq ?_; refine blk_put (cs := #[.slice Ao48 t368.length co48, .int .i64 0, .slice none 0 0]) ?_ 1 _ rfl; refine bkq ?_; refine blk_put (cs := #[.slice none 0 0, .int .i64 0, .slice none 0 0]) ?_ 0 _ rfl; refine bkq ?_; exact BK375.out⟩
       have n10_ : Aside0 (Below w.heap.size w (((w47.setCell ⟨gb375, 0, none⟩ (.slice Ao48 t368.length co48)).setCell ⟨gb375, 1, none⟩ (.int .i64 t371)).setCell ⟨gb375, 2, none⟩ (.slice Ao54 t372.length co54))) := ⟨hbqa HB.out⟩
       (try clear HO_368000)
       (try clear HO_368002)
       (try clear HO_368003)
       (try clear HO370)
       (try clear HO374)
       (try clear BK353)
       (try clear BK354)
       (try clear BK355)
       (try clear BK367)
       (try clear BK375)
       (try clear HB)
       generalize (((w47.setCell ⟨gb375, 0, none⟩ (.slice Ao48 t368.length co48)).setCell ⟨gb375, 1, none⟩ (.int .i64 t371)).setCell ⟨gb375, 2, none⟩ (.slice Ao54 t372.length co54)) = w64 at n0_ n1_ n2_ n3_ n4_ n5_ n6_ n7_ n8_ n9_ n10_ ⊢
       have HO_368000 := n0_
       have HO_368002 := n1_
       have HO_368003 := n2_
       have HO370 := n3_
       have HO374 := n4_
       have BK353 := n5_
       have BK354 := n6_
       have BK355 := n7_
       have BK367 := n8_
       have BK375 := n9_
       have HB := n10_
       clear n0_ n1_ n2_ n3_ n4_ n5_ n6_ n7_ n8_ n9_ n10_
       have n0_ := Aside0.mk (Kd.R_drew HO_368000.out)
       have n1_ := Aside0.mk (Kd.R_drew HO_368002.out)
       have n2_ := Aside0.mk (Kd.Q_drew HO_368003.out)
       have n3_ := Aside0.mk (Kd.R_drew HO370.out)
       have n4_ := Aside0.mk (Kd.R_drew HO374.out)
       have n5_ := Aside0.mk (blk_drew BK353.out)
       have n6_ := Aside0.mk (blk_drew BK354.out)
       have n7_ := Aside0.mk (blk_drew BK355.out)
       have n8_ := Aside0.mk (blk_drew BK367.out)
       have n9_ := Aside0.mk (blk_drew BK375.out)
       have n10_ := Aside0.mk (below_drew1 HB.out)
       clear HO_368000 HO_368002 HO_368003 HO370 HO374 BK353 BK354 BK355 BK367 BK375 HB
       revert n0_ n1_ n2_ n3_ n4_ n5_ n6_ n7_ n8_ n9_ n10_
       intro HO_368000 HO_368002 HO_368003 HO370 HO374 BK353 BK354 BK355 BK367 BK375 HB
       refine start_ (n := 11) (S := fun w' => w'.cell? ⟨gb375, 0, none⟩ = some (.slice Ao48 t368.length co48) ∧ w'.cell? ⟨gb375, 1, none⟩ = some (.int .i64 t371) ∧ w'.cell? ⟨gb375, 2, none⟩ = some (.slice Ao54 t372.length co54)) (ds := []) #[false, false, false, false, false, false, false, false, false, false, false] (by kernel_rfl) rfl rfl ⟨(blk_cell BK375.out 0).trans rfl, (blk_cell BK375.out 1).trans rfl, (blk_cell BK375.out 2).trans rfl⟩ (fun hHeld => ?_); refine with_tabW spec_DeskDo.tab10 spec_DeskDo.bits10 (fun HT_ HW_ => ?_)
       generalize w64.drew = w65 at HO_368000 HO_368002 HO_368003 HO370 HO374 BK353 BK354 BK355 BK367 BK375 HB hHeld ⊢
       refine take_ (i := 0) (N := some 44) (v := ?_) (a' := ?_) #[true, false, false, false, false, false, false, false, false, false, false] rfl rfl (take_ofW HT_.out HW_.out (by kernel_rfl)) (fun _ _ _ h => h) (Or.inl ⟨by rfl, ?_⟩) hHeld ?_ ?_
       rotate_left
       ·rintro w' ⟨s0, s1, s2⟩
        go_simp
        with_reducible rfl
       rotate_left
       ·simp only [Act.put, List.setIfInBounds_toArray, List.set_cons_zero, List.set_cons_succ, i64_w, i32_w]
        rfl
       refine one_ (i := 1) (N := some 45) #[true, true, false, false, false, false, false, false, false, false, false] rfl rfl (one_of HT_.out (by kernel_rfl)) (by decide) (fun K hK => ?_)
       refine goes_ Try.func33 (by kernel_rfl) rfl #[.agg #[.slice Ao48 t368.length co48, .int .i64 t371, .slice Ao54 t372.length co54]] (by rfl) rfl rfl mpq ?_
       with_reducible refine (spec_PlaceOk.calls kj5 _ _ t368 t371 _ _ t372 false _ ?side1 ?side2 ?side3 ?side4 A55.out).mono ?_
       (case side1 => exact coq ((Kd.R_reads' HO370.out).2.2))
       (case side2 => exact (Kd.R_reads' HO370.out).2.1)
       (case side3 => exact coq ((Kd.R_reads' HO374.out).2.2))
       (case side4 => exact (Kd.R_reads' HO374.out).2.1)
       rintro e w66 ⟨rfl, hb⟩
       refine ⟨_, rfl, ?_⟩
       have n0_ := Aside0.mk (Kd.R_below (roq HO_368000.out) hb)
       have n1_ := Aside0.mk (Kd.R_below (roq HO_368002.out) hb)
       have n2_ := Aside0.mk (Kd.Q_below (qoq HO_368003.out) hb)
       have n3_ := Aside0.mk (Kd.R_below (roq HO370.out) hb)
       have n4_ := Aside0.mk (Kd.R_below (roq HO374.out) hb)
       have n5_ := Aside0.mk (blk_below (bkq BK353.out) hb)
       have n6_ := Aside0.mk (blk_below (bkq BK354.out) hb)
       have n7_ := Aside0.mk (blk_below (bkq BK355.out) hb)
       have n8_ := Aside0.mk (blk_below (bkq BK367.out) hb)
       have n9_ := Aside0.mk (blk_below (bkq BK375.out) hb)
       have n10_ := Aside0.mk (below_step (hbqa HB.out) hb)
       clear HO_368000 HO_368002 HO_368003 HO370 HO374 BK353 BK354 BK355 BK367 BK375 HB
       revert n0_ n1_ n2_ n3_ n4_ n5_ n6_ n7_ n8_ n9_ n10_
       intro HO_368000 HO_368002 HO_368003 HO370 HO374 BK353 BK354 BK355 BK367 BK375 HB
       (try clear hb)
       (try clear hb2)
       (try clear hk)
       (try clear hi)
       refine hK.out _ _ ⟨(blk_cell BK375.out 0).trans rfl, (blk_cell BK375.out 1).trans rfl, (blk_cell BK375.out 2).trans rfl⟩ (fun hHeld => ?_)
       clear hK K
       refine normq 45 ?_
       refine pureq (i := 2) (N := some 46) #[true, true, true, false, false, false, false, false, false, false, false] rfl rfl HT_.out ?_
       refine pureq (i := 3) (N := some 47) #[true, true, true, true, false, false, false, false, false, false, false] rfl rfl HT_.out ?_
       refine pure_ (i := 4) (N := some 48) (v := undef) (a' := ?_) #[true, true, true, true, true, false, false, false, false, false, false] rfl rfl (any_of HT_.out (by kernel_rfl)) (fun _ _ _ h => h) (Or.inr ⟨by rfl, rfl⟩) ?_ ?_
       rotate_left
       ·simp only [Act.put, List.setIfInBounds_toArray, List.set_cons_zero, List.set_cons_succ, i64_w, i32_w]
        rfl
       refine pure_ (i := 5) (N := some 49) (v := undef) (a' := ?_) #[true, true, true, true, true, true, false, false, false, false, false] rfl rfl (any_of HT_.out (by kernel_rfl)) (fun _ _ _ h => h) (Or.inr ⟨by rfl, rfl⟩) ?_ ?_
       rotate_left
       ·simp only [Act.put, List.setIfInBounds_toArray, List.set_cons_zero, List.set_cons_succ, i64_w, i32_w]
        rfl
       refine pure_ (i := 6) (N := some 50) (v := undef) (a' := ?_) #[true, true, true, true, true, true, true, false, false, false, false] rfl rfl (any_of HT_.out (by kernel_rfl)) (fun _ _ _ h => h) (Or.inr ⟨by rfl, rfl⟩) ?_ ?_
       rotate_left
       ·simp only [Act.put, List.setIfInBounds_toArray, List.set_cons_zero, List.set_cons_succ, i64_w, i32_w]
        rfl
       refine pure_ (i := 7) (N := some 51) (v := undef) (a' := ?_) #[true, true, true, true, true, true, true, true, false, false, false] rfl rfl (any_of HT_.out (by kernel_rfl)) (fun _ _ _ h => h) (Or.inr ⟨by rfl, rfl⟩) ?_ ?_
       rotate_left
       ·simp only [Act.put, List.setIfInBounds_toArray, List.set_cons_zero, List.set_cons_succ, i64_w, i32_w]
        rfl
       refine pure_ (i := 8) (N := some 52) (v := undef) (a' := ?_) #[true, true, true, true, true, true, true, true, true, false, false] rfl rfl (any_of HT_.out (by kernel_rfl)) (fun _ _ _ h => h) (Or.inr ⟨by rfl, rfl⟩) ?_ ?_
       rotate_left
       ·simp only [Act.put, List.setIfInBounds_toArray, List.set_cons_zero, List.set_cons_succ, i64_w, i32_w]
        rfl
       refine pure_ (i := 9) (N := some 53) (v := undef) (a' := ?_) #[true, true, true, true, true, true, true, true, true, true, false] rfl rfl (any_of HT_.out (by kernel_rfl)) (fun _ _ _ h => h) (Or.inr ⟨by rfl, rfl⟩) ?_ ?_
       rotate_left
       ·simp only [Act.put, List.setIfInBounds_toArray, List.set_cons_zero, List.set_cons_succ, i64_w, i32_w]
        rfl
       refine pureq (i := 10) (N := some 54) #[true, true, true, true, true, true, true, true, true, true, true] rfl rfl HT_.out ?_
       refine done_ (done_of HT_.out (by kernel_rfl)) ?_
       try go_wp2
       go_meet
       case rel => exact ⟨_, (true), rfq, H', ⟨by have := HJ5.out; first | omega | exact Nat.le_refl _⟩, ⟨by refine roq ?_; exact HO_368000.out⟩, ⟨by refine roq ?_; exact HO_368002.out⟩, ⟨by refine qoq ?_; exact HO_368003.out⟩, ⟨by refine roq ?_; exact HO370.out⟩, ⟨by refine roq ?_; exact HO374.out⟩, ⟨by refine bkq ?_; exact BK353.out⟩, ⟨by refine bkq ?_; exact BK354.out⟩, ⟨by refine bkq ?_; exact BK355.out⟩, ⟨by refine bkq ?_; exact BK367.out⟩, ⟨by refine bkq ?_; exact BK375.out⟩, ⟨hbqa HB.out⟩⟩
     case rest =>
      clear HC38
      try clear p2
      try clear c3
      try clear c4
      try clear c5
      try clear c7
      try clear c33
      try clear c36
      try clear c39
      try clear c40
      try clear c41
      try clear c43
      try clear c44
      try clear c49
      try clear c50
      try clear c51
      try clear c52
      try clear c56
      try clear hcz42_0
      try clear hcz42_1
      try clear hcz42_2
      try clear hcz42_3
      try clear hcz45_0
      try clear hcz45_1
      try clear hcz45_2
      try clear hcz53_0
      try clear hcz53_1
      try clear hcz53_2
      try clear hfz14_0
      try clear hfz14_1
      try clear hfz14_2
      try clear hfz14_3
      try clear hfz21_0
      try clear hfz21_1
      try clear hfz21_2
      try clear hfz21_3
      try clear hfz28_0
      try clear hfz28_1
      try clear hfz28_2
      try clear hfz31_0
      try clear hfz31_1
      try clear hfz31_2
      try clear hfz31_3
      try clear hfz35_0
      try clear hfz35_1
      try clear hfz35_2
      try clear hfz42_0
      try clear hfz42_1
      try clear hfz42_2
      try clear hfz42_3
      try clear hfz45_0
      try clear hfz45_1
      try clear hfz45_2
      try clear hfz53_0
      try clear hfz53_1
      try clear hfz53_2
      obtain ⟨kq, x54_37, rfl, HA, HJ37, HO_368000, HO_368002, HO_368003, HO_376000, HO_376002, BK353, BK354, BK355, BK367, BK375, HB⟩ := hcut
      cases kq with
      | zero => exact absurd HA.out (by simp [spec_DeskDo.j1])
      | succ kj37 =>
       have H := HA.out
       clear HA
       simp only [spec_DeskDo.j1] at H
       by_cases c67 : x54_37 = true
       ·subst c67
        have H1 : (some (t357, t360, t361, t364, false)) = some (r1, r2, r3, r4, r5) := by rw [if_pos rfl] at H; exact H
        clear H
        have H := H1
        clear H1
        simp only [Option.some.injEq, Prod.mk.injEq] at H
        obtain ⟨rfl, rfl, rfl, rfl, rfl⟩ := H
        have hnb68 := NB367_353.out
        have hnc68 := NB353_367.out
        have hnb69 := NB367_354.out
        have hnc69 := NB354_367.out
        have hnb70 := NB367_355.out
        have hnc70 := NB355_367.out
        have hnb71 := NB367_375.out
        have hnc71 := NB375_367.out
        have hcz72_0 : wc.cell? ⟨gb367, 0, none⟩ = some (.slice Ao17 t357.length co17) := (blk_cell BK367.out 0).trans rfl
        have hcz72_1 : wc.cell? ⟨gb367, 1, none⟩ = some (.int .i64 t360) := (blk_cell BK367.out 1).trans rfl
        have hcz72_2 : wc.cell? ⟨gb367, 2, none⟩ = some (.slice Ao22 t361.length co22) := (blk_cell BK367.out 2).trans rfl
        have hcz72_3 : wc.cell? ⟨gb367, 3, none⟩ = some (.slice Ao23 t364.length co23) := (blk_cell BK367.out 3).trans rfl
        have hfz72_0 := blk_frozen BK367.out 0
        have hfz72_1 := blk_frozen BK367.out 1
        have hfz72_2 := blk_frozen BK367.out 2
        have hfz72_3 := blk_frozen BK367.out 3
        have hnb73 := NB355_353.out
        have hnc73 := NB353_355.out
        have hnb74 := NB355_354.out
        have hnc74 := NB354_355.out
        have hnb75 := NB355_375.out
        have hnc75 := NB375_355.out
        have hcz76_0 : wc.cell? ⟨gb355, 0, none⟩ = some (.slice none 0 0) := (blk_cell BK355.out 0).trans rfl
        have hcz76_1 : wc.cell? ⟨gb355, 1, none⟩ = some (.int .i64 0) := (blk_cell BK355.out 1).trans rfl
        have hcz76_2 : wc.cell? ⟨gb355, 2, none⟩ = some (.slice none 0 0) := (blk_cell BK355.out 2).trans rfl
        have hcz76_3 : wc.cell? ⟨gb355, 3, none⟩ = some (.slice none 0 0) := (blk_cell BK355.out 3).trans rfl
        have hfz76_0 := blk_frozen BK355.out 0
        have hfz76_1 := blk_frozen BK355.out 1
        have hfz76_2 := blk_frozen BK355.out 2
        have hfz76_3 := blk_frozen BK355.out 3
        go_wp2
        refine bodyPost_ret (results_ct rfl _ _ gb355 29 #[.slice Ao17 t357.length co17, .int .i64 t360, .slice Ao22 t361.length co22, .slice Ao23 t364.length co23] (0, 0) _ rfl (by refine bkq ?_; refine blk_put (cs := #[.slice Ao17 t357.length co17, .int .i64 t360, .slice Ao22 t361.length co22, .slice none 0 0]) ?_ 3 _ rfl; refine bkq ?_; refine blk_put (cs := #[.slice Ao17 t357.length co17, .int .i64 t360, .slice none 0 0, .slice none 0 0]) ?_ 2 _ rfl; refine bkq ?_; refine blk_put (cs := #[.slice Ao17 t357.length co17, .int .i64 0, .slice none 0 0, .slice none 0 0]) ?_ 1 _ rfl; refine bkq ?_; refine blk_put (cs := #[.slice none 0 0, .int .i64 0, .slice none 0 0, .slice none 0 0]) ?_ 0 _ rfl; refine bkq ?_; exact BK355.out) Try.underlying29 rfl (by kernel_rfl)) rfl ?_
        exact ⟨_, _, _, by first | rfl | (simp [errW_none, errW_some] <;> rfl) | (simp [*, errW_none, errW_some] <;> rfl), by refine roq ?_; exact Kd.R_mono (Kd.R_far (p := ⟨gb355, 3, none⟩) (Kd.R_far (p := ⟨gb355, 2, none⟩) (Kd.R_far (p := ⟨gb355, 1, none⟩) (Kd.R_far (p := ⟨gb355, 0, none⟩) (Kd.R_types HO_368000.out BK355.out (by decide)) (fun _ hk => hk.2) (.slice Ao17 t357.length co17)) (fun _ hk => hk.2) (.int .i64 t360)) (fun _ hk => hk.2) (.slice Ao22 t361.length co22)) (fun _ hk => hk.2) (.slice Ao23 t364.length co23)) (fun _ hk => hk.1.1), by refine roq ?_; exact Kd.R_mono (Kd.R_far (p := ⟨gb355, 3, none⟩) (Kd.R_far (p := ⟨gb355, 2, none⟩) (Kd.R_far (p := ⟨gb355, 1, none⟩) (Kd.R_far (p := ⟨gb355, 0, none⟩) (Kd.R_types HO_368002.out BK355.out (by decide)) (fun _ hk => hk.2) (.slice Ao17 t357.length co17)) (fun _ hk => hk.2) (.int .i64 t360)) (fun _ hk => hk.2) (.slice Ao22 t361.length co22)) (fun _ hk => hk.2) (.slice Ao23 t364.length co23)) (fun _ hk => hk.1.1), by refine qoq ?_; exact Kd.Q_mono (Kd.Q_far (p := ⟨gb355, 3, none⟩) (Kd.Q_far (p := ⟨gb355, 2, none⟩) (Kd.Q_far (p := ⟨gb355, 1, none⟩) (Kd.Q_far (p := ⟨gb355, 0, none⟩) (Kd.Q_types HO_368003.out BK355.out (by decide)) (fun _ hk => hk.2) (.slice Ao17 t357.length co17)) (fun _ hk => hk.2) (.int .i64 t360)) (fun _ hk => hk.2) (.slice Ao22 t361.length co22)) (fun _ hk => hk.2) (.slice Ao23 t364.length co23)) (fun _ hk => ⟨hk.1.1, hk.1.2.1⟩), hbqa HB.out⟩
       ·replace c67 := Bool.eq_false_iff.mpr c67
        subst c67
        have H1 : (if t364.length < 2513169434916 then ((some (t364 ++ [(⟨t357, t360, t361⟩ : S26)] : List (S26))).bind fun y379 => (if (y379.length : Int) > 8 then (if 1 ≤ (y379.length : Int) then (some (t368, t371, t372, (y379.drop (1 : Int).toNat), true)) else (none)) else (some (t368, t371, t372, y379, true)))) else (none)) = some (r1, r2, r3, r4, r5) := by rw [if_neg (show ¬ (false = true) by decide)] at H; exact H
        clear H
        have H := H1
        clear H1
        by_cases c77 : t364.length < 2513169434916
        ·rw [if_pos c77] at H
         have LMc77 := Aside0.mk c77
         clear c77
         obtain ⟨y379, hy379⟩ : ∃ y_ : List (S26), y_ = (t364 ++ [(⟨t357, t360, t361⟩ : S26)]) := ⟨_, rfl⟩
         replace H : (if (y379.length : Int) > 8 then (if 1 ≤ (y379.length : Int) then (some (t368, t371, t372, (y379.drop (1 : Int).toNat), true)) else (none)) else (some (t368, t371, t372, y379, true))) = some (r1, r2, r3, r4, r5) := by first | (rw [hy379]; with_reducible exact H) | (have H2_ := (Option.bind_some _ _).symm.trans H; rw [hy379]; with_reducible exact H2_) | (have H2_ := (Option.bind_some _ _).symm.trans H; with_reducible exact H2_) | with_reducible exact H | (rw [hy379]; exact H) | exact H
         have Ny379 := Aside0.mk hy379
         clear hy379
         by_cases c78 : (y379.length : Int) > 8
         ·rw [if_pos c78] at H
          have c78b0 : decide (8 < (y379.length : Int)) = true := decide_eq_true c78
          have c78b1 : decide (8 < y379.length) = true := decide_eq_true (by omega)
          clear c78
          by_cases c79 : 1 ≤ (y379.length : Int)
          ·rw [if_pos c79] at H
           have c79b0 := eq_true c79
           have c79b1 : decide (1 ≤ (y379.length : Int)) = true := decide_eq_true c79
           clear c79
           obtain ⟨y382, hy382⟩ : ∃ y_ : List (S26), y_ = (y379.drop (1 : Int).toNat) := ⟨_, rfl⟩
           replace H : (some (t368, t371, t372, y382, true)) = some (r1, r2, r3, r4, r5) := by first | (rw [hy382]; with_reducible exact H) | (have H2_ := (Option.bind_some _ _).symm.trans H; rw [hy382]; with_reducible exact H2_) | (have H2_ := (Option.bind_some _ _).symm.trans H; with_reducible exact H2_) | with_reducible exact H | (rw [hy382]; exact H) | exact H
           have Ny382 := Aside0.mk hy382
           clear hy382
           simp only [Option.some.injEq, Prod.mk.injEq] at H
           obtain ⟨rfl, rfl, rfl, rfl, rfl⟩ := H
           have hnb80 := NB367_353.out
           have hnc80 := NB353_367.out
           have hnb81 := NB367_354.out
           have hnc81 := NB354_367.out
           have hnb82 := NB367_355.out
           have hnc82 := NB355_367.out
           have hnb83 := NB367_375.out
           have hnc83 := NB375_367.out
           have hcz84_0 : wc.cell? ⟨gb367, 0, none⟩ = some (.slice Ao17 t357.length co17) := (blk_cell BK367.out 0).trans rfl
           have hcz84_1 : wc.cell? ⟨gb367, 1, none⟩ = some (.int .i64 t360) := (blk_cell BK367.out 1).trans rfl
           have hcz84_2 : wc.cell? ⟨gb367, 2, none⟩ = some (.slice Ao22 t361.length co22) := (blk_cell BK367.out 2).trans rfl
           have hcz84_3 : wc.cell? ⟨gb367, 3, none⟩ = some (.slice Ao23 t364.length co23) := (blk_cell BK367.out 3).trans rfl
           have hfz84_0 := blk_frozen BK367.out 0
           have hfz84_1 := blk_frozen BK367.out 1
           have hfz84_2 := blk_frozen BK367.out 2
           have hfz84_3 := blk_frozen BK367.out 3
           go_wp2_with (first | ((with_reducible refine gate_builtin (b := .append) (xs := #[.tmp 57, .tmp 60]) rfl ?_); (try (refine gate_guard (by rfl) ?_; dsimp only)); at_builtin; refine Kd.Q_append k26 (w0 := w) w.heap.size rfl (.tmp 57) (.tmp 60) 27 26 (.agg #[(.slice none 0 0), (.int .i64 0), (.slice none 0 0)]) 56 rfl Try.underlying27 info26 rfl (by decide) (by omega) (.slice Ao23 t364.length co23) t364 (⟨t357, t360, t361⟩ : S26) [.slice Ao17 t357.length co17, .int .i64 t360, .slice Ao22 t361.length co22] (fun k_ => some k_ ≠ (.slice Ao48 t368.length co48 : Value).ownBlock ∧ some k_ ≠ (.slice Ao54 t372.length co54 : Value).ownBlock ∧ k_ ≠ gb375) (fun k_ => ((fun k_ => some k_ ≠ (.slice Ao48 t368.length co48 : Value).ownBlock ∧ some k_ ≠ (.slice Ao54 t372.length co54 : Value).ownBlock ∧ k_ ≠ gb375)) k_ ∧ some k_ ≠ (.slice Ao23 t364.length co23 : Value).ownBlock) rfl rfl ?aP (fun _ hk => hk) ?aF ?aO ?aB ?aS ?aL ?_; (case aP => exact k26_mkM _ _ _ (⟨t357, t360, t361⟩ : S26) (Kd.R_mono (Kd.R_types (Kd.R_apart' (HO_368000.out) (Kd.Q_typed HO_368003.out) (by decide)) BK375.out (by decide)) (fun k_ hk => ⟨⟨hk.1.1.2.1, ⟨hk.1.1.2.2, hk.2⟩⟩, hk.1.2⟩)) (Kd.R_mono (Kd.R_types (Kd.R_apart' (HO_368002.out) (Kd.Q_typed HO_368003.out) (by decide)) BK375.out (by decide)) (fun k_ hk => ⟨⟨hk.1.1.2.1, ⟨hk.1.1.2.2, hk.2⟩⟩, hk.1.2⟩))); (case aB => exact (hbqa HB.out)); (case aF => exact (fun k_ hk => ⟨Kd.fresh' (Kd.R_lt (roq HO_376000.out)) k_ hk, Kd.fresh' (Kd.R_lt (roq HO_376002.out)) k_ hk, Kd.freshB (bkq BK375.out) k_ hk⟩)); (case aO => exact (qoq (Kd.Q_mono HO_368003.out (fun _ hk => ⟨hk.2.2.1, ⟨hk.2.2.2.1, hk.2.2.2.2⟩⟩)))); (case aS => exact (below_size (hbqa HB.out))); (case aL => have := LMc77.out; omega); intro v380 w85 ho hb hg hat; rw [← Ny379.out] at ho; have n0_ := Aside0.mk (Kd.R_over' (roq HO_376000.out) (Kd.Q_typed (qoq HO_368003.out)) (by decide) hg); have n1_ := Aside0.mk (Kd.R_over' (roq HO_376002.out) (Kd.Q_typed (qoq HO_368003.out)) (by decide) hg); have n2_ := Aside0.mk (blk_grown (bkq BK353.out) hg (Kd.Q_ne HO_368003.out BK353.out (by decide))); have n3_ := Aside0.mk (blk_grown (bkq BK354.out) hg (Kd.Q_ne HO_368003.out BK354.out (by decide))); have n4_ := Aside0.mk (blk_grown (bkq BK355.out) hg (Kd.Q_ne HO_368003.out BK355.out (by decide))); have n5_ := Aside0.mk (blk_grown (bkq BK367.out) hg (Kd.Q_ne HO_368003.out BK367.out (by decide))); have n6_ := Aside0.mk (blk_grown (bkq BK375.out) hg (Kd.Q_away HO_368003.out (fun _ hk => hk.2.2.2.2))); have n7_ := Aside0.mk (hb); have n8_ := Aside0.mk (ho); clear HO_376000 HO_376002 BK353 BK354 BK355 BK367 BK375 HB HO_368003 HO_368000 HO_368002; revert n0_ n1_ n2_ n3_ n4_ n5_ n6_ n7_ n8_; intro HO_376000 HO_376002 BK353 BK354 BK355 BK367 BK375 HB HO381; clear ho hb hg hat; obtain ⟨Ao86, co86, eo86, _⟩ := Kd.Q_slice HO381.out; subst eo86; have hcz87_0 : w85.cell? ⟨gb367, 0, none⟩ = some (.slice Ao17 t357.length co17) := (blk_cell BK367.out 0).trans rfl; have hcz87_1 : w85.cell? ⟨gb367, 1, none⟩ = some (.int .i64 t360) := (blk_cell BK367.out 1).trans rfl; have hcz87_2 : w85.cell? ⟨gb367, 2, none⟩ = some (.slice Ao22 t361.length co22) := (blk_cell BK367.out 2).trans rfl; have hcz87_3 : w85.cell? ⟨gb367, 3, none⟩ = some (.slice Ao23 t364.length co23) := (blk_cell BK367.out 3).trans rfl; have hfz87_0 := blk_frozen BK367.out 0; have hfz87_1 := blk_frozen BK367.out 1; have hfz87_2 := blk_frozen BK367.out 2; have hfz87_3 := blk_frozen BK367.out 3) | ((with_reducible refine gate_store (t := 27) (p := 62) rfl ?_); refine store_event (t := 27) (p := 62) (v := ?vo_w88) (w1 := (w85.setCell ⟨gb367, 3, none⟩ (.slice Ao86 y379.length co86))) ?hg ?ho ?hn ?hr ?_; (case ho => rfl); (case hg => rfl); (case hn => rfl); (case hr => first | (go_simp; done) | (go_simp; rfl)); intro w88 hw; have n0_ : Aside0 (Kd.R (Kd.int .i64) 3 w88 w.heap.size (fun k_ => some k_ ≠ (.slice Ao54 t372.length co54 : Value).ownBlock) (.slice Ao48 t368.length co48) t368) := ⟨(by rw [hw]; exact (roq (Kd.R_mono (Kd.R_far (p := ⟨gb367, 3, none⟩) (Kd.R_types HO_376000.out BK367.out (by decide)) (fun _ hk => hk.2) (.slice Ao86 y379.length co86)) (fun _ hk => hk.1.2.2))))⟩; have n1_ : Aside0 (Kd.R (Kd.int .i64) 3 w88 w.heap.size (fun k_ => some k_ ≠ (.slice Ao48 t368.length co48 : Value).ownBlock) (.slice Ao54 t372.length co54) t372) := ⟨(by rw [hw]; exact (roq (Kd.R_mono (Kd.R_far (p := ⟨gb367, 3, none⟩) (Kd.R_types HO_376002.out BK367.out (by decide)) (fun _ hk => hk.2) (.slice Ao86 y379.length co86)) (fun _ hk => hk.1.2.2))))⟩; have n2_ : Aside0 (Kd.Q k26 26 w88 w.heap.size (fun k_ => some k_ ≠ (.slice Ao48 t368.length co48 : Value).ownBlock ∧ some k_ ≠ (.slice Ao54 t372.length co54 : Value).ownBlock ∧ k_ ≠ gb375) (.slice Ao86 y379.length co86) y379) := ⟨(by rw [hw]; exact (qoq (Kd.Q_mono (Kd.Q_far (p := ⟨gb367, 3, none⟩) (Kd.Q_types HO381.out BK367.out (by decide)) (fun _ hk => hk.2) (.slice Ao86 y379.length co86)) (fun _ hk => ⟨hk.1.1, ⟨hk.1.2.1, hk.1.2.2⟩⟩))))⟩; have n3_ : Aside0 (w88.heap[gb353]? = some (.cells #[.slice A0_0 l0_0.length c0_0, .int .i64 a0_1, .slice A0_2 l0_2.length c0_2, .slice A0_3 l0_3.length c0_3] 29 (0, 0))) := ⟨(by rw [hw]; exact (by refine bkq ?_; refine blk_far ?_ NB353_367.out _; refine bkq ?_; exact BK353.out))⟩; have n4_ : Aside0 (w88.heap[gb354]? = some (.cells #[.int .i64 a1_0, .int .i64 a1_1, .int .i64 a1_2] 81 (0, 0))) := ⟨(by rw [hw]; exact (by refine bkq ?_; refine blk_far ?_ NB354_367.out _; refine bkq ?_; exact BK354.out))⟩; have n5_ : Aside0 (w88.heap[gb355]? = some (.cells #[.slice none 0 0, .int .i64 0, .slice none 0 0, .slice none 0 0] 29 (0, 0))) := ⟨(by rw [hw]; exact (by refine bkq ?_; refine blk_far ?_ NB355_367.out _; refine bkq ?_; exact BK355.out))⟩; have n6_ : Aside0 (w88.heap[gb367]? = some (.cells #[.slice Ao17 t357.length co17, .int .i64 t360, .slice Ao22 t361.length co22, .slice Ao86 y379.length co86] 29 (0, 0))) := ⟨(by rw [hw]; exact (by refine bkq ?_; refine blk_put (cs := #[.slice Ao17 t357.length co17, .int .i64 t360, .slice Ao22 t361.length co22, .slice Ao23 t364.length co23]) ?_ 3 _ rfl; refine bkq ?_; exact BK367.out))⟩; have n7_ : Aside0 (w88.heap[gb375]? = some (.cells #[.slice Ao48 t368.length co48, .int .i64 t371, .slice Ao54 t372.length co54] 26 (0, 0))) := ⟨(by rw [hw]; exact (by refine bkq ?_; refine blk_far ?_ NB375_367.out _; refine bkq ?_; exact BK375.out))⟩; have n8_ : Aside0 (Below w.heap.size w w88) := ⟨(by rw [hw]; exact (hbqa HB.out))⟩; clear hw HO_376000 HO_376002 HO381 BK353 BK354 BK355 BK367 BK375 HB; revert n0_ n1_ n2_ n3_ n4_ n5_ n6_ n7_ n8_; intro HO_376000 HO_376002 HO381 BK353 BK354 BK355 BK367 BK375 HB; have hcz89_0 : w88.cell? ⟨gb367, 0, none⟩ = some (.slice Ao17 t357.length co17) := (blk_cell BK367.out 0).trans rfl; have hcz89_1 : w88.cell? ⟨gb367, 1, none⟩ = some (.int .i64 t360) := (blk_cell BK367.out 1).trans rfl; have hcz89_2 : w88.cell? ⟨gb367, 2, none⟩ = some (.slice Ao22 t361.length co22) := (blk_cell BK367.out 2).trans rfl; have hcz89_3 : w88.cell? ⟨gb367, 3, none⟩ = some (.slice Ao86 y379.length co86) := (blk_cell BK367.out 3).trans rfl; have hfz89_0 := blk_frozen BK367.out 0; have hfz89_1 := blk_frozen BK367.out 1; have hfz89_2 := blk_frozen BK367.out 2; have hfz89_3 := blk_frozen BK367.out 3; have q90 : (1 : Int) ≤ ((y379.length : Int) : Int) := od; obtain ⟨i090, hi090, _, hsz90, _⟩ := info_parts info26; have hcut90 := cut_from (P := Try.prog) 27 26 .i64 Try.underlying27 hi090 3 hsz90 Ao86 y379.length co86 1 (by omega) q90; have hr90 := Kd.Q_drop (k := (1 : Int).toNat) HO381.out (by omega); obtain ⟨A90, hA90⟩ : ∃ A1, A1 = (if co86 = (1 : Int).toNat then Ao86 else (Ao86 : Option Addr).map (·.add ((1 : Int).toNat * 3))) := ⟨_, rfl⟩; obtain ⟨c90, hc90⟩ : ∃ c1, c1 = co86 - (1 : Int).toNat := ⟨_, rfl⟩; have hy90 : y382.length = y379.length - (1 : Int).toNat := (by rw [Ny382.out, List.length_drop]); rw [← Ny382.out] at hr90; rw [← hy90, ← hA90, ← hc90] at hcut90; replace hr90 : Kd.Q k26 26 w88 w.heap.size (fun k_ => some k_ ≠ (.slice Ao48 t368.length co48 : Value).ownBlock ∧ some k_ ≠ (.slice Ao54 t372.length co54 : Value).ownBlock ∧ k_ ≠ gb375) (.slice A90 y382.length c90) y382 := (by rw [hA90, hc90, hy90]; exact hr90); have HE90 : Aside0 ((Value.slice A90 y382.length c90).ownBlock = (.slice Ao86 y379.length co86 : Value).ownBlock) := ⟨by rw [hA90]; split <;> (cases (Ao86 : Option Addr) <;> rfl)⟩; clear hy90 hi090 hsz90 HO381 hA90 hc90; have HO384 := Aside0.mk hr90; clear hr90; replace q90 := eq_true q90; have hnb91 := NB375_353.out; have hnc91 := NB353_375.out; have hnb92 := NB375_354.out; have hnc92 := NB354_375.out; have hnb93 := NB375_355.out; have hnc93 := NB355_375.out; have hcz94_0 : w88.cell? ⟨gb375, 0, none⟩ = some (.slice Ao48 t368.length co48) := (blk_cell BK375.out 0).trans rfl; have hcz94_1 : w88.cell? ⟨gb375, 1, none⟩ = some (.int .i64 t371) := (blk_cell BK375.out 1).trans rfl; have hcz94_2 : w88.cell? ⟨gb375, 2, none⟩ = some (.slice Ao54 t372.length co54) := (blk_cell BK375.out 2).trans rfl; have hfz94_0 := blk_frozen BK375.out 0; have hfz94_1 := blk_frozen BK375.out 1; have hfz94_2 := blk_frozen BK375.out 2; have hnb95 := NB355_353.out; have hnc95 := NB353_355.out; have hnb96 := NB355_354.out; have hnc96 := NB354_355.out; have hcz97_0 : w88.cell? ⟨gb355, 0, none⟩ = some (.slice none 0 0) := (blk_cell BK355.out 0).trans rfl; have hcz97_1 : w88.cell? ⟨gb355, 1, none⟩ = some (.int .i64 0) := (blk_cell BK355.out 1).trans rfl; have hcz97_2 : w88.cell? ⟨gb355, 2, none⟩ = some (.slice none 0 0) := (blk_cell BK355.out 2).trans rfl; have hcz97_3 : w88.cell? ⟨gb355, 3, none⟩ = some (.slice none 0 0) := (blk_cell BK355.out 3).trans rfl; have hfz97_0 := blk_frozen BK355.out 0; have hfz97_1 := blk_frozen BK355.out 1; have hfz97_2 := blk_frozen BK355.out 2; have hfz97_3 := blk_frozen BK355.out 3))
           refine bodyPost_ret (results_ct rfl _ _ gb355 29 #[.slice Ao48 t368.length co48, .int .i64 t371, .slice Ao54 t372.length co54, .slice A90 y382.length c90] (0, 0) _ rfl (by refine bkq ?_; refine blk_put (cs := #[.slice Ao48 t368.length co48, .int .i64 t371, .slice Ao54 t372.length co54, .slice none 0 0]) ?_ 3 _ rfl; refine bkq ?_; refine blk_put (cs := #[.slice Ao48 t368.length co48, .int .i64 t371, .slice none 0 0, .slice none 0 0]) ?_ 2 _ rfl; refine bkq ?_; refine blk_put (cs := #[.slice Ao48 t368.length co48, .int .i64 0, .slice none 0 0, .slice none 0 0]) ?_ 1 _ rfl; refine bkq ?_; refine blk_put (cs := #[.slice none 0 0, .int .i64 0, .slice none 0 0, .slice none 0 0]) ?_ 0 _ rfl; refine bkq ?_; refine blk_far ?_ NB355_367.out _; refine bkq ?_; refine blk_far ?_ NB355_367.out _; refine bkq ?_; refine blk_far ?_ NB355_367.out _; refine bkq ?_; refine blk_far ?_ NB355_367.out _; refine bkq ?_; exact BK355.out) Try.underlying29 rfl (by kernel_rfl)) rfl ?_
           exact ⟨_, _, _, by first | rfl | (simp [errW_none, errW_some] <;> rfl) | (simp [*, errW_none, errW_some] <;> rfl), by refine roq ?_; exact Kd.R_mono (Kd.R_far (p := ⟨gb355, 3, none⟩) (Kd.R_far (p := ⟨gb355, 2, none⟩) (Kd.R_far (p := ⟨gb355, 1, none⟩) (Kd.R_far (p := ⟨gb355, 0, none⟩) (Kd.R_far (p := ⟨gb367, 2, none⟩) (Kd.R_far (p := ⟨gb367, 1, none⟩) (Kd.R_far (p := ⟨gb367, 0, none⟩) (Kd.R_far (p := ⟨gb367, 3, none⟩) (Kd.R_types (Kd.R_types HO_376000.out BK367.out (by decide)) BK355.out (by decide)) (fun _ hk => hk.1.2) (.slice A90 y382.length c90)) (fun _ hk => hk.1.2) (.slice Ao48 t368.length co48)) (fun _ hk => hk.1.2) (.int .i64 t371)) (fun _ hk => hk.1.2) (.slice Ao54 t372.length co54)) (fun _ hk => hk.2) (.slice Ao48 t368.length co48)) (fun _ hk => hk.2) (.int .i64 t371)) (fun _ hk => hk.2) (.slice Ao54 t372.length co54)) (fun _ hk => hk.2) (.slice A90 y382.length c90)) (fun _ hk => hk.1.1), by refine roq ?_; exact Kd.R_mono (Kd.R_far (p := ⟨gb355, 3, none⟩) (Kd.R_far (p := ⟨gb355, 2, none⟩) (Kd.R_far (p := ⟨gb355, 1, none⟩) (Kd.R_far (p := ⟨gb355, 0, none⟩) (Kd.R_far (p := ⟨gb367, 2, none⟩) (Kd.R_far (p := ⟨gb367, 1, none⟩) (Kd.R_far (p := ⟨gb367, 0, none⟩) (Kd.R_far (p := ⟨gb367, 3, none⟩) (Kd.R_types (Kd.R_types HO_376002.out BK367.out (by decide)) BK355.out (by decide)) (fun _ hk => hk.1.2) (.slice A90 y382.length c90)) (fun _ hk => hk.1.2) (.slice Ao48 t368.length co48)) (fun _ hk => hk.1.2) (.int .i64 t371)) (fun _ hk => hk.1.2) (.slice Ao54 t372.length co54)) (fun _ hk => hk.2) (.slice Ao48 t368.length co48)) (fun _ hk => hk.2) (.int .i64 t371)) (fun _ hk => hk.2) (.slice Ao54 t372.length co54)) (fun _ hk => hk.2) (.slice A90 y382.length c90)) (fun _ hk => hk.1.1), by refine qoq ?_; exact Kd.Q_mono (Kd.Q_far (p := ⟨gb355, 3, none⟩) (Kd.Q_far (p := ⟨gb355, 2, none⟩) (Kd.Q_far (p := ⟨gb355, 1, none⟩) (Kd.Q_far (p := ⟨gb355, 0, none⟩) (Kd.Q_far (p := ⟨gb367, 2, none⟩) (Kd.Q_far (p := ⟨gb367, 1, none⟩) (Kd.Q_far (p := ⟨gb367, 0, none⟩) (Kd.Q_far (p := ⟨gb367, 3, none⟩) (Kd.Q_types (Kd.Q_types HO384.out BK367.out (by decide)) BK355.out (by decide)) (fun _ hk => hk.1.2) (.slice A90 y382.length c90)) (fun _ hk => hk.1.2) (.slice Ao48 t368.length co48)) (fun _ hk => hk.1.2) (.int .i64 t371)) (fun _ hk => hk.1.2) (.slice Ao54 t372.length co54)) (fun _ hk => hk.2) (.slice Ao48 t368.length co48)) (fun _ hk => hk.2) (.int .i64 t371)) (fun _ hk => hk.2) (.slice Ao54 t372.length co54)) (fun _ hk => hk.2) (.slice A90 y382.length c90)) (fun _ hk => ⟨hk.1.1.1, hk.1.1.2.1⟩), hbqa HB.out⟩
          ·rw [if_neg c79] at H
           exact absurd H (by simp)
         ·rw [if_neg c78] at H
          have c78b0 : decide (8 < (y379.length : Int)) = false := decide_eq_false c78
          have c78b1 : decide (8 < y379.length) = false := decide_eq_false (by omega)
          clear c78
          simp only [Option.some.injEq, Prod.mk.injEq] at H
          obtain ⟨rfl, rfl, rfl, rfl, rfl⟩ := H
          have hnb98 := NB367_353.out
          have hnc98 := NB353_367.out
          have hnb99 := NB367_354.out
          have hnc99 := NB354_367.out
          have hnb100 := NB367_355.out
          have hnc100 := NB355_367.out
          have hnb101 := NB367_375.out
          have hnc101 := NB375_367.out
          have hcz102_0 : wc.cell? ⟨gb367, 0, none⟩ = some (.slice Ao17 t357.length co17) := (blk_cell BK367.out 0).trans rfl
          have hcz102_1 : wc.cell? ⟨gb367, 1, none⟩ = some (.int .i64 t360) := (blk_cell BK367.out 1).trans rfl
          have hcz102_2 : wc.cell? ⟨gb367, 2, none⟩ = some (.slice Ao22 t361.length co22) := (blk_cell BK367.out 2).trans rfl
          have hcz102_3 : wc.cell? ⟨gb367, 3, none⟩ = some (.slice Ao23 t364.length co23) := (blk_cell BK367.out 3).trans rfl
          have hfz102_0 := blk_frozen BK367.out 0
          have hfz102_1 := blk_frozen BK367.out 1
          have hfz102_2 := blk_frozen BK367.out 2
          have hfz102_3 := blk_frozen BK367.out 3
          go_wp2_with (first | ((with_reducible refine gate_builtin (b := .append) (xs := #[.tmp 57, .tmp 60]) rfl ?_); (try (refine gate_guard (by rfl) ?_; dsimp only)); at_builtin; refine Kd.Q_append k26 (w0 := w) w.heap.size rfl (.tmp 57) (.tmp 60) 27 26 (.agg #[(.slice none 0 0), (.int .i64 0), (.slice none 0 0)]) 56 rfl Try.underlying27 info26 rfl (by decide) (by omega) (.slice Ao23 t364.length co23) t364 (⟨t357, t360, t361⟩ : S26) [.slice Ao17 t357.length co17, .int .i64 t360, .slice Ao22 t361.length co22] (fun k_ => some k_ ≠ (.slice Ao48 t368.length co48 : Value).ownBlock ∧ some k_ ≠ (.slice Ao54 t372.length co54 : Value).ownBlock ∧ k_ ≠ gb375) (fun k_ => ((fun k_ => some k_ ≠ (.slice Ao48 t368.length co48 : Value).ownBlock ∧ some k_ ≠ (.slice Ao54 t372.length co54 : Value).ownBlock ∧ k_ ≠ gb375)) k_ ∧ some k_ ≠ (.slice Ao23 t364.length co23 : Value).ownBlock) rfl rfl ?aP (fun _ hk => hk) ?aF ?aO ?aB ?aS ?aL ?_; (case aP => exact k26_mkM _ _ _ (⟨t357, t360, t361⟩ : S26) (Kd.R_mono (Kd.R_types (Kd.R_apart' (HO_368000.out) (Kd.Q_typed HO_368003.out) (by decide)) BK375.out (by decide)) (fun k_ hk => ⟨⟨hk.1.1.2.1, ⟨hk.1.1.2.2, hk.2⟩⟩, hk.1.2⟩)) (Kd.R_mono (Kd.R_types (Kd.R_apart' (HO_368002.out) (Kd.Q_typed HO_368003.out) (by decide)) BK375.out (by decide)) (fun k_ hk => ⟨⟨hk.1.1.2.1, ⟨hk.1.1.2.2, hk.2⟩⟩, hk.1.2⟩))); (case aB => exact (hbqa HB.out)); (case aF => exact (fun k_ hk => ⟨Kd.fresh' (Kd.R_lt (roq HO_376000.out)) k_ hk, Kd.fresh' (Kd.R_lt (roq HO_376002.out)) k_ hk, Kd.freshB (bkq BK375.out) k_ hk⟩)); (case aO => exact (qoq (Kd.Q_mono HO_368003.out (fun _ hk => ⟨hk.2.2.1, ⟨hk.2.2.2.1, hk.2.2.2.2⟩⟩)))); (case aS => exact (below_size (hbqa HB.out))); (case aL => have := LMc77.out; omega); intro v380 w103 ho hb hg hat; rw [← Ny379.out] at ho; have n0_ := Aside0.mk (Kd.R_over' (roq HO_376000.out) (Kd.Q_typed (qoq HO_368003.out)) (by decide) hg); have n1_ := Aside0.mk (Kd.R_over' (roq HO_376002.out) (Kd.Q_typed (qoq HO_368003.out)) (by decide) hg); have n2_ := Aside0.mk (blk_grown (bkq BK353.out) hg (Kd.Q_ne HO_368003.out BK353.out (by decide))); have n3_ := Aside0.mk (blk_grown (bkq BK354.out) hg (Kd.Q_ne HO_368003.out BK354.out (by decide))); have n4_ := Aside0.mk (blk_grown (bkq BK355.out) hg (Kd.Q_ne HO_368003.out BK355.out (by decide))); have n5_ := Aside0.mk (blk_grown (bkq BK367.out) hg (Kd.Q_ne HO_368003.out BK367.out (by decide))); have n6_ := Aside0.mk (blk_grown (bkq BK375.out) hg (Kd.Q_away HO_368003.out (fun _ hk => hk.2.2.2.2))); have n7_ := Aside0.mk (hb); have n8_ := Aside0.mk (ho); clear HO_376000 HO_376002 BK353 BK354 BK355 BK367 BK375 HB HO_368003 HO_368000 HO_368002; revert n0_ n1_ n2_ n3_ n4_ n5_ n6_ n7_ n8_; intro HO_376000 HO_376002 BK353 BK354 BK355 BK367 BK375 HB HO381; clear ho hb hg hat; obtain ⟨Ao104, co104, eo104, _⟩ := Kd.Q_slice HO381.out; subst eo104; have hcz105_0 : w103.cell? ⟨gb367, 0, none⟩ = some (.slice Ao17 t357.length co17) := (blk_cell BK367.out 0).trans rfl; have hcz105_1 : w103.cell? ⟨gb367, 1, none⟩ = some (.int .i64 t360) := (blk_cell BK367.out 1).trans rfl; have hcz105_2 : w103.cell? ⟨gb367, 2, none⟩ = some (.slice Ao22 t361.length co22) := (blk_cell BK367.out 2).trans rfl; have hcz105_3 : w103.cell? ⟨gb367, 3, none⟩ = some (.slice Ao23 t364.length co23) := (blk_cell BK367.out 3).trans rfl; have hfz105_0 := blk_frozen BK367.out 0; have hfz105_1 := blk_frozen BK367.out 1; have hfz105_2 := blk_frozen BK367.out 2; have hfz105_3 := blk_frozen BK367.out 3; have hnb106 := NB375_353.out; have hnc106 := NB353_375.out; have hnb107 := NB375_354.out; have hnc107 := NB354_375.out; have hnb108 := NB375_355.out; have hnc108 := NB355_375.out; have hcz109_0 : w103.cell? ⟨gb375, 0, none⟩ = some (.slice Ao48 t368.length co48) := (blk_cell BK375.out 0).trans rfl; have hcz109_1 : w103.cell? ⟨gb375, 1, none⟩ = some (.int .i64 t371) := (blk_cell BK375.out 1).trans rfl; have hcz109_2 : w103.cell? ⟨gb375, 2, none⟩ = some (.slice Ao54 t372.length co54) := (blk_cell BK375.out 2).trans rfl; have hfz109_0 := blk_frozen BK375.out 0; have hfz109_1 := blk_frozen BK375.out 1; have hfz109_2 := blk_frozen BK375.out 2; have hnb110 := NB355_353.out; have hnc110 := NB353_355.out; have hnb111 := NB355_354.out; have hnc111 := NB354_355.out; have hcz112_0 : w103.cell? ⟨gb355, 0, none⟩ = some (.slice none 0 0) := (blk_cell BK355.out 0).trans rfl; have hcz112_1 : w103.cell? ⟨gb355, 1, none⟩ = some (.int .i64 0) := (blk_cell BK355.out 1).trans rfl; have hcz112_2 : w103.cell? ⟨gb355, 2, none⟩ = some (.slice none 0 0) := (blk_cell BK355.out 2).trans rfl; have hcz112_3 : w103.cell? ⟨gb355, 3, none⟩ = some (.slice none 0 0) := (blk_cell BK355.out 3).trans rfl; have hfz112_0 := blk_frozen BK355.out 0; have hfz112_1 := blk_frozen BK355.out 1; have hfz112_2 := blk_frozen BK355.out 2; have hfz112_3 := blk_frozen BK355.out 3))
          refine bodyPost_ret (results_ct rfl _ _ gb355 29 #[.slice Ao48 t368.length co48, .int .i64 t371, .slice Ao54 t372.length co54, .slice Ao104 y379.length co104] (0, 0) _ rfl (by refine bkq ?_; refine blk_put (cs := #[.slice Ao48 t368.length co48, .int .i64 t371, .slice Ao54 t372.length co54, .slice none 0 0]) ?_ 3 _ rfl; refine bkq ?_; refine blk_put (cs := #[.slice Ao48 t368.length co48, .int .i64 t371, .slice none 0 0, .slice none 0 0]) ?_ 2 _ rfl; refine bkq ?_; refine blk_put (cs := #[.slice Ao48 t368.length co48, .int .i64 0, .slice none 0 0, .slice none 0 0]) ?_ 1 _ rfl; refine bkq ?_; refine blk_put (cs := #[.slice none 0 0, .int .i64 0, .slice none 0 0, .slice none 0 0]) ?_ 0 _ rfl; refine bkq ?_; refine blk_far ?_ NB355_367.out _; refine bkq ?_; refine blk_far ?_ NB355_367.out _; refine bkq ?_; refine blk_far ?_ NB355_367.out _; refine bkq ?_; refine blk_far ?_ NB355_367.out _; refine bkq ?_; exact BK355.out) Try.underlying29 rfl (by kernel_rfl)) rfl ?_
          exact ⟨_, _, _, by first | rfl | (simp [errW_none, errW_some] <;> rfl) | (simp [*, errW_none, errW_some] <;> rfl), by refine roq ?_; exact Kd.R_mono (Kd.R_far (p := ⟨gb355, 3, none⟩) (Kd.R_far (p := ⟨gb355, 2, none⟩) (Kd.R_far (p := ⟨gb355, 1, none⟩) (Kd.R_far (p := ⟨gb355, 0, none⟩) (Kd.R_far (p := ⟨gb367, 2, none⟩) (Kd.R_far (p := ⟨gb367, 1, none⟩) (Kd.R_far (p := ⟨gb367, 0, none⟩) (Kd.R_far (p := ⟨gb367, 3, none⟩) (Kd.R_types (Kd.R_types HO_376000.out BK367.out (by decide)) BK355.out (by decide)) (fun _ hk => hk.1.2) (.slice Ao104 y379.length co104)) (fun _ hk => hk.1.2) (.slice Ao48 t368.length co48)) (fun _ hk => hk.1.2) (.int .i64 t371)) (fun _ hk => hk.1.2) (.slice Ao54 t372.length co54)) (fun _ hk => hk.2) (.slice Ao48 t368.length co48)) (fun _ hk => hk.2) (.int .i64 t371)) (fun _ hk => hk.2) (.slice Ao54 t372.length co54)) (fun _ hk => hk.2) (.slice Ao104 y379.length co104)) (fun _ hk => hk.1.1.2.2), by refine roq ?_; exact Kd.R_mono (Kd.R_far (p := ⟨gb355, 3, none⟩) (Kd.R_far (p := ⟨gb355, 2, none⟩) (Kd.R_far (p := ⟨gb355, 1, none⟩) (Kd.R_far (p := ⟨gb355, 0, none⟩) (Kd.R_far (p := ⟨gb367, 2, none⟩) (Kd.R_far (p := ⟨gb367, 1, none⟩) (Kd.R_far (p := ⟨gb367, 0, none⟩) (Kd.R_far (p := ⟨gb367, 3, none⟩) (Kd.R_types (Kd.R_types HO_376002.out BK367.out (by decide)) BK355.out (by decide)) (fun _ hk => hk.1.2) (.slice Ao104 y379.length co104)) (fun _ hk => hk.1.2) (.slice Ao48 t368.length co48)) (fun _ hk => hk.1.2) (.int .i64 t371)) (fun _ hk => hk.1.2) (.slice Ao54 t372.length co54)) (fun _ hk => hk.2) (.slice Ao48 t368.length co48)) (fun _ hk => hk.2) (.int .i64 t371)) (fun _ hk => hk.2) (.slice Ao54 t372.length co54)) (fun _ hk => hk.2) (.slice Ao104 y379.length co104)) (fun _ hk => hk.1.1.2.2), by refine qoq ?_; exact Kd.Q_mono (Kd.Q_far (p := ⟨gb355, 3, none⟩) (Kd.Q_far (p := ⟨gb355, 2, none⟩) (Kd.Q_far (p := ⟨gb355, 1, none⟩) (Kd.Q_far (p := ⟨gb355, 0, none⟩) (Kd.Q_far (p := ⟨gb367, 2, none⟩) (Kd.Q_far (p := ⟨gb367, 1, none⟩) (Kd.Q_far (p := ⟨gb367, 0, none⟩) (Kd.Q_far (p := ⟨gb367, 3, none⟩) (Kd.Q_types (Kd.Q_types HO381.out BK367.out (by decide)) BK355.out (by decide)) (fun _ hk => hk.1.2) (.slice Ao104 y379.length co104)) (fun _ hk => hk.1.2) (.slice Ao48 t368.length co48)) (fun _ hk => hk.1.2) (.int .i64 t371)) (fun _ hk => hk.1.2) (.slice Ao54 t372.length co54)) (fun _ hk => hk.2) (.slice Ao48 t368.length co48)) (fun _ hk => hk.2) (.int .i64 t371)) (fun _ hk => hk.2) (.slice Ao54 t372.length co54)) (fun _ hk => hk.2) (.slice Ao104 y379.length co104)) (fun _ hk => ⟨hk.1.1.1, hk.1.1.2.1⟩), hbqa HB.out⟩
        ·rw [if_neg c77] at H
         exact absurd H (by simp)
 ·replace c4 := Bool.eq_false_iff.mpr c4
  subst c4
  have H1 : (some (([] : List Int), 0, ([] : List Int), ([] : List (S26)), false)) = some (r1, r2, r3, r4, r5) := by rw [if_neg (show ¬ (false = true) by decide)] at H; exact H
  clear H
  have H := H1
  clear H1
  simp only [Option.some.injEq, Prod.mk.injEq] at H
  obtain ⟨rfl, rfl, rfl, rfl, rfl⟩ := H
  go_enter Try.func67, Try.ntmps67
  go_wp2_with (first | ((with_reducible refine gate_dst (N := 2) rfl ?_); (try (refine gate_guard (by rfl) ?_; dsimp only)); refine box_event ?hg (N := 2) ?hd (cs := #[.slice A0_0 l0_0.length c0_0, .int .i64 a0_1, .slice A0_2 l0_2.length c0_2, .slice A0_3 l0_3.length c0_3]) (t := 29) ?hr ?_; (case hd => rfl); (case hg => rfl); (case hr => first | (go_simp; done) | (go_simp; rfl)); intro gb353 hg w113 hbox hb; have n0_ := Aside0.mk (below_step (hbq HB.out) hb); have n1_ := Aside0.mk (hbox); have n2_ := Aside0.mk ((by rw [hg]; exact (below_size (hbq HB.out)) : w.heap.size ≤ gb353)); have n3_ := Aside0.mk ((by rw [hg]; exact (below_size (hbq HB.out)) : w.heap.size ≤ gb353)); clear HB; revert n0_ n1_ n2_ n3_; intro HB BK353 GW353 GE353; clear hb hbox hg) | ((with_reducible refine gate_dst (N := 3) rfl ?_); (try (refine gate_guard (by rfl) ?_; dsimp only)); refine box_event ?hg (N := 3) ?hd (cs := #[.int .i64 a1_0, .int .i64 a1_1, .int .i64 a1_2]) (t := 81) ?hr ?_; (case hd => rfl); (case hg => rfl); (case hr => first | (go_simp; done) | (go_simp; rfl)); intro gb354 hg w114 hbox hb; have n0_ := Aside0.mk (blk_below (bkq BK353.out) hb); have n1_ := Aside0.mk (below_step (hbqa HB.out) hb); have n2_ := Aside0.mk (hbox); have n3_ := Aside0.mk ((by rw [hg]; exact (below_size (hbqa HB.out)) : w.heap.size ≤ gb354)); have n4_ := Aside0.mk ((by rw [hg]; exact (below_size (hbqa HB.out)) : w.heap.size ≤ gb354)); have n5_ := Aside0.mk ((by rw [hg]; exact Nat.ne_of_lt (blk_lt (bkq BK353.out)) : gb353 ≠ gb354)); have n6_ := Aside0.mk ((by rw [hg]; exact Nat.ne_of_gt (blk_lt (bkq BK353.out)) : gb354 ≠ gb353)); clear BK353 HB; revert n0_ n1_ n2_ n3_ n4_ n5_ n6_; intro BK353 HB BK354 GW354 GE354 NB353_354 NB354_353; clear hb hbox hg) | ((with_reducible refine gate_dst (N := 4) rfl ?_); (try (refine gate_guard (by rfl) ?_; dsimp only)); refine box_event ?hg (N := 4) ?hd (cs := #[.slice none 0 0, .int .i64 0, .slice none 0 0, .slice none 0 0]) (t := 29) ?hr ?_; (case hd => rfl); (case hg => rfl); (case hr => first | (go_simp; done) | (go_simp; rfl)); intro gb355 hg w115 hbox hb; have n0_ := Aside0.mk (blk_below (bkq BK353.out) hb); have n1_ := Aside0.mk (blk_below (bkq BK354.out) hb); have n2_ := Aside0.mk (below_step (hbqa HB.out) hb); have n3_ := Aside0.mk (hbox); have n4_ := Aside0.mk ((by rw [hg]; exact (below_size (hbqa HB.out)) : w.heap.size ≤ gb355)); have n5_ := Aside0.mk ((by rw [hg]; exact (below_size (hbqa HB.out)) : w.heap.size ≤ gb355)); have n6_ := Aside0.mk ((by rw [hg]; exact Nat.ne_of_lt (blk_lt (bkq BK353.out)) : gb353 ≠ gb355)); have n7_ := Aside0.mk ((by rw [hg]; exact Nat.ne_of_gt (blk_lt (bkq BK353.out)) : gb355 ≠ gb353)); have n8_ := Aside0.mk ((by rw [hg]; exact Nat.ne_of_lt (blk_lt (bkq BK354.out)) : gb354 ≠ gb355)); have n9_ := Aside0.mk ((by rw [hg]; exact Nat.ne_of_gt (blk_lt (bkq BK354.out)) : gb355 ≠ gb354)); clear BK353 BK354 HB; revert n0_ n1_ n2_ n3_ n4_ n5_ n6_ n7_ n8_ n9_; intro BK353 BK354 HB BK355 GW355 GE355 NB353_355 NB355_353 NB354_355 NB355_354; clear hb hbox hg; have hnb116 := NB353_354.out; have hnc116 := NB354_353.out; have hnb117 := NB353_355.out; have hnc117 := NB355_353.out; have hcz118_0 : w115.cell? ⟨gb353, 0, none⟩ = some (.slice A0_0 l0_0.length c0_0) := (blk_cell BK353.out 0).trans rfl; have hcz118_1 : w115.cell? ⟨gb353, 1, none⟩ = some (.int .i64 a0_1) := (blk_cell BK353.out 1).trans rfl; have hcz118_2 : w115.cell? ⟨gb353, 2, none⟩ = some (.slice A0_2 l0_2.length c0_2) := (blk_cell BK353.out 2).trans rfl; have hcz118_3 : w115.cell? ⟨gb353, 3, none⟩ = some (.slice A0_3 l0_3.length c0_3) := (blk_cell BK353.out 3).trans rfl; have hfz118_0 := blk_frozen BK353.out 0; have hfz118_1 := blk_frozen BK353.out 1; have hfz118_2 := blk_frozen BK353.out 2; have hfz118_3 := blk_frozen BK353.out 3) | ((with_reducible refine gate_callee (f := 31) rfl ?_); refine goesL_ (some 10) rfl rfl Try.func31 (by kernel_rfl) rfl #[.agg #[.slice A0_0 l0_0.length c0_0, .int .i64 a0_1, .slice A0_2 l0_2.length c0_2, .slice A0_3 l0_3.length c0_3]] rfl mpq ?_; (with_reducible refine (spec_DeskOk.calls k _ _ l0_0 a0_1 _ _ l0_2 _ _ l0_3 false _ ?side1 ?side2 ?side3 ?side4 ?side5 ?side6 A3.out).mono ?_); (case side1 => exact coq (Kd.C_below HR0_0.out HB.out)); (case side2 => exact HC0_0.out); (case side3 => exact coq (Kd.C_below HR0_2.out HB.out)); (case side4 => exact HC0_2.out); (case side5 => exact coq (Kd.C_below HR0_3.out HB.out)); (case side6 => exact HC0_3.out); rintro e w119 ⟨rfl, hb⟩; refine ⟨_, rfl, ?_⟩; have n0_ := Aside0.mk (blk_below (bkq BK353.out) hb); have n1_ := Aside0.mk (blk_below (bkq BK354.out) hb); have n2_ := Aside0.mk (blk_below (bkq BK355.out) hb); have n3_ := Aside0.mk (below_step (hbqa HB.out) hb); clear BK353 BK354 BK355 HB; revert n0_ n1_ n2_ n3_; intro BK353 BK354 BK355 HB; (try clear hb); (try clear hb2); (try clear hk); (try clear hi); have hnb120 := NB355_354.out; have hnc120 := NB354_355.out; have hcz121_0 : w119.cell? ⟨gb355, 0, none⟩ = some (.slice none 0 0) := (blk_cell BK355.out 0).trans rfl; have hcz121_1 : w119.cell? ⟨gb355, 1, none⟩ = some (.int .i64 0) := (blk_cell BK355.out 1).trans rfl; have hcz121_2 : w119.cell? ⟨gb355, 2, none⟩ = some (.slice none 0 0) := (blk_cell BK355.out 2).trans rfl; have hcz121_3 : w119.cell? ⟨gb355, 3, none⟩ = some (.slice none 0 0) := (blk_cell BK355.out 3).trans rfl; have hfz121_0 := blk_frozen BK355.out 0; have hfz121_1 := blk_frozen BK355.out 1; have hfz121_2 := blk_frozen BK355.out 2; have hfz121_3 := blk_frozen BK355.out 3))
  refine bodyPost_ret (results_ct rfl _ _ gb355 29 #[.slice none 0 0, .int .i64 0, .slice none 0 0, .slice none 0 0] (0, 0) _ rfl (by refine bkq ?_; refine blk_put (cs := #[.slice none 0 0, .int .i64 0, .slice none 0 0, .slice none 0 0]) ?_ 3 _ rfl; refine bkq ?_; refine blk_put (cs := #[.slice none 0 0, .int .i64 0, .slice none 0 0, .slice none 0 0]) ?_ 2 _ rfl; refine bkq ?_; refine blk_put (cs := #[.slice none 0 0, .int .i64 0, .slice none 0 0, .slice none 0 0]) ?_ 1 _ rfl; refine bkq ?_; refine blk_put (cs := #[.slice none 0 0, .int .i64 0, .slice none 0 0, .slice none 0 0]) ?_ 0 _ rfl; refine bkq ?_; exact BK355.out) Try.underlying29 rfl (by kernel_rfl)) rfl ?_
  exact ⟨_, _, _, by first | rfl | (simp [errW_none, errW_some] <;> rfl) | (simp [*, errW_none, errW_some] <;> rfl), by first | exact Kd.R_nil _ _ _ _ _ | exact Kd.N_nil _ _ _ _ _ | exact Kd.V_nil _ _ _ _ _ | exact Kd.Q_nil _ _ _ _ _ | exact Kd.S_nil _ _ _ _ _, by first | exact Kd.R_nil _ _ _ _ _ | exact Kd.N_nil _ _ _ _ _ | exact Kd.V_nil _ _ _ _ _ | exact Kd.Q_nil _ _ _ _ _ | exact Kd.S_nil _ _ _ _ _, Kd.Q_of_R ((Kd.S_R (by first | exact Kd.S_nil _ _ _ _ _ | exact Kd.N_nil _ _ _ _ _ | exact Kd.V_nil _ _ _ _ _ | exact Kd.Q_nil _ _ _ _ _ | exact Kd.R_nil _ _ _ _ _))), hbqa HB.out⟩

end Go.Proofs.Ytnhgiincboocaaa.PFnDeskOk
