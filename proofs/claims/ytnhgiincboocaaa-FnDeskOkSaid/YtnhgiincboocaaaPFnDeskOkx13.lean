-- written by wip/tools/pstub.py (my own program, over the kit's print)
import Derived.Test.YtnhgiincboocaaaPFnDeskOkx0
import Derived.Test.YtnhgiincboocaaaPFnDeskOkx2
import Derived.Test.YtnhgiincboocaaaPFnDeskOkx4
import Derived.Test.YtnhgiincboocaaaPFnDeskOkx6
import Derived.Test.YtnhgiincboocaaaPFnDeskOkx11
import Derived.Test.YtnhgiincboocaaaPFnDeskOkx12
namespace Go.Proofs.Ytnhgiincboocaaa.PFnDeskOk
open Go.RowKit Go.Proofs.YtnhgiincboocaaaW.PrintWords Go.Proofs.YtnhgiincboocaaaW.PrintLast Go.Proofs.YtnhgiincboocaaaW.PrintMore
attribute [local go_sem] max2_int min2_int max_two min_two max_three min_three max_four min_four   -- for this text's walks alone
set_option linter.unusedVariables false
set_option linter.unusedSimpArgs false

/-! ### spec_l20Desk: function 55 -/
def spec_l20Desk.l0 : Nat → Int → Int → List Int → Int → List Int → Int → List Int → List (S26) → Option (List Int × Int × List Int × (List (S26)) × Int)
 | 0, _, _, _, _, _, _, _, _ => none
 | k + 1, x1, x7, x1000, x1001, x435000, x435001, x435002, x435003 => if x7 > 0 then ((spec_l20Deed.f k x1000 x1001 x435000 x435001 x435002).bind fun bt437 => ((spec_DeskDo.f k x435000 x435001 x435002 x435003 bt437.1 bt437.2.1 bt437.2.2.1).bind fun bt441 => (if bt441.2.2.2.2 = true then (spec_l20Desk.l0 k x1 (wrap64 (x7 - 1)) x1000 bt437.2.2.2 bt441.1 bt441.2.1 bt441.2.2.1 bt441.2.2.2.1) else (spec_l20Desk.l0 k x1 (wrap64 (x7 - 1)) x1000 bt437.2.2.2 x435000 x435001 x435002 x435003)))) else ((spec_l20Rd_odd.f k x1000 x1001 x1).bind fun bt453 => (if bt453.1 = true then ((spec_l20Rd_pick.f k x1000 bt453.2 3).bind fun bt455 => (if bt455.1 = 0 then (some (x435000, 2, x435002, x435003, bt455.2)) else (if bt455.1 = 1 then (if x435003.length < 2513169434916 then (some (x435000, x435001, x435002, (x435003 ++ [(⟨([] : List Int), 0, ([] : List Int)⟩ : S26)]), bt455.2)) else (none)) else (some (([] : List Int), 0, ([] : List Int), ([] : List (S26)), bt455.2))))) else (some (x435000, x435001, x435002, x435003, bt453.2))))
def spec_l20Desk.f (k : Nat) (s0_0 : List Int) (s0_1 : Int) (a1 : Int) : Option (List Int × Int × List Int × (List (S26)) × Int) := (spec_l20Place.f k s0_0 s0_1 0).bind fun bt415 => ((spec_DeskNew.f k bt415.1 bt415.2.1 bt415.2.2.1).bind fun bt423 => ((spec_l20Rd_pick.f k s0_0 bt415.2.2.2 5).bind fun bt435 => (spec_l20Desk.l0 k a1 bt435.1 s0_0 bt435.2 bt423.1 bt423.2.1 bt423.2.2.1 bt423.2.2.2.1)))
theorem spec_l20Desk.mono_l : ∀ k, (∀ y0 y1 y2 y3 y4 y5 y6 y7, LeO (spec_l20Desk.l0 k y0 y1 y2 y3 y4 y5 y6 y7) (spec_l20Desk.l0 (k + 1) y0 y1 y2 y3 y4 y5 y6 y7))
 | 0 => fun _ _ _ _ _ _ _ _ r h => by simp [spec_l20Desk.l0] at h
 | k + 1 => by
  have ih0 := spec_l20Desk.mono_l k
  ·intro y0 y1 y2 y3 y4 y5 y6 y7
   unfold spec_l20Desk.l0
   repeat' first | (with_reducible first | exact ih0 _ _ _ _ _ _ _ _ | exact spec_DeskDo.mono _ _ _ _ _ _ _ _ | exact spec_DeskNew.mono _ _ _ _ | exact spec_l20Deed.mono _ _ _ _ _ _ | exact spec_l20Place.mono _ _ _ _ | exact spec_l20Rd_odd.mono _ _ _ _ | exact spec_l20Rd_pick.mono _ _ _ _ | exact LeO.refl _ | exact LeO.none _ | refine LeO.ite ?_ ?_ | refine LeO.bind ?_ (fun _ => ?_)) | exact LeO.none _ | refine LeO.ite ?_ ?_ | refine LeO.bind ?_ (fun _ => ?_)
theorem spec_l20Desk.mono : ∀ a0 a1 a2 k, LeO (spec_l20Desk.f k a0 a1 a2) (spec_l20Desk.f (k + 1) a0 a1 a2) := by
 intro a0 a1 a2 k
 have ih0 := spec_l20Desk.mono_l k
 unfold spec_l20Desk.f
 repeat' first
   | (with_reducible exact ih0 _ _ _ _ _ _ _ _)
   | (with_reducible exact spec_DeskDo.mono _ _ _ _ _ _ _ _)
   | (with_reducible exact spec_DeskNew.mono _ _ _ _)
   | (with_reducible exact spec_l20Deed.mono _ _ _ _ _ _)
   | (with_reducible exact spec_l20Place.mono _ _ _ _)
   | (with_reducible exact spec_l20Rd_odd.mono _ _ _ _)
   | (with_reducible exact spec_l20Rd_pick.mono _ _ _ _)
   | (with_reducible exact LeO.refl _)
   | (with_reducible exact LeO.none _)
   | (with_reducible refine LeO.ite ?_ ?_)
   | (with_reducible refine LeO.bind ?_ (fun _ => ?_))
   | exact ih0 _ _ _ _ _ _ _ _
   | exact spec_DeskDo.mono _ _ _ _ _ _ _ _
   | exact spec_DeskNew.mono _ _ _ _
   | exact spec_l20Deed.mono _ _ _ _ _ _
   | exact spec_l20Place.mono _ _ _ _
   | exact spec_l20Rd_odd.mono _ _ _ _
   | exact spec_l20Rd_pick.mono _ _ _ _
   | exact LeO.none _
   | refine LeO.ite ?_ ?_
   | refine LeO.bind ?_ (fun _ => ?_)
def spec_l20Desk.T5 : Bool × List (List Nat × List Nat) := (true, [([], []), ([], []), ([], []), ([2], [2]), ([1, 3], [1, 3]), ([0, 4, 4], [0, 4]), ([5], [5]), ([6], [6]), ([6], [6]), ([], []), ([9, 7, 5, 0, 1, 2, 3, 4, 5, 6, 7, 9], [7, 9]), ([8, 10, 0, 1, 2, 3, 4, 5, 6, 7, 8, 9, 10], [8])])
def spec_l20Desk.B5 : List Nat := [0, 0, 0, 4, 14, 31, 63, 127, 127, 0, 767, 2047]
theorem spec_l20Desk.tab5 : rtab .any (opsOf Try.f55 5) = spec_l20Desk.T5 := by kernel_rfl
theorem spec_l20Desk.bits5 : waitsOk spec_l20Desk.T5.2 spec_l20Desk.B5 = true := by kernel_rfl
set_option maxHeartbeats 8000000 in
set_option maxRecDepth 100000 in
theorem spec_l20Desk.calls (k : Nat) (g : Nat) (s0_0 : List Int) (s0_1 : Int) (a1 : Int) (r1 : List Int) (r2 : Int) (r3 : List Int) (r4 : List (S26)) (r5 : Int) (w0 w : World) (hI : IsS73 w0 w g s0_0 s0_1) (hB : Below w0.heap.size w0 w) (h : spec_l20Desk.f k s0_0 s0_1 a1 = some (r1, r2, r3, r4, r5)) :
  Calls Try.prog 55 #[.pointer (some ⟨g, 0, none⟩), .int .i64 a1] w fun e w' => ∃ v0_ v2_ v3_ : Value, e = .returned (.agg #[v0_, .int .i64 r2, v2_, v3_]) ∧ Kd.R (Kd.int .i64) 3 w' w.heap.size (fun k_ => some k_ ≠ (v2_ : Value).ownBlock) v0_ r1 ∧ Kd.R (Kd.int .i64) 3 w' w.heap.size (fun k_ => some k_ ≠ (v0_ : Value).ownBlock) v2_ r3 ∧ Kd.Q k26 26 w' w.heap.size (fun k_ => some k_ ≠ (v0_ : Value).ownBlock ∧ some k_ ≠ (v2_ : Value).ownBlock) v3_ r4 ∧ IsS73 w0 w' g s0_0 r5 ∧ Below w0.heap.size w0 w' ∧ KeepBut w w' g none := by
 have hu29 := Try.underlying29
 have hu26 := Try.underlying26
 have HI0 := Aside0.mk hI
 have HK := Aside0.mk (KeepBut.refl w g none)
 have HL := Aside0.mk hB.size
 clear hI
 have HW0 := Aside0.mk hB.size
 have HB := Aside0.mk hB
 clear hB
 have H : ((spec_l20Place.f k s0_0 s0_1 0).bind fun bt415 => ((spec_DeskNew.f k bt415.1 bt415.2.1 bt415.2.2.1).bind fun bt423 => ((spec_l20Rd_pick.f k s0_0 bt415.2.2.2 5).bind fun bt435 => (spec_l20Desk.l0 k a1 bt435.1 s0_0 bt435.2 bt423.1 bt423.2.1 bt423.2.2.1 bt423.2.2.2.1)))) = some (r1, r2, r3, r4, r5) := h
 clear h
 replace H := Option.bind_eq_some_iff.mp H
 obtain ⟨⟨t415, t418, t419, t422⟩, A30, H⟩ := H
 replace H : ((spec_DeskNew.f k t415 t418 t419).bind fun bt423 => ((spec_l20Rd_pick.f k s0_0 t422 5).bind fun bt435 => (spec_l20Desk.l0 k a1 bt435.1 s0_0 bt435.2 bt423.1 bt423.2.1 bt423.2.2.1 bt423.2.2.2.1))) = some (r1, r2, r3, r4, r5) := H
 have A3 := Aside0.mk A30
 clear A30
 replace H := Option.bind_eq_some_iff.mp H
 obtain ⟨⟨t423, t426, t427, t430, t433⟩, A40, H⟩ := H
 replace H : ((spec_l20Rd_pick.f k s0_0 t422 5).bind fun bt435 => (spec_l20Desk.l0 k a1 bt435.1 s0_0 bt435.2 t423 t426 t427 t430)) = some (r1, r2, r3, r4, r5) := H
 have A4 := Aside0.mk A40
 clear A40
 replace H := Option.bind_eq_some_iff.mp H
 obtain ⟨⟨t435, t436⟩, A50, H⟩ := H
 replace H : (spec_l20Desk.l0 k a1 t435 s0_0 t436 t423 t426 t427 t430) = some (r1, r2, r3, r4, r5) := H
 have A5 := Aside0.mk A50
 clear A50
 have H' := Aside0.mk H
 clear H
 go_enter Try.func55, Try.ntmps55
 go_wp2_with (first | ((with_reducible refine gate_dst (N := 4) rfl ?_); refine box_event ?hg (N := 4) ?hd (cs := #[.slice none 0 0, .int .i64 0, .slice none 0 0, .slice none 0 0]) (t := 29) ?hr ?_; (case hd => rfl); (case hg => rfl); (case hr => first | (go_simp; done) | (go_simp; rfl)); intro gb414 hg w6 hbox hb; have n0_ := Aside0.mk (IsS73.below (IsS73.q HI0.out) hb); have n1_ := Aside0.mk (KeepBut.trans (hkq HK.out) (KeepBut.of_below hb g none) (.inl rfl)); have n2_ := Aside0.mk (below_step (hbqs HB.out (IsS73.ge HI0.out)) hb); have n3_ := Aside0.mk (hbox); have n4_ := Aside0.mk ((by rw [hg]; exact (ksq (hkq HK.out)) : w.heap.size ≤ gb414)); have n5_ := Aside0.mk ((Nat.le_trans HW0.out (by rw [hg]; exact (ksq (hkq HK.out)) : w.heap.size ≤ gb414) : w0.heap.size ≤ gb414)); have n6_ := Aside0.mk ((by rw [hg]; exact Nat.ne_of_lt (IsS73.lt (show IsS73 w0 _ g s0_0 s0_1 from IsS73.q HI0.out)) : g ≠ gb414)); have n7_ := Aside0.mk ((by rw [hg]; exact Nat.ne_of_gt (IsS73.lt (show IsS73 w0 _ g s0_0 s0_1 from IsS73.q HI0.out)) : gb414 ≠ g)); clear HI0 HK HB; revert n0_ n1_ n2_ n3_ n4_ n5_ n6_ n7_; intro HI0 HK HB BK414 GW414 GE414 NB0_414 NB414_0; clear hb hbox hg) | ((with_reducible refine gate_callee (f := 66) rfl ?_); refine goesL_ (some 12) rfl rfl Try.func66 (by kernel_rfl) rfl #[.pointer (some ⟨g, 0, none⟩), .int .i64 0] rfl mpq ?_; (with_reducible refine (spec_l20Place.calls k g s0_0 s0_1 0 t415 t418 t419 t422 w0 _ ?side1 ?side2 A3.out).mono ?_); (case side1 => exact IsS73.q HI0.out); (case side2 => exact hbqs HB.out (IsS73.ge HI0.out)); rintro e w7 ⟨v416, v420, rfl, ho0, ho1, hi, hb, hk⟩; refine ⟨_, rfl, ?_⟩; have n0_ := Aside0.mk (KeepBut.blk hk (bkq BK414.out) NB414_0.out (by simp)); have n1_ := Aside0.mk (Kd.R_lower ho0 (ksq (hkqa HK.out))); have n2_ := Aside0.mk (Kd.R_lower ho1 (ksq (hkqa HK.out))); have n3_ := Aside0.mk (KeepBut.trans (hkqa HK.out) hk (.inl rfl)); have n4_ := Aside0.mk (hb); have n5_ := Aside0.mk (hi); clear BK414 HK HB HI0; revert n0_ n1_ n2_ n3_ n4_ n5_; intro BK414 HO417 HO421 HK HB HI0; (try clear hb); (try clear hb2); (try clear hk); (try clear hi); (try clear ho0); (try clear ho1); obtain ⟨Ao8, co8, eo8⟩ := Kd.R_slice HO417.out; subst eo8; obtain ⟨Ao9, co9, eo9⟩ := Kd.R_slice HO421.out; subst eo9) | ((with_reducible refine gate_callee (f := 8) rfl ?_); refine goesL_ (some 13) rfl rfl Try.func8 (by kernel_rfl) rfl #[.agg #[.slice Ao8 t415.length co8, .int .i64 t418, .slice Ao9 t419.length co9]] rfl mpq ?_; (with_reducible refine (spec_DeskNew.calls k _ _ t415 t418 _ _ t419 t423 t426 t427 t430 t433 _ ?side1 ?side2 ?side3 ?side4 A4.out).mono ?_); (case side1 => exact coq ((Kd.R_reads' HO417.out).2.2)); (case side2 => exact (Kd.R_reads' HO417.out).2.1); (case side3 => exact coq ((Kd.R_reads' HO421.out).2.2)); (case side4 => exact (Kd.R_reads' HO421.out).2.1); rintro e w10 ⟨v424, v428, v431, rfl, ho0, ho1, ho2, hb⟩; refine ⟨_, rfl, ?_⟩; have n0_ := Aside0.mk (Kd.R_mono (Kd.R_told (Kd.R_told (Kd.R_old (roq HO417.out) hb) (Kd.R_base ho0)) (Kd.R_base ho1)) (fun _ h_ => h_.1)); have n1_ := Aside0.mk (Kd.R_mono (Kd.R_told (Kd.R_told (Kd.R_old (roq HO421.out) hb) (Kd.R_base ho0)) (Kd.R_base ho1)) (fun _ h_ => h_.1)); have n2_ := Aside0.mk (Kd.R_lower (Kd.R_new' (Kd.R_new' ho0 (Kd.R_lt (roq HO417.out))) (Kd.R_lt (roq HO421.out))) (ksq (hkqa HK.out))); have n3_ := Aside0.mk (Kd.R_lower (Kd.R_new' (Kd.R_new' ho1 (Kd.R_lt (roq HO417.out))) (Kd.R_lt (roq HO421.out))) (ksq (hkqa HK.out))); have n4_ := Aside0.mk (Kd.S_lower (Kd.S_new' (Kd.S_new' ho2 (Kd.R_lt (roq HO417.out))) (Kd.R_lt (roq HO421.out))) (ksq (hkqa HK.out))); have n5_ := Aside0.mk (IsS73.below (IsS73.q HI0.out) hb); have n6_ := Aside0.mk (blk_below (bkq BK414.out) hb); have n7_ := Aside0.mk (KeepBut.trans (hkqa HK.out) (KeepBut.of_below hb g none) (.inl rfl)); have n8_ := Aside0.mk (below_step (hbqs HB.out (IsS73.ge HI0.out)) hb); clear HO417 HO421 HI0 BK414 HK HB; revert n0_ n1_ n2_ n3_ n4_ n5_ n6_ n7_ n8_; intro HO417 HO421 HO425 HO429 HO432 HI0 BK414 HK HB; (try clear hb); (try clear hb2); (try clear hk); (try clear hi); (try clear ho0); (try clear ho1); (try clear ho2)) | ((with_reducible refine gate_dst (N := 5) rfl ?_); refine box_event ?hg (N := 5) ?hd (cs := #[.slice none 0 0, .int .i64 0, .slice none 0 0, .slice none 0 0]) (t := 29) ?hr ?_; (case hd => rfl); (case hg => rfl); (case hr => first | (go_simp; done) | (go_simp; rfl)); intro gb434 hg w11 hbox hb; have n0_ := Aside0.mk (Kd.R_below (roq HO417.out) hb); have n1_ := Aside0.mk (Kd.R_below (roq HO421.out) hb); have n2_ := Aside0.mk (Kd.R_below (roq HO425.out) hb); have n3_ := Aside0.mk (Kd.R_below (roq HO429.out) hb); have n4_ := Aside0.mk (Kd.S_below (soq HO432.out) hb); have n5_ := Aside0.mk (IsS73.below (IsS73.q HI0.out) hb); have n6_ := Aside0.mk (blk_below (bkq BK414.out) hb); have n7_ := Aside0.mk (KeepBut.trans (hkqa HK.out) (KeepBut.of_below hb g none) (.inl rfl)); have n8_ := Aside0.mk (below_step (hbqs HB.out (IsS73.ge HI0.out)) hb); have n9_ := Aside0.mk (hbox); have n10_ := Aside0.mk ((by rw [hg]; exact (ksq (hkqa HK.out)) : w.heap.size ≤ gb434)); have n11_ := Aside0.mk ((Nat.le_trans HW0.out (by rw [hg]; exact (ksq (hkqa HK.out)) : w.heap.size ≤ gb434) : w0.heap.size ≤ gb434)); have n12_ := Aside0.mk ((by rw [hg]; exact Nat.ne_of_lt (blk_lt (bkq BK414.out)) : gb414 ≠ gb434)); have n13_ := Aside0.mk ((by rw [hg]; exact Nat.ne_of_gt (blk_lt (bkq BK414.out)) : gb434 ≠ gb414)); have n14_ := Aside0.mk ((by rw [hg]; exact Nat.ne_of_lt (IsS73.lt (show IsS73 w0 _ g s0_0 t422 from IsS73.q HI0.out)) : g ≠ gb434)); have n15_ := Aside0.mk ((by rw [hg]; exact Nat.ne_of_gt (IsS73.lt (show IsS73 w0 _ g s0_0 t422 from IsS73.q HI0.out)) : gb434 ≠ g)); clear HO417 HO421 HO425 HO429 HO432 HI0 BK414 HK HB; revert n0_ n1_ n2_ n3_ n4_ n5_ n6_ n7_ n8_ n9_ n10_ n11_ n12_ n13_ n14_ n15_; intro HO417 HO421 HO425 HO429 HO432 HI0 BK414 HK HB BK434 GW434 GE434 NB414_434 NB434_414 NB0_434 NB434_0; clear hb hbox hg; obtain ⟨Ao12, co12, eo12⟩ := Kd.R_slice HO425.out; subst eo12; have hnb13 := NB434_414.out; have hnc13 := NB414_434.out; have hnb14 := NB434_0.out; have hnc14 := NB0_434.out; have hcz15_0 : w11.cell? ⟨gb434, 0, none⟩ = some (.slice none 0 0) := (blk_cell BK434.out 0).trans rfl; have hcz15_1 : w11.cell? ⟨gb434, 1, none⟩ = some (.int .i64 0) := (blk_cell BK434.out 1).trans rfl; have hcz15_2 : w11.cell? ⟨gb434, 2, none⟩ = some (.slice none 0 0) := (blk_cell BK434.out 2).trans rfl; have hcz15_3 : w11.cell? ⟨gb434, 3, none⟩ = some (.slice none 0 0) := (blk_cell BK434.out 3).trans rfl; have hfz15_0 := blk_frozen BK434.out 0; have hfz15_1 := blk_frozen BK434.out 1; have hfz15_2 := blk_frozen BK434.out 2; have hfz15_3 := blk_frozen BK434.out 3; obtain ⟨Ao16, co16, eo16⟩ := Kd.R_slice HO429.out; subst eo16; obtain ⟨Ao17, co17, eo17⟩ := Kd.S_slice HO432.out; subst eo17) | ((with_reducible refine gate_callee (f := 62) rfl ?_); refine goesL_ (some 17) rfl rfl Try.func62 (by kernel_rfl) rfl #[.pointer (some ⟨g, 0, none⟩), .int .i64 5] rfl mpq ?_; (with_reducible refine (spec_l20Rd_pick.calls k g s0_0 t422 5 t435 t436 w0 _ ?side1 ?side2 A5.out).mono ?_); (case side1 => exact IsS73.q HI0.out); (case side2 => exact hbqs HB.out (IsS73.ge HI0.out)); rintro e w18 ⟨rfl, hi, hb, hk⟩; refine ⟨_, rfl, ?_⟩; have n0_ := Aside0.mk (KeepBut.blk hk (g' := gb414) (o := .cells #[.slice none 0 0, .int .i64 0, .slice none 0 0, .slice none 0 0] 29 (0, 0)) (by refine bkq ?_; refine blk_far ?_ NB414_434.out _; refine bkq ?_; refine blk_far ?_ NB414_434.out _; refine bkq ?_; refine blk_far ?_ NB414_434.out _; refine bkq ?_; refine blk_far ?_ NB414_434.out _; refine bkq ?_; exact BK414.out) NB414_0.out (by simp)); have n1_ := Aside0.mk (Kd.R_mono (Kd.R_keep (IsS73.apart (show IsS73 w0 _ g s0_0 t422 from IsS73.q HI0.out) (roq (Kd.R_mono (Kd.R_far (p := ⟨gb434, 3, none⟩) (Kd.R_far (p := ⟨gb434, 2, none⟩) (Kd.R_far (p := ⟨gb434, 1, none⟩) (Kd.R_far (p := ⟨gb434, 0, none⟩) (Kd.R_types HO417.out BK434.out (by decide)) (fun _ hk => hk.2) (.slice Ao12 t423.length co12)) (fun _ hk => hk.2) (.int .i64 t426)) (fun _ hk => hk.2) (.slice Ao16 t427.length co16)) (fun _ hk => hk.2) (.slice Ao17 t430.length co17)) (fun _ h_ => h_.1))) (by decide)) hk (fun _ h => h.2)) (fun _ h => h.1)); have n2_ := Aside0.mk (Kd.R_mono (Kd.R_keep (IsS73.apart (show IsS73 w0 _ g s0_0 t422 from IsS73.q HI0.out) (roq (Kd.R_mono (Kd.R_far (p := ⟨gb434, 3, none⟩) (Kd.R_far (p := ⟨gb434, 2, none⟩) (Kd.R_far (p := ⟨gb434, 1, none⟩) (Kd.R_far (p := ⟨gb434, 0, none⟩) (Kd.R_types HO421.out BK434.out (by decide)) (fun _ hk => hk.2) (.slice Ao12 t423.length co12)) (fun _ hk => hk.2) (.int .i64 t426)) (fun _ hk => hk.2) (.slice Ao16 t427.length co16)) (fun _ hk => hk.2) (.slice Ao17 t430.length co17)) (fun _ h_ => h_.1))) (by decide)) hk (fun _ h => h.2)) (fun _ h => h.1)); have n3_ := Aside0.mk (Kd.R_mono (Kd.R_keep (IsS73.apart (show IsS73 w0 _ g s0_0 t422 from IsS73.q HI0.out) (roq (Kd.R_mono (Kd.R_far (p := ⟨gb434, 3, none⟩) (Kd.R_far (p := ⟨gb434, 2, none⟩) (Kd.R_far (p := ⟨gb434, 1, none⟩) (Kd.R_far (p := ⟨gb434, 0, none⟩) (Kd.R_types HO425.out BK434.out (by decide)) (fun _ hk => hk.2) (.slice Ao12 t423.length co12)) (fun _ hk => hk.2) (.int .i64 t426)) (fun _ hk => hk.2) (.slice Ao16 t427.length co16)) (fun _ hk => hk.2) (.slice Ao17 t430.length co17)) (fun _ h_ => h_.1))) (by decide)) hk (fun _ h => h.2)) (fun _ h => h.1)); have n4_ := Aside0.mk (Kd.R_mono (Kd.R_keep (IsS73.apart (show IsS73 w0 _ g s0_0 t422 from IsS73.q HI0.out) (roq (Kd.R_mono (Kd.R_far (p := ⟨gb434, 3, none⟩) (Kd.R_far (p := ⟨gb434, 2, none⟩) (Kd.R_far (p := ⟨gb434, 1, none⟩) (Kd.R_far (p := ⟨gb434, 0, none⟩) (Kd.R_types HO429.out BK434.out (by decide)) (fun _ hk => hk.2) (.slice Ao12 t423.length co12)) (fun _ hk => hk.2) (.int .i64 t426)) (fun _ hk => hk.2) (.slice Ao16 t427.length co16)) (fun _ hk => hk.2) (.slice Ao17 t430.length co17)) (fun _ h_ => h_.1))) (by decide)) hk (fun _ h => h.2)) (fun _ h => h.1)); have n5_ := Aside0.mk (Kd.S_mono (Kd.S_keep (IsS73.apartS (show IsS73 w0 _ g s0_0 t422 from IsS73.q HI0.out) (soq (Kd.S_mono (Kd.S_far (p := ⟨gb434, 3, none⟩) (Kd.S_far (p := ⟨gb434, 2, none⟩) (Kd.S_far (p := ⟨gb434, 1, none⟩) (Kd.S_far (p := ⟨gb434, 0, none⟩) (Kd.S_types HO432.out BK434.out (by decide)) (fun _ hk => hk.2) (.slice Ao12 t423.length co12)) (fun _ hk => hk.2) (.int .i64 t426)) (fun _ hk => hk.2) (.slice Ao16 t427.length co16)) (fun _ hk => hk.2) (.slice Ao17 t430.length co17)) (fun _ h_ => h_.1))) (by decide)) hk (fun _ h => h.2)) (fun _ h => h.1)); have n6_ := Aside0.mk (KeepBut.blk hk (g' := gb434) (o := .cells #[.slice Ao12 t423.length co12, .int .i64 t426, .slice Ao16 t427.length co16, .slice Ao17 t430.length co17] 29 (0, 0)) (by refine bkq ?_; refine blk_put (cs := #[.slice Ao12 t423.length co12, .int .i64 t426, .slice Ao16 t427.length co16, .slice none 0 0]) ?_ 3 _ rfl; refine bkq ?_; refine blk_put (cs := #[.slice Ao12 t423.length co12, .int .i64 t426, .slice none 0 0, .slice none 0 0]) ?_ 2 _ rfl; refine bkq ?_; refine blk_put (cs := #[.slice Ao12 t423.length co12, .int .i64 0, .slice none 0 0, .slice none 0 0]) ?_ 1 _ rfl; refine bkq ?_; refine blk_put (cs := #[.slice none 0 0, .int .i64 0, .slice none 0 0, .slice none 0 0]) ?_ 0 _ rfl; refine bkq ?_; exact BK434.out) NB434_0.out (by simp)); have n7_ := Aside0.mk (KeepBut.trans (hkqa HK.out) hk (.inl rfl)); have n8_ := Aside0.mk (hb); have n9_ := Aside0.mk (hi); clear BK414 HO417 HO421 HO425 HO429 HO432 BK434 HK HB HI0; revert n0_ n1_ n2_ n3_ n4_ n5_ n6_ n7_ n8_ n9_; intro BK414 HO417 HO421 HO425 HO429 HO432 BK434 HK HB HI0; (try clear hb); (try clear hb2); (try clear hk); (try clear hi)))
 go_loopg [7] k (fun kq v7 w' => ∃ (x7_1 : Int) (x1001_1 : Int) (x435000_1 : List Int) (x435001_1 : Int) (x435002_1 : List Int) (x435003_1 : List (S26)) (u435000 : Value) (u435002 : Value) (u435003 : Value), v7 = .int .i64 x7_1 ∧ Aside0 (spec_l20Desk.l0 kq a1 x7_1 s0_0 x1001_1 x435000_1 x435001_1 x435002_1 x435003_1 = some (r1, r2, r3, r4, r5)) ∧ Aside0 (kq ≤ k) ∧ Aside0 (Kd.R (Kd.int .i64) 3 w' w.heap.size (fun k_ => some k_ ≠ (u435002 : Value).ownBlock) u435000 x435000_1) ∧ Aside0 (Kd.R (Kd.int .i64) 3 w' w.heap.size (fun k_ => some k_ ≠ (u435000 : Value).ownBlock) u435002 x435002_1) ∧ Aside0 (Kd.Q k26 26 w' w.heap.size (fun k_ => some k_ ≠ (u435000 : Value).ownBlock ∧ some k_ ≠ (u435002 : Value).ownBlock) u435003 x435003_1) ∧ Aside0 (w'.heap[gb414]? = some (.cells #[(.slice none 0 0), .int .i64 0, (.slice none 0 0), (.slice none 0 0)] 29 (0, 0))) ∧ Aside0 (w'.heap[gb434]? = some (.cells #[u435000, .int .i64 x435001_1, u435002, u435003] 29 (0, 0))) ∧ Aside0 (IsS73 w0 w' g s0_0 x1001_1) ∧ Aside0 (KeepBut w w' g none) ∧ Aside0 (Below w0.heap.size w0 w'))
 case atStart => exact ⟨(t435), (t436), (t423), (t426), (t427), (t430), (.slice Ao12 t423.length co12), (.slice Ao16 t427.length co16), (.slice Ao17 t430.length co17), rfq, H', ⟨Nat.le_refl _⟩, ⟨by refine roq ?_; exact Kd.R_mono HO425.out (fun _ hk => hk.1.1)⟩, ⟨by refine roq ?_; exact Kd.R_mono HO429.out (fun _ hk => hk.1.1)⟩, ⟨Kd.Q_of_R ((Kd.S_R (soq (Kd.S_mono HO432.out (fun _ hk => ⟨hk.1.1.1, hk.1.1.2⟩)))))⟩, ⟨by refine bkq ?_; exact BK414.out⟩, ⟨by refine bkq ?_; exact BK434.out⟩, ⟨IsS73.q HI0.out⟩, ⟨hkqa HK.out⟩, ⟨hbqs HB.out (IsS73.ge HI0.out)⟩⟩
 case round =>
  clear H'
  try clear c1
  try clear p2
  try clear c5
  try clear c6
  try clear c8
  try clear c13
  try clear c14
  try clear hcz15_0
  try clear hcz15_1
  try clear hcz15_2
  try clear hcz15_3
  try clear hfz15_0
  try clear hfz15_1
  try clear hfz15_2
  try clear hfz15_3
  obtain ⟨x7_1, x1001_1, x435000_1, x435001_1, x435002_1, x435003_1, u435000, u435002, u435003, rfl, HA, HK1, HO_435000, HO_435002, HO_435003, BK414, BK434, HI0, HK, HB⟩ := hrel
  cases gk with
  | zero => exact absurd HA.out (by simp [spec_l20Desk.l0])
  | succ k1 =>
   have H := HA.out
   clear HA
   simp only [spec_l20Desk.l0] at H
   by_cases c19 : x7_1 > 0
   ·rw [if_pos c19] at H
    have c19b0 : decide (0 < x7_1) = true := decide_eq_true c19
    clear c19
    replace H := Option.bind_eq_some_iff.mp H
    obtain ⟨⟨t437, t438, t439, t440⟩, A200, H⟩ := H
    replace H : ((spec_DeskDo.f k1 x435000_1 x435001_1 x435002_1 x435003_1 t437 t438 t439).bind fun bt441 => (if bt441.2.2.2.2 = true then (spec_l20Desk.l0 k1 a1 (wrap64 (x7_1 - 1)) s0_0 t440 bt441.1 bt441.2.1 bt441.2.2.1 bt441.2.2.2.1) else (spec_l20Desk.l0 k1 a1 (wrap64 (x7_1 - 1)) s0_0 t440 x435000_1 x435001_1 x435002_1 x435003_1))) = some (r1, r2, r3, r4, r5) := H
    have A20 := Aside0.mk A200
    clear A200
    replace H := Option.bind_eq_some_iff.mp H
    obtain ⟨⟨t441, t444, t445, t448, t451⟩, A210, H⟩ := H
    replace H : (if t451 = true then (spec_l20Desk.l0 k1 a1 (wrap64 (x7_1 - 1)) s0_0 t440 t441 t444 t445 t448) else (spec_l20Desk.l0 k1 a1 (wrap64 (x7_1 - 1)) s0_0 t440 x435000_1 x435001_1 x435002_1 x435003_1)) = some (r1, r2, r3, r4, r5) := H
    have A21 := Aside0.mk A210
    clear A210
    by_cases c22 : t451 = true
    ·subst c22
     have H1 : (spec_l20Desk.l0 k1 a1 (wrap64 (x7_1 - 1)) s0_0 t440 t441 t444 t445 t448) = some (r1, r2, r3, r4, r5) := by rw [if_pos rfl] at H; exact H
     clear H
     have H := H1
     clear H1
     have H' := Aside0.mk H
     clear H
     obtain ⟨Ao23, co23, eo23⟩ := Kd.R_slice HO_435000.out
     subst eo23
     obtain ⟨Ao24, co24, eo24⟩ := Kd.R_slice HO_435002.out
     subst eo24
     obtain ⟨Ao25, co25, eo25, _⟩ := Kd.Q_slice HO_435003.out
     subst eo25
     try go_wp2
     have n0_ := Aside0.mk (Kd.R_drew HO_435000.out)
     have n1_ := Aside0.mk (Kd.R_drew HO_435002.out)
     have n2_ := Aside0.mk (Kd.Q_drew HO_435003.out)
     have n3_ := Aside0.mk (blk_drew BK414.out)
     have n4_ := Aside0.mk (blk_drew BK434.out)
     have n5_ := Aside0.mk (IsS73.drew HI0.out)
     have n6_ := Aside0.mk (keep_drew HK.out)
     have n7_ := Aside0.mk (below_drew1 HB.out)
     clear HO_435000 HO_435002 HO_435003 BK414 BK434 HI0 HK HB
     revert n0_ n1_ n2_ n3_ n4_ n5_ n6_ n7_
     intro HO_435000 HO_435002 HO_435003 BK414 BK434 HI0 HK HB
     refine start_ (n := 12) (S := fun w' => w'.cell? ⟨gb434, 0, none⟩ = some (.slice Ao23 x435000_1.length co23) ∧ w'.cell? ⟨gb434, 1, none⟩ = some (.int .i64 x435001_1) ∧ w'.cell? ⟨gb434, 2, none⟩ = some (.slice Ao24 x435002_1.length co24) ∧ w'.cell? ⟨gb434, 3, none⟩ = some (.slice Ao25 x435003_1.length co25)) (ds := []) #[false, false, false, false, false, false, false, false, false, false, false, false] (by kernel_rfl) rfl rfl ⟨(blk_cell BK434.out 0).trans rfl, (blk_cell BK434.out 1).trans rfl, (blk_cell BK434.out 2).trans rfl, (blk_cell BK434.out 3).trans rfl⟩ (fun hHeld => ?_); refine with_tabW spec_l20Desk.tab5 spec_l20Desk.bits5 (fun HT_ HW_ => ?_)
     generalize wr.drew = w26 at HO_435000 HO_435002 HO_435003 BK414 BK434 HI0 HK HB hHeld ⊢
     refine pureq (i := 1) (N := some 24) #[false, true, false, false, false, false, false, false, false, false, false, false] rfl rfl HT_.out ?_
     refine pureq (i := 2) (N := some 25) #[false, true, true, false, false, false, false, false, false, false, false, false] rfl rfl HT_.out ?_
     refine take_ (i := 0) (N := some 23) (v := ?_) (a' := ?_) #[true, true, true, false, false, false, false, false, false, false, false, false] rfl rfl (take_ofW HT_.out HW_.out (by kernel_rfl)) (fun _ _ _ h => h) (Or.inl ⟨by rfl, ?_⟩) hHeld ?_ ?_
     rotate_left
     ·rintro w' ⟨s0, s1, s2, s3⟩
      go_simp
      with_reducible rfl
     rotate_left
     ·simp only [Act.put, List.setIfInBounds_toArray, List.set_cons_zero, List.set_cons_succ, i64_w, i32_w]
      rfl
     refine take_ (i := 3) (N := some 26) (v := ?_) (a' := ?_) #[true, true, true, true, false, false, false, false, false, false, false, false] rfl rfl (take_ofW HT_.out HW_.out (by kernel_rfl)) (fun _ _ _ h => h) (Or.inl ⟨by rfl, ?_⟩) hHeld ?_ ?_
     rotate_left
     ·rintro w' ⟨s0, s1, s2, s3⟩
      go_simp
      with_reducible rfl
     rotate_left
     ·simp only [Act.put, List.setIfInBounds_toArray, List.set_cons_zero, List.set_cons_succ, i64_w, i32_w]
      rfl
     refine join_ (σ := Value × Value × Value × Nat) 2 #[true, true, true, true, true, true, true, true, true, true, false, false] (fun s_ => [(27, .agg #[.int .i64 t437, .int .i64 t438, .int .i64 t439]), (28, .tuple #[.agg #[s_.1, .int .i64 t444, s_.2.1, s_.2.2.1], .bool true]), (8, .pointer (some ⟨s_.2.2.2, 0, none⟩)), (22, .tuple #[.agg #[s_.1, .int .i64 t444, s_.2.1, s_.2.2.1], .bool true]), (29, .agg #[s_.1, .int .i64 t444, s_.2.1, s_.2.2.1]), (30, .bool true)]) (fun s_ w' => (w'.cell? ⟨gb434, 0, none⟩ = some (.slice Ao23 x435000_1.length co23) ∧ w'.cell? ⟨gb434, 1, none⟩ = some (.int .i64 x435001_1) ∧ w'.cell? ⟨gb434, 2, none⟩ = some (.slice Ao24 x435002_1.length co24) ∧ w'.cell? ⟨gb434, 3, none⟩ = some (.slice Ao25 x435003_1.length co25)) ∧ (Kd.R (Kd.int .i64) 3 w' w.heap.size (fun k_ => some k_ ≠ (s_.2.1 : Value).ownBlock ∧ some k_ ≠ (.slice Ao23 x435000_1.length co23 : Value).ownBlock ∧ some k_ ≠ (.slice Ao24 x435002_1.length co24 : Value).ownBlock) s_.1 t441) ∧ (Kd.R (Kd.int .i64) 3 w' w.heap.size (fun k_ => some k_ ≠ (s_.1 : Value).ownBlock ∧ some k_ ≠ (.slice Ao23 x435000_1.length co23 : Value).ownBlock ∧ some k_ ≠ (.slice Ao24 x435002_1.length co24 : Value).ownBlock) s_.2.1 t445) ∧ (Kd.Q k26 26 w' w.heap.size (fun k_ => some k_ ≠ (s_.1 : Value).ownBlock ∧ some k_ ≠ (s_.2.1 : Value).ownBlock ∧ some k_ ≠ (.slice Ao23 x435000_1.length co23 : Value).ownBlock ∧ some k_ ≠ (.slice Ao24 x435002_1.length co24 : Value).ownBlock ∧ some k_ ≠ (.slice Ao25 x435003_1.length co25 : Value).ownBlock) s_.2.2.1 t448) ∧ (Kd.R (Kd.int .i64) 3 w' w.heap.size (fun k_ => some k_ ≠ (s_.1 : Value).ownBlock ∧ some k_ ≠ (s_.2.1 : Value).ownBlock ∧ some k_ ≠ (.slice Ao24 x435002_1.length co24 : Value).ownBlock) (.slice Ao23 x435000_1.length co23) x435000_1) ∧ (Kd.R (Kd.int .i64) 3 w' w.heap.size (fun k_ => some k_ ≠ (s_.1 : Value).ownBlock ∧ some k_ ≠ (s_.2.1 : Value).ownBlock ∧ some k_ ≠ (.slice Ao23 x435000_1.length co23 : Value).ownBlock) (.slice Ao24 x435002_1.length co24) x435002_1) ∧ (Kd.Q k26 26 w' w.heap.size (fun k_ => some k_ ≠ (s_.1 : Value).ownBlock ∧ some k_ ≠ (s_.2.1 : Value).ownBlock ∧ some k_ ≠ (s_.2.2.1 : Value).ownBlock ∧ some k_ ≠ (.slice Ao23 x435000_1.length co23 : Value).ownBlock ∧ some k_ ≠ (.slice Ao24 x435002_1.length co24 : Value).ownBlock) (.slice Ao25 x435003_1.length co25) x435003_1) ∧ (w'.heap[gb414]? = some (.cells #[.slice none 0 0, .int .i64 0, .slice none 0 0, .slice none 0 0] 29 (0, 0))) ∧ (w'.heap[gb434]? = some (.cells #[.slice Ao23 x435000_1.length co23, .int .i64 x435001_1, .slice Ao24 x435002_1.length co24, .slice Ao25 x435003_1.length co25] 29 (0, 0))) ∧ (w'.heap[s_.2.2.2]? = some (.cells #[.slice none 0 0, .int .i64 0, .slice none 0 0, .slice none 0 0] 29 (0, 0))) ∧ (w.heap.size ≤ s_.2.2.2) ∧ (w0.heap.size ≤ s_.2.2.2) ∧ (g ≠ s_.2.2.2) ∧ (s_.2.2.2 ≠ g) ∧ (gb414 ≠ s_.2.2.2) ∧ (s_.2.2.2 ≠ gb414) ∧ (gb434 ≠ s_.2.2.2) ∧ (s_.2.2.2 ≠ gb434) ∧ (IsS73 w0 w' g s0_0 t440) ∧ (KeepBut w w' g none) ∧ (Below w0.heap.size w0 w')) ?_ ?_
     rotate_left
     ·intro hCont
      refine two_ (i := 4) (j := 9) (Ni := some 27) (Nj := some 8) #[true, true, true, true, true, false, false, false, false, false, false, false] #[true, true, true, true, false, false, false, false, false, true, false, false] rfl rfl rfl rfl (two_of HT_.out (by kernel_rfl)) (by decide) (by decide) (fun K hK => ?_) (fun K hK => ?_)
      ·skip
       refine goes_ Try.func68 (by kernel_rfl) rfl #[.pointer (some ⟨g, 0, none⟩), .agg #[.slice Ao23 x435000_1.length co23, .int .i64 x435001_1, .slice Ao24 x435002_1.length co24]] (by rfl) rfl rfl mpq ?_
       with_reducible refine (spec_l20Deed.calls k1 g s0_0 x1001_1 _ _ x435000_1 x435001_1 _ _ x435002_1 t437 t438 t439 t440 w0 _ ?side1 ?side2 ?side3 ?side4 ?side5 ?side6 ?side7 ?side8 A20.out).mono ?_
       (case side1 => exact IsS73.q HI0.out)
       (case side2 => exact hbqs HB.out (IsS73.ge HI0.out))
       (case side3 => exact coq ((Kd.R_reads' HO_435000.out).2.2))
       (case side4 => exact (Kd.R_reads' HO_435000.out).2.1)
       (case side5 => exact far_slice (IsS73.own_ne HI0.out HO_435000.out (by decide)))
       (case side6 => exact coq ((Kd.R_reads' HO_435002.out).2.2))
       (case side7 => exact (Kd.R_reads' HO_435002.out).2.1)
       (case side8 => exact far_slice (IsS73.own_ne HI0.out HO_435002.out (by decide)))
       rintro e w27 ⟨rfl, hi, hb, hk⟩
       refine ⟨_, rfl, ?_⟩
       have n0_ := Aside0.mk (Kd.R_mono (Kd.R_keep (IsS73.apart (show IsS73 w0 _ g s0_0 x1001_1 from IsS73.q HI0.out) (roq HO_435000.out) (by decide)) hk (fun _ h => h.2)) (fun _ h => h.1))
       have n1_ := Aside0.mk (Kd.R_mono (Kd.R_keep (IsS73.apart (show IsS73 w0 _ g s0_0 x1001_1 from IsS73.q HI0.out) (roq HO_435002.out) (by decide)) hk (fun _ h => h.2)) (fun _ h => h.1))
       have n2_ := Aside0.mk (Kd.Q_mono (Kd.Q_keep (IsS73.apartQ (show IsS73 w0 _ g s0_0 x1001_1 from IsS73.q HI0.out) (qoq HO_435003.out) (by decide)) hk (fun _ h => h.2)) (fun _ h => h.1))
       have n3_ := Aside0.mk (KeepBut.blk hk (bkq BK414.out) NB414_0.out (by simp))
       have n4_ := Aside0.mk (KeepBut.blk hk (bkq BK434.out) NB434_0.out (by simp))
       have n5_ := Aside0.mk (KeepBut.trans (hkqa HK.out) hk (.inl rfl))
       have n6_ := Aside0.mk (hb)
       have n7_ := Aside0.mk (hi)
       clear HO_435000 HO_435002 HO_435003 BK414 BK434 HK HB HI0
       revert n0_ n1_ n2_ n3_ n4_ n5_ n6_ n7_
       intro HO_435000 HO_435002 HO_435003 BK414 BK434 HK HB HI0
       (try clear hb)
       (try clear hb2)
       (try clear hk)
       (try clear hi)
       refine hK.out _ _ ⟨(blk_cell BK434.out 0).trans rfl, (blk_cell BK434.out 1).trans rfl, (blk_cell BK434.out 2).trans rfl, (blk_cell BK434.out 3).trans rfl⟩ (fun hHeld => ?_)
       clear hK K
       refine normq 27 ?_
       refine two_ (i := 5) (j := 9) (Ni := some 28) (Nj := some 8) #[true, true, true, true, true, true, false, false, false, false, false, false] #[true, true, true, true, true, false, false, false, false, true, false, false] rfl rfl rfl rfl (two_of HT_.out (by kernel_rfl)) (by decide) (by decide) (fun K hK => ?_) (fun K hK => ?_)
       ·skip
        refine goes_ Try.func67 (by kernel_rfl) rfl #[.agg #[.slice Ao23 x435000_1.length co23, .int .i64 x435001_1, .slice Ao24 x435002_1.length co24, .slice Ao25 x435003_1.length co25], .agg #[.int .i64 t437, .int .i64 t438, .int .i64 t439]] (by rfl) rfl rfl mpq ?_
        with_reducible refine (spec_DeskDo.calls k1 _ _ x435000_1 x435001_1 _ _ x435002_1 _ _ x435003_1 t437 t438 t439 t441 t444 t445 t448 true _ ?side1 ?side2 ?side3 ?side4 ?side5 ?side6 A21.out).mono ?_
        (case side1 => exact coq ((Kd.R_reads' HO_435000.out).2.2))
        (case side2 => exact (Kd.R_reads' HO_435000.out).2.1)
        (case side3 => exact coq ((Kd.R_reads' HO_435002.out).2.2))
        (case side4 => exact (Kd.R_reads' HO_435002.out).2.1)
        (case side5 => exact coq ((Kd.Q_reads' HO_435003.out).2.2))
        (case side6 => exact (Kd.Q_reads' HO_435003.out).2.1)
        rintro e w28 ⟨v442, v446, v449, rfl, ho0, ho1, ho2, hb⟩
        refine ⟨_, rfl, ?_⟩
        have n0_ := Aside0.mk (Kd.R_mono (Kd.R_told (Kd.R_told (Kd.R_old (roq HO_435000.out) hb) (Kd.R_base ho0)) (Kd.R_base ho1)) (fun _ h_ => h_.1))
        have n1_ := Aside0.mk (Kd.R_mono (Kd.R_told (Kd.R_told (Kd.R_old (roq HO_435002.out) hb) (Kd.R_base ho0)) (Kd.R_base ho1)) (fun _ h_ => h_.1))
        have n2_ := Aside0.mk (Kd.Q_mono (Kd.Q_told (Kd.Q_told (Kd.Q_told (Kd.Q_old (qoq HO_435003.out) hb) (Kd.R_base ho0)) (Kd.R_base ho1)) (Kd.Q_base ho2)) (fun _ h_ => h_.1))
        have n3_ := Aside0.mk (Kd.R_lower (Kd.R_new' (Kd.R_new' ho0 (Kd.R_lt (roq HO_435000.out))) (Kd.R_lt (roq HO_435002.out))) (ksq (hkqa HK.out)))
        have n4_ := Aside0.mk (Kd.R_lower (Kd.R_new' (Kd.R_new' ho1 (Kd.R_lt (roq HO_435000.out))) (Kd.R_lt (roq HO_435002.out))) (ksq (hkqa HK.out)))
        have n5_ := Aside0.mk (Kd.Q_lower (Kd.Q_new' (Kd.Q_new' (Kd.Q_new' ho2 (Kd.R_lt (roq HO_435000.out))) (Kd.R_lt (roq HO_435002.out))) (Kd.Q_lt (qoq HO_435003.out))) (ksq (hkqa HK.out)))
        have n6_ := Aside0.mk (blk_below (bkq BK414.out) hb)
        have n7_ := Aside0.mk (blk_below (bkq BK434.out) hb)
        have n8_ := Aside0.mk (IsS73.below (IsS73.q HI0.out) hb)
        have n9_ := Aside0.mk (KeepBut.trans (hkqa HK.out) (KeepBut.of_below hb g none) (.inl rfl))
        have n10_ := Aside0.mk (below_step (hbqs HB.out (IsS73.ge HI0.out)) hb)
        clear HO_435000 HO_435002 HO_435003 BK414 BK434 HI0 HK HB
        revert n0_ n1_ n2_ n3_ n4_ n5_ n6_ n7_ n8_ n9_ n10_
        intro HO_435000 HO_435002 HO_435003 HO443 HO447 HO450 BK414 BK434 HI0 HK HB
        (try clear hb)
        (try clear hb2)
        (try clear hk)
        (try clear hi)
        (try clear ho0)
        (try clear ho1)
        (try clear ho2)
        refine hK.out _ _ ⟨(blk_cell BK434.out 0).trans rfl, (blk_cell BK434.out 1).trans rfl, (blk_cell BK434.out 2).trans rfl, (blk_cell BK434.out 3).trans rfl⟩ (fun hHeld => ?_)
        clear hK K
        refine normq 28 ?_
        refine pureq (i := 6) (N := some 22) #[true, true, true, true, true, true, true, false, false, false, false, false] rfl rfl HT_.out ?_
        refine pureq (i := 7) (N := some 29) #[true, true, true, true, true, true, true, true, false, false, false, false] rfl rfl HT_.out ?_
        refine pureq (i := 8) (N := some 30) #[true, true, true, true, true, true, true, true, true, false, false, false] rfl rfl HT_.out ?_
        refine one_ (i := 9) (N := some 8) #[true, true, true, true, true, true, true, true, true, true, false, false] rfl rfl (one_of HT_.out (by kernel_rfl)) (by decide) (fun K hK => ?_)
        refine box_step ?hg (N := 8) ?hd (cs := #[.slice none 0 0, .int .i64 0, .slice none 0 0, .slice none 0 0]) (t := 29) ?hr ?_; (case hd => rfl); (case hg => rfl); (case hr => first | (go_simp; done) | (go_simp; rfl))
        intro gb452 hg w29 hbox hb
        have n0_ := Aside0.mk (Kd.R_below (roq HO_435000.out) hb)
        have n1_ := Aside0.mk (Kd.R_below (roq HO_435002.out) hb)
        have n2_ := Aside0.mk (Kd.Q_below (qoq HO_435003.out) hb)
        have n3_ := Aside0.mk (Kd.R_below (roq HO443.out) hb)
        have n4_ := Aside0.mk (Kd.R_below (roq HO447.out) hb)
        have n5_ := Aside0.mk (Kd.Q_below (qoq HO450.out) hb)
        have n6_ := Aside0.mk (blk_below (bkq BK414.out) hb)
        have n7_ := Aside0.mk (blk_below (bkq BK434.out) hb)
        have n8_ := Aside0.mk (IsS73.below (IsS73.q HI0.out) hb)
        have n9_ := Aside0.mk (KeepBut.trans (hkqa HK.out) (KeepBut.of_below hb g none) (.inl rfl))
        have n10_ := Aside0.mk (below_step (hbqs HB.out (IsS73.ge HI0.out)) hb)
        have n11_ := Aside0.mk (hbox)
        have n12_ := Aside0.mk ((by rw [hg]; exact (ksq (hkqa HK.out)) : w.heap.size ≤ gb452))
        have n13_ := Aside0.mk ((Nat.le_trans HW0.out (by rw [hg]; exact (ksq (hkqa HK.out)) : w.heap.size ≤ gb452) : w0.heap.size ≤ gb452))
        have n14_ := Aside0.mk ((by rw [hg]; exact Nat.ne_of_lt (blk_lt (bkq BK414.out)) : gb414 ≠ gb452))
        have n15_ := Aside0.mk ((by rw [hg]; exact Nat.ne_of_gt (blk_lt (bkq BK414.out)) : gb452 ≠ gb414))
        have n16_ := Aside0.mk ((by rw [hg]; exact Nat.ne_of_lt (blk_lt (bkq BK434.out)) : gb434 ≠ gb452))
        have n17_ := Aside0.mk ((by rw [hg]; exact Nat.ne_of_gt (blk_lt (bkq BK434.out)) : gb452 ≠ gb434))
        have n18_ := Aside0.mk ((by rw [hg]; exact Nat.ne_of_lt (IsS73.lt (show IsS73 w0 _ g s0_0 t440 from IsS73.q HI0.out)) : g ≠ gb452))
        have n19_ := Aside0.mk ((by rw [hg]; exact Nat.ne_of_gt (IsS73.lt (show IsS73 w0 _ g s0_0 t440 from IsS73.q HI0.out)) : gb452 ≠ g))
        clear HO_435000 HO_435002 HO_435003 HO443 HO447 HO450 BK414 BK434 HI0 HK HB
        revert n0_ n1_ n2_ n3_ n4_ n5_ n6_ n7_ n8_ n9_ n10_ n11_ n12_ n13_ n14_ n15_ n16_ n17_ n18_ n19_
        intro HO_435000 HO_435002 HO_435003 HO443 HO447 HO450 BK414 BK434 HI0 HK HB BK452 GW452 GE452 NB414_452 NB452_414 NB434_452 NB452_434 NB0_452 NB452_0
        clear hb hbox hg
        refine hK.out _ _ ⟨(blk_cell BK434.out 0).trans rfl, (blk_cell BK434.out 1).trans rfl, (blk_cell BK434.out 2).trans rfl, (blk_cell BK434.out 3).trans rfl⟩ (fun hHeld => ?_)
        clear hK K
        refine normq 8 ?_
        exact norm_ (by simp only [putAll, Act.put, List.setIfInBounds_toArray, List.set_cons_zero, List.set_cons_succ]) (hCont (v442, v446, v449, gb452) _ ⟨hHeld, (roq (Kd.R_mono HO443.out (fun _ hk => ⟨hk.1.1, ⟨hk.1.2, hk.2⟩⟩))), (roq (Kd.R_mono HO447.out (fun _ hk => ⟨hk.1.1, ⟨hk.1.2, hk.2⟩⟩))), (qoq (Kd.Q_mono HO450.out (fun _ hk => ⟨hk.1.1.1.1, ⟨hk.1.1.1.2, ⟨hk.1.1.2, ⟨hk.1.2, hk.2⟩⟩⟩⟩))), (roq (Kd.R_mono HO_435000.out (fun _ hk => ⟨hk.1.2, ⟨hk.2, hk.1.1⟩⟩))), (roq (Kd.R_mono HO_435002.out (fun _ hk => ⟨hk.1.2, ⟨hk.2, hk.1.1⟩⟩))), (qoq (Kd.Q_mono HO_435003.out (fun _ hk => ⟨hk.1.1.2, ⟨hk.1.2, ⟨hk.2, ⟨hk.1.1.1.1, hk.1.1.1.2⟩⟩⟩⟩))), (bkq BK414.out), (bkq BK434.out), (bkq BK452.out), GW452.out, GE452.out, NB0_452.out, NB452_0.out, NB414_452.out, NB452_414.out, NB434_452.out, NB452_434.out, (IsS73.q HI0.out), (hkqa HK.out), (hbqs HB.out (IsS73.ge HI0.out))⟩)
       ·skip
        refine box_step ?hg (N := 8) ?hd (cs := #[.slice none 0 0, .int .i64 0, .slice none 0 0, .slice none 0 0]) (t := 29) ?hr ?_; (case hd => rfl); (case hg => rfl); (case hr => first | (go_simp; done) | (go_simp; rfl))
        intro gb452 hg w28 hbox hb
        have n0_ := Aside0.mk (Kd.R_below (roq HO_435000.out) hb)
        have n1_ := Aside0.mk (Kd.R_below (roq HO_435002.out) hb)
        have n2_ := Aside0.mk (Kd.Q_below (qoq HO_435003.out) hb)
        have n3_ := Aside0.mk (blk_below (bkq BK414.out) hb)
        have n4_ := Aside0.mk (blk_below (bkq BK434.out) hb)
        have n5_ := Aside0.mk (IsS73.below (IsS73.q HI0.out) hb)
        have n6_ := Aside0.mk (KeepBut.trans (hkqa HK.out) (KeepBut.of_below hb g none) (.inl rfl))
        have n7_ := Aside0.mk (below_step (hbqs HB.out (IsS73.ge HI0.out)) hb)
        have n8_ := Aside0.mk (hbox)
        have n9_ := Aside0.mk ((by rw [hg]; exact (ksq (hkqa HK.out)) : w.heap.size ≤ gb452))
        have n10_ := Aside0.mk ((Nat.le_trans HW0.out (by rw [hg]; exact (ksq (hkqa HK.out)) : w.heap.size ≤ gb452) : w0.heap.size ≤ gb452))
        have n11_ := Aside0.mk ((by rw [hg]; exact Nat.ne_of_lt (blk_lt (bkq BK414.out)) : gb414 ≠ gb452))
        have n12_ := Aside0.mk ((by rw [hg]; exact Nat.ne_of_gt (blk_lt (bkq BK414.out)) : gb452 ≠ gb414))
        have n13_ := Aside0.mk ((by rw [hg]; exact Nat.ne_of_lt (blk_lt (bkq BK434.out)) : gb434 ≠ gb452))
        have n14_ := Aside0.mk ((by rw [hg]; exact Nat.ne_of_gt (blk_lt (bkq BK434.out)) : gb452 ≠ gb434))
        have n15_ := Aside0.mk ((by rw [hg]; exact Nat.ne_of_lt (IsS73.lt (show IsS73 w0 _ g s0_0 t440 from IsS73.q HI0.out)) : g ≠ gb452))
        have n16_ := Aside0.mk ((by rw [hg]; exact Nat.ne_of_gt (IsS73.lt (show IsS73 w0 _ g s0_0 t440 from IsS73.q HI0.out)) : gb452 ≠ g))
        clear HO_435000 HO_435002 HO_435003 BK414 BK434 HI0 HK HB
        revert n0_ n1_ n2_ n3_ n4_ n5_ n6_ n7_ n8_ n9_ n10_ n11_ n12_ n13_ n14_ n15_ n16_
        intro HO_435000 HO_435002 HO_435003 BK414 BK434 HI0 HK HB BK452 GW452 GE452 NB414_452 NB452_414 NB434_452 NB452_434 NB0_452 NB452_0
        clear hb hbox hg
        refine hK.out _ _ ⟨(blk_cell BK434.out 0).trans rfl, (blk_cell BK434.out 1).trans rfl, (blk_cell BK434.out 2).trans rfl, (blk_cell BK434.out 3).trans rfl⟩ (fun hHeld => ?_)
        clear hK K
        refine normq 8 ?_
        refine one_ (i := 5) (N := some 28) #[true, true, true, true, true, true, false, false, false, true, false, false] rfl rfl (one_of HT_.out (by kernel_rfl)) (by decide) (fun K hK => ?_)
        refine goes_ Try.func67 (by kernel_rfl) rfl #[.agg #[.slice Ao23 x435000_1.length co23, .int .i64 x435001_1, .slice Ao24 x435002_1.length co24, .slice Ao25 x435003_1.length co25], .agg #[.int .i64 t437, .int .i64 t438, .int .i64 t439]] (by rfl) rfl rfl mpq ?_
        with_reducible refine (spec_DeskDo.calls k1 _ _ x435000_1 x435001_1 _ _ x435002_1 _ _ x435003_1 t437 t438 t439 t441 t444 t445 t448 true _ ?side1 ?side2 ?side3 ?side4 ?side5 ?side6 A21.out).mono ?_
        (case side1 => exact coq ((Kd.R_reads' HO_435000.out).2.2))
        (case side2 => exact (Kd.R_reads' HO_435000.out).2.1)
        (case side3 => exact coq ((Kd.R_reads' HO_435002.out).2.2))
        (case side4 => exact (Kd.R_reads' HO_435002.out).2.1)
        (case side5 => exact coq ((Kd.Q_reads' HO_435003.out).2.2))
        (case side6 => exact (Kd.Q_reads' HO_435003.out).2.1)
        rintro e w29 ⟨v442, v446, v449, rfl, ho0, ho1, ho2, hb⟩
        refine ⟨_, rfl, ?_⟩
        have n0_ := Aside0.mk (Kd.R_mono (Kd.R_told (Kd.R_told (Kd.R_old (roq HO_435000.out) hb) (Kd.R_base ho0)) (Kd.R_base ho1)) (fun _ h_ => h_.1))
        have n1_ := Aside0.mk (Kd.R_mono (Kd.R_told (Kd.R_told (Kd.R_old (roq HO_435002.out) hb) (Kd.R_base ho0)) (Kd.R_base ho1)) (fun _ h_ => h_.1))
        have n2_ := Aside0.mk (Kd.Q_mono (Kd.Q_told (Kd.Q_told (Kd.Q_told (Kd.Q_old (qoq HO_435003.out) hb) (Kd.R_base ho0)) (Kd.R_base ho1)) (Kd.Q_base ho2)) (fun _ h_ => h_.1))
        have n3_ := Aside0.mk (Kd.R_lower (Kd.R_new' (Kd.R_new' ho0 (Kd.R_lt (roq HO_435000.out))) (Kd.R_lt (roq HO_435002.out))) (ksq (hkqa HK.out)))
        have n4_ := Aside0.mk (Kd.R_lower (Kd.R_new' (Kd.R_new' ho1 (Kd.R_lt (roq HO_435000.out))) (Kd.R_lt (roq HO_435002.out))) (ksq (hkqa HK.out)))
        have n5_ := Aside0.mk (Kd.Q_lower (Kd.Q_new' (Kd.Q_new' (Kd.Q_new' ho2 (Kd.R_lt (roq HO_435000.out))) (Kd.R_lt (roq HO_435002.out))) (Kd.Q_lt (qoq HO_435003.out))) (ksq (hkqa HK.out)))
        have n6_ := Aside0.mk (blk_below (bkq BK414.out) hb)
        have n7_ := Aside0.mk (blk_below (bkq BK434.out) hb)
        have n8_ := Aside0.mk (IsS73.below (IsS73.q HI0.out) hb)
        have n9_ := Aside0.mk (blk_below (bkq BK452.out) hb)
        have n10_ := Aside0.mk (KeepBut.trans (hkqa HK.out) (KeepBut.of_below hb g none) (.inl rfl))
        have n11_ := Aside0.mk (below_step (hbqs HB.out (IsS73.ge HI0.out)) hb)
        clear HO_435000 HO_435002 HO_435003 BK414 BK434 HI0 BK452 HK HB
        revert n0_ n1_ n2_ n3_ n4_ n5_ n6_ n7_ n8_ n9_ n10_ n11_
        intro HO_435000 HO_435002 HO_435003 HO443 HO447 HO450 BK414 BK434 HI0 BK452 HK HB
        (try clear hb)
        (try clear hb2)
        (try clear hk)
        (try clear hi)
        (try clear ho0)
        (try clear ho1)
        (try clear ho2)
        refine hK.out _ _ ⟨(blk_cell BK434.out 0).trans rfl, (blk_cell BK434.out 1).trans rfl, (blk_cell BK434.out 2).trans rfl, (blk_cell BK434.out 3).trans rfl⟩ (fun hHeld => ?_)
        clear hK K
        refine normq 28 ?_
        refine pureq (i := 6) (N := some 22) #[true, true, true, true, true, true, true, false, false, true, false, false] rfl rfl HT_.out ?_
        refine pureq (i := 7) (N := some 29) #[true, true, true, true, true, true, true, true, false, true, false, false] rfl rfl HT_.out ?_
        refine pureq (i := 8) (N := some 30) #[true, true, true, true, true, true, true, true, true, true, false, false] rfl rfl HT_.out ?_
        exact norm_ (by simp only [putAll, Act.put, List.setIfInBounds_toArray, List.set_cons_zero, List.set_cons_succ]) (hCont (v442, v446, v449, gb452) _ ⟨hHeld, (roq (Kd.R_mono HO443.out (fun _ hk => ⟨hk.1.1, ⟨hk.1.2, hk.2⟩⟩))), (roq (Kd.R_mono HO447.out (fun _ hk => ⟨hk.1.1, ⟨hk.1.2, hk.2⟩⟩))), (qoq (Kd.Q_mono HO450.out (fun _ hk => ⟨hk.1.1.1.1, ⟨hk.1.1.1.2, ⟨hk.1.1.2, ⟨hk.1.2, hk.2⟩⟩⟩⟩))), (roq (Kd.R_mono HO_435000.out (fun _ hk => ⟨hk.1.2, ⟨hk.2, hk.1.1⟩⟩))), (roq (Kd.R_mono HO_435002.out (fun _ hk => ⟨hk.1.2, ⟨hk.2, hk.1.1⟩⟩))), (qoq (Kd.Q_mono HO_435003.out (fun _ hk => ⟨hk.1.1.2, ⟨hk.1.2, ⟨hk.2, ⟨hk.1.1.1.1, hk.1.1.1.2⟩⟩⟩⟩))), (bkq BK414.out), (bkq BK434.out), (bkq BK452.out), GW452.out, GE452.out, NB0_452.out, NB452_0.out, NB414_452.out, NB452_414.out, NB434_452.out, NB452_434.out, (IsS73.q HI0.out), (hkqa HK.out), (hbqs HB.out (IsS73.ge HI0.out))⟩)
      ·skip
       refine box_step ?hg (N := 8) ?hd (cs := #[.slice none 0 0, .int .i64 0, .slice none 0 0, .slice none 0 0]) (t := 29) ?hr ?_; (case hd => rfl); (case hg => rfl); (case hr => first | (go_simp; done) | (go_simp; rfl))
       intro gb452 hg w27 hbox hb
       have n0_ := Aside0.mk (Kd.R_below (roq HO_435000.out) hb)
       have n1_ := Aside0.mk (Kd.R_below (roq HO_435002.out) hb)
       have n2_ := Aside0.mk (Kd.Q_below (qoq HO_435003.out) hb)
       have n3_ := Aside0.mk (blk_below (bkq BK414.out) hb)
       have n4_ := Aside0.mk (blk_below (bkq BK434.out) hb)
       have n5_ := Aside0.mk (IsS73.below (IsS73.q HI0.out) hb)
       have n6_ := Aside0.mk (KeepBut.trans (hkqa HK.out) (KeepBut.of_below hb g none) (.inl rfl))
       have n7_ := Aside0.mk (below_step (hbqs HB.out (IsS73.ge HI0.out)) hb)
       have n8_ := Aside0.mk (hbox)
       have n9_ := Aside0.mk ((by rw [hg]; exact (ksq (hkqa HK.out)) : w.heap.size ≤ gb452))
       have n10_ := Aside0.mk ((Nat.le_trans HW0.out (by rw [hg]; exact (ksq (hkqa HK.out)) : w.heap.size ≤ gb452) : w0.heap.size ≤ gb452))
       have n11_ := Aside0.mk ((by rw [hg]; exact Nat.ne_of_lt (blk_lt (bkq BK414.out)) : gb414 ≠ gb452))
       have n12_ := Aside0.mk ((by rw [hg]; exact Nat.ne_of_gt (blk_lt (bkq BK414.out)) : gb452 ≠ gb414))
       have n13_ := Aside0.mk ((by rw [hg]; exact Nat.ne_of_lt (blk_lt (bkq BK434.out)) : gb434 ≠ gb452))
       have n14_ := Aside0.mk ((by rw [hg]; exact Nat.ne_of_gt (blk_lt (bkq BK434.out)) : gb452 ≠ gb434))
       have n15_ := Aside0.mk ((by rw [hg]; exact Nat.ne_of_lt (IsS73.lt (show IsS73 w0 _ g s0_0 x1001_1 from IsS73.q HI0.out)) : g ≠ gb452))
       have n16_ := Aside0.mk ((by rw [hg]; exact Nat.ne_of_gt (IsS73.lt (show IsS73 w0 _ g s0_0 x1001_1 from IsS73.q HI0.out)) : gb452 ≠ g))
       clear HO_435000 HO_435002 HO_435003 BK414 BK434 HI0 HK HB
       revert n0_ n1_ n2_ n3_ n4_ n5_ n6_ n7_ n8_ n9_ n10_ n11_ n12_ n13_ n14_ n15_ n16_
       intro HO_435000 HO_435002 HO_435003 BK414 BK434 HI0 HK HB BK452 GW452 GE452 NB414_452 NB452_414 NB434_452 NB452_434 NB0_452 NB452_0
       clear hb hbox hg
       refine hK.out _ _ ⟨(blk_cell BK434.out 0).trans rfl, (blk_cell BK434.out 1).trans rfl, (blk_cell BK434.out 2).trans rfl, (blk_cell BK434.out 3).trans rfl⟩ (fun hHeld => ?_)
       clear hK K
       refine normq 8 ?_
       refine one_ (i := 4) (N := some 27) #[true, true, true, true, true, false, false, false, false, true, false, false] rfl rfl (one_of HT_.out (by kernel_rfl)) (by decide) (fun K hK => ?_)
       refine goes_ Try.func68 (by kernel_rfl) rfl #[.pointer (some ⟨g, 0, none⟩), .agg #[.slice Ao23 x435000_1.length co23, .int .i64 x435001_1, .slice Ao24 x435002_1.length co24]] (by rfl) rfl rfl mpq ?_
       with_reducible refine (spec_l20Deed.calls k1 g s0_0 x1001_1 _ _ x435000_1 x435001_1 _ _ x435002_1 t437 t438 t439 t440 w0 _ ?side1 ?side2 ?side3 ?side4 ?side5 ?side6 ?side7 ?side8 A20.out).mono ?_
       (case side1 => exact IsS73.q HI0.out)
       (case side2 => exact hbqs HB.out (IsS73.ge HI0.out))
       (case side3 => exact coq ((Kd.R_reads' HO_435000.out).2.2))
       (case side4 => exact (Kd.R_reads' HO_435000.out).2.1)
       (case side5 => exact far_slice (IsS73.own_ne HI0.out HO_435000.out (by decide)))
       (case side6 => exact coq ((Kd.R_reads' HO_435002.out).2.2))
       (case side7 => exact (Kd.R_reads' HO_435002.out).2.1)
       (case side8 => exact far_slice (IsS73.own_ne HI0.out HO_435002.out (by decide)))
       rintro e w28 ⟨rfl, hi, hb, hk⟩
       refine ⟨_, rfl, ?_⟩
       have n0_ := Aside0.mk (Kd.R_mono (Kd.R_keep (IsS73.apart (show IsS73 w0 _ g s0_0 x1001_1 from IsS73.q HI0.out) (roq HO_435000.out) (by decide)) hk (fun _ h => h.2)) (fun _ h => h.1))
       have n1_ := Aside0.mk (Kd.R_mono (Kd.R_keep (IsS73.apart (show IsS73 w0 _ g s0_0 x1001_1 from IsS73.q HI0.out) (roq HO_435002.out) (by decide)) hk (fun _ h => h.2)) (fun _ h => h.1))
       have n2_ := Aside0.mk (Kd.Q_mono (Kd.Q_keep (IsS73.apartQ (show IsS73 w0 _ g s0_0 x1001_1 from IsS73.q HI0.out) (qoq HO_435003.out) (by decide)) hk (fun _ h => h.2)) (fun _ h => h.1))
       have n3_ := Aside0.mk (KeepBut.blk hk (bkq BK414.out) NB414_0.out (by simp))
       have n4_ := Aside0.mk (KeepBut.blk hk (bkq BK434.out) NB434_0.out (by simp))
       have n5_ := Aside0.mk (KeepBut.blk hk (bkq BK452.out) NB452_0.out (by simp))
       have n6_ := Aside0.mk (KeepBut.trans (hkqa HK.out) hk (.inl rfl))
       have n7_ := Aside0.mk (hb)
       have n8_ := Aside0.mk (hi)
       clear HO_435000 HO_435002 HO_435003 BK414 BK434 BK452 HK HB HI0
       revert n0_ n1_ n2_ n3_ n4_ n5_ n6_ n7_ n8_
       intro HO_435000 HO_435002 HO_435003 BK414 BK434 BK452 HK HB HI0
       (try clear hb)
       (try clear hb2)
       (try clear hk)
       (try clear hi)
       refine hK.out _ _ ⟨(blk_cell BK434.out 0).trans rfl, (blk_cell BK434.out 1).trans rfl, (blk_cell BK434.out 2).trans rfl, (blk_cell BK434.out 3).trans rfl⟩ (fun hHeld => ?_)
       clear hK K
       refine normq 27 ?_
       refine one_ (i := 5) (N := some 28) #[true, true, true, true, true, true, false, false, false, true, false, false] rfl rfl (one_of HT_.out (by kernel_rfl)) (by decide) (fun K hK => ?_)
       refine goes_ Try.func67 (by kernel_rfl) rfl #[.agg #[.slice Ao23 x435000_1.length co23, .int .i64 x435001_1, .slice Ao24 x435002_1.length co24, .slice Ao25 x435003_1.length co25], .agg #[.int .i64 t437, .int .i64 t438, .int .i64 t439]] (by rfl) rfl rfl mpq ?_
       with_reducible refine (spec_DeskDo.calls k1 _ _ x435000_1 x435001_1 _ _ x435002_1 _ _ x435003_1 t437 t438 t439 t441 t444 t445 t448 true _ ?side1 ?side2 ?side3 ?side4 ?side5 ?side6 A21.out).mono ?_
       (case side1 => exact coq ((Kd.R_reads' HO_435000.out).2.2))
       (case side2 => exact (Kd.R_reads' HO_435000.out).2.1)
       (case side3 => exact coq ((Kd.R_reads' HO_435002.out).2.2))
       (case side4 => exact (Kd.R_reads' HO_435002.out).2.1)
       (case side5 => exact coq ((Kd.Q_reads' HO_435003.out).2.2))
       (case side6 => exact (Kd.Q_reads' HO_435003.out).2.1)
       rintro e w29 ⟨v442, v446, v449, rfl, ho0, ho1, ho2, hb⟩
       refine ⟨_, rfl, ?_⟩
       have n0_ := Aside0.mk (Kd.R_mono (Kd.R_told (Kd.R_told (Kd.R_old (roq HO_435000.out) hb) (Kd.R_base ho0)) (Kd.R_base ho1)) (fun _ h_ => h_.1))
       have n1_ := Aside0.mk (Kd.R_mono (Kd.R_told (Kd.R_told (Kd.R_old (roq HO_435002.out) hb) (Kd.R_base ho0)) (Kd.R_base ho1)) (fun _ h_ => h_.1))
       have n2_ := Aside0.mk (Kd.Q_mono (Kd.Q_told (Kd.Q_told (Kd.Q_told (Kd.Q_old (qoq HO_435003.out) hb) (Kd.R_base ho0)) (Kd.R_base ho1)) (Kd.Q_base ho2)) (fun _ h_ => h_.1))
       have n3_ := Aside0.mk (Kd.R_lower (Kd.R_new' (Kd.R_new' ho0 (Kd.R_lt (roq HO_435000.out))) (Kd.R_lt (roq HO_435002.out))) (ksq (hkqa HK.out)))
       have n4_ := Aside0.mk (Kd.R_lower (Kd.R_new' (Kd.R_new' ho1 (Kd.R_lt (roq HO_435000.out))) (Kd.R_lt (roq HO_435002.out))) (ksq (hkqa HK.out)))
       have n5_ := Aside0.mk (Kd.Q_lower (Kd.Q_new' (Kd.Q_new' (Kd.Q_new' ho2 (Kd.R_lt (roq HO_435000.out))) (Kd.R_lt (roq HO_435002.out))) (Kd.Q_lt (qoq HO_435003.out))) (ksq (hkqa HK.out)))
       have n6_ := Aside0.mk (blk_below (bkq BK414.out) hb)
       have n7_ := Aside0.mk (blk_below (bkq BK434.out) hb)
       have n8_ := Aside0.mk (IsS73.below (IsS73.q HI0.out) hb)
       have n9_ := Aside0.mk (blk_below (bkq BK452.out) hb)
       have n10_ := Aside0.mk (KeepBut.trans (hkqa HK.out) (KeepBut.of_below hb g none) (.inl rfl))
       have n11_ := Aside0.mk (below_step (hbqs HB.out (IsS73.ge HI0.out)) hb)
       clear HO_435000 HO_435002 HO_435003 BK414 BK434 HI0 BK452 HK HB
       revert n0_ n1_ n2_ n3_ n4_ n5_ n6_ n7_ n8_ n9_ n10_ n11_
       intro HO_435000 HO_435002 HO_435003 HO443 HO447 HO450 BK414 BK434 HI0 BK452 HK HB
       (try clear hb)
       (try clear hb2)
       (try clear hk)
       (try clear hi)
       (try clear ho0)
       (try clear ho1)
       (try clear ho2)
       refine hK.out _ _ ⟨(blk_cell BK434.out 0).trans rfl, (blk_cell BK434.out 1).trans rfl, (blk_cell BK434.out 2).trans rfl, (blk_cell BK434.out 3).trans rfl⟩ (fun hHeld => ?_)
       clear hK K
       refine normq 28 ?_
       refine pureq (i := 6) (N := some 22) #[true, true, true, true, true, true, true, false, false, true, false, false] rfl rfl HT_.out ?_
       refine pureq (i := 7) (N := some 29) #[true, true, true, true, true, true, true, true, false, true, false, false] rfl rfl HT_.out ?_
       refine pureq (i := 8) (N := some 30) #[true, true, true, true, true, true, true, true, true, true, false, false] rfl rfl HT_.out ?_
       exact norm_ (by simp only [putAll, Act.put, List.setIfInBounds_toArray, List.set_cons_zero, List.set_cons_succ]) (hCont (v442, v446, v449, gb452) _ ⟨hHeld, (roq (Kd.R_mono HO443.out (fun _ hk => ⟨hk.1.1, ⟨hk.1.2, hk.2⟩⟩))), (roq (Kd.R_mono HO447.out (fun _ hk => ⟨hk.1.1, ⟨hk.1.2, hk.2⟩⟩))), (qoq (Kd.Q_mono HO450.out (fun _ hk => ⟨hk.1.1.1.1, ⟨hk.1.1.1.2, ⟨hk.1.1.2, ⟨hk.1.2, hk.2⟩⟩⟩⟩))), (roq (Kd.R_mono HO_435000.out (fun _ hk => ⟨hk.1.2, ⟨hk.2, hk.1.1⟩⟩))), (roq (Kd.R_mono HO_435002.out (fun _ hk => ⟨hk.1.2, ⟨hk.2, hk.1.1⟩⟩))), (qoq (Kd.Q_mono HO_435003.out (fun _ hk => ⟨hk.1.1.2, ⟨hk.1.2, ⟨hk.2, ⟨hk.1.1.1.1, hk.1.1.1.2⟩⟩⟩⟩))), (bkq BK414.out), (bkq BK434.out), (bkq BK452.out), GW452.out, GE452.out, NB0_452.out, NB452_0.out, NB414_452.out, NB452_414.out, NB434_452.out, NB452_434.out, (IsS73.q HI0.out), (hkqa HK.out), (hbqs HB.out (IsS73.ge HI0.out))⟩)
     rintro ⟨v442, v446, v449, gb452⟩ w30 ⟨hS_, h0_, h1_, h2_, h3_, h4_, h5_, h6_, h7_, h8_, h9_, h10_, h11_, h12_, h13_, h14_, h15_, h16_, h17_, h18_, h19_⟩
     have n0_ : Aside0 (Kd.R (Kd.int .i64) 3 w30 w.heap.size (fun k_ => some k_ ≠ (v446 : Value).ownBlock ∧ some k_ ≠ (.slice Ao23 x435000_1.length co23 : Value).ownBlock ∧ some k_ ≠ (.slice Ao24 x435002_1.length co24 : Value).ownBlock) v442 t441) := ⟨h0_⟩
     have n1_ : Aside0 (Kd.R (Kd.int .i64) 3 w30 w.heap.size (fun k_ => some k_ ≠ (v442 : Value).ownBlock ∧ some k_ ≠ (.slice Ao23 x435000_1.length co23 : Value).ownBlock ∧ some k_ ≠ (.slice Ao24 x435002_1.length co24 : Value).ownBlock) v446 t445) := ⟨h1_⟩
     have n2_ : Aside0 (Kd.Q k26 26 w30 w.heap.size (fun k_ => some k_ ≠ (v442 : Value).ownBlock ∧ some k_ ≠ (v446 : Value).ownBlock ∧ some k_ ≠ (.slice Ao23 x435000_1.length co23 : Value).ownBlock ∧ some k_ ≠ (.slice Ao24 x435002_1.length co24 : Value).ownBlock ∧ some k_ ≠ (.slice Ao25 x435003_1.length co25 : Value).ownBlock) v449 t448) := ⟨h2_⟩
     have n3_ : Aside0 (Kd.R (Kd.int .i64) 3 w30 w.heap.size (fun k_ => some k_ ≠ (v442 : Value).ownBlock ∧ some k_ ≠ (v446 : Value).ownBlock ∧ some k_ ≠ (.slice Ao24 x435002_1.length co24 : Value).ownBlock) (.slice Ao23 x435000_1.length co23) x435000_1) := ⟨h3_⟩
     have n4_ : Aside0 (Kd.R (Kd.int .i64) 3 w30 w.heap.size (fun k_ => some k_ ≠ (v442 : Value).ownBlock ∧ some k_ ≠ (v446 : Value).ownBlock ∧ some k_ ≠ (.slice Ao23 x435000_1.length co23 : Value).ownBlock) (.slice Ao24 x435002_1.length co24) x435002_1) := ⟨h4_⟩
     have n5_ : Aside0 (Kd.Q k26 26 w30 w.heap.size (fun k_ => some k_ ≠ (v442 : Value).ownBlock ∧ some k_ ≠ (v446 : Value).ownBlock ∧ some k_ ≠ (v449 : Value).ownBlock ∧ some k_ ≠ (.slice Ao23 x435000_1.length co23 : Value).ownBlock ∧ some k_ ≠ (.slice Ao24 x435002_1.length co24 : Value).ownBlock) (.slice Ao25 x435003_1.length co25) x435003_1) := ⟨h5_⟩
     have n6_ : Aside0 (w30.heap[gb414]? = some (.cells #[.slice none 0 0, .int .i64 0, .slice none 0 0, .slice none 0 0] 29 (0, 0))) := ⟨h6_⟩
     have n7_ : Aside0 (w30.heap[gb434]? = some (.cells #[.slice Ao23 x435000_1.length co23, .int .i64 x435001_1, .slice Ao24 x435002_1.length co24, .slice Ao25 x435003_1.length co25] 29 (0, 0))) := ⟨h7_⟩
     have n8_ : Aside0 (w30.heap[gb452]? = some (.cells #[.slice none 0 0, .int .i64 0, .slice none 0 0, .slice none 0 0] 29 (0, 0))) := ⟨h8_⟩
     have n9_ : Aside0 (w.heap.size ≤ gb452) := ⟨h9_⟩
     have n10_ : Aside0 (w0.heap.size ≤ gb452) := ⟨h10_⟩
     have n11_ : Aside0 (g ≠ gb452) := ⟨h11_⟩
     have n12_ : Aside0 (gb452 ≠ g) := ⟨h12_⟩
     have n13_ : Aside0 (gb414 ≠ gb452) := ⟨h13_⟩
     have n14_ : Aside0 (gb452 ≠ gb414) := ⟨h14_⟩
     have n15_ : Aside0 (gb434 ≠ gb452) := ⟨h15_⟩
     have n16_ : Aside0 (gb452 ≠ gb434) := ⟨h16_⟩
     have n17_ : Aside0 (IsS73 w0 w30 g s0_0 t440) := ⟨h17_⟩
     have n18_ : Aside0 (KeepBut w w30 g none) := ⟨h18_⟩
     have n19_ : Aside0 (Below w0.heap.size w0 w30) := ⟨h19_⟩
     clear HO_435000
     clear HO_435002
     clear HO_435003
     clear BK414
     clear BK434
     clear HI0
     clear HK
     clear HB
     clear h0_ h1_ h2_ h3_ h4_ h5_ h6_ h7_ h8_ h9_ h10_ h11_ h12_ h13_ h14_ h15_ h16_ h17_ h18_ h19_
     have HO443 := n0_
     have HO447 := n1_
     have HO450 := n2_
     have HO_435000 := n3_
     have HO_435002 := n4_
     have HO_435003 := n5_
     have BK414 := n6_
     have BK434 := n7_
     have BK452 := n8_
     have GW452 := n9_
     have GE452 := n10_
     have NB0_452 := n11_
     have NB452_0 := n12_
     have NB414_452 := n13_
     have NB452_414 := n14_
     have NB434_452 := n15_
     have NB452_434 := n16_
     have HI0 := n17_
     have HK := n18_
     have HB := n19_
     clear n0_ n1_ n2_ n3_ n4_ n5_ n6_ n7_ n8_ n9_ n10_ n11_ n12_ n13_ n14_ n15_ n16_ n17_ n18_ n19_
     have hHeld : w30.cell? ⟨gb434, 0, none⟩ = some (.slice Ao23 x435000_1.length co23) ∧ w30.cell? ⟨gb434, 1, none⟩ = some (.int .i64 x435001_1) ∧ w30.cell? ⟨gb434, 2, none⟩ = some (.slice Ao24 x435002_1.length co24) ∧ w30.cell? ⟨gb434, 3, none⟩ = some (.slice Ao25 x435003_1.length co25) := hS_
     obtain ⟨Ao31, co31, eo31⟩ := Kd.R_slice HO443.out
     (first | subst eo31 | (injection eo31 with f1_ f2_ f3_; have f4_ := f1_.symm; have f5_ := f3_.symm; clear f1_ f2_ f3_; subst f4_; subst f5_))
     obtain ⟨Ao34, co34, eo34⟩ := Kd.R_slice HO447.out
     (first | subst eo34 | (injection eo34 with f1_ f2_ f3_; have f4_ := f1_.symm; have f5_ := f3_.symm; clear f1_ f2_ f3_; subst f4_; subst f5_))
     obtain ⟨Ao36, co36, eo36, _⟩ := Kd.Q_slice HO450.out
     (first | subst eo36 | (injection eo36 with f1_ f2_ f3_; have f4_ := f1_.symm; have f5_ := f3_.symm; clear f1_ f2_ f3_; subst f4_; subst f5_))
     refine norm_ (a' := ?_) ?_ ?_
     rotate_left
     ·simp only [putAll, Act.put, List.setIfInBounds_toArray, List.set_cons_zero, List.set_cons_succ]
      rfl
     refine one_ (i := 10) (N := none) #[true, true, true, true, true, true, true, true, true, true, true, false] rfl rfl (one_of HT_.out (by kernel_rfl)) (by decide) (fun K hK => ?_)
     have hs32 : w30.cell? ⟨gb452, 0, none⟩ = some (.slice none 0 0) := (blk_cell BK452.out 0).trans rfl
     have hfs32 := blk_frozen BK452.out 0
     have hns32_0 := NB414_452.out
     have hns32_1 := NB434_452.out
     have hms32_0 := NB452_414.out
     have hms32_1 := NB452_434.out
     have hs33 : w30.cell? ⟨gb452, 1, none⟩ = some (.int .i64 0) := (blk_cell BK452.out 1).trans rfl
     have hfs33 := blk_frozen BK452.out 1
     have hns33_0 := NB414_452.out
     have hns33_1 := NB434_452.out
     have hms33_0 := NB452_414.out
     have hms33_1 := NB452_434.out
     have hs35 : w30.cell? ⟨gb452, 2, none⟩ = some (.slice none 0 0) := (blk_cell BK452.out 2).trans rfl
     have hfs35 := blk_frozen BK452.out 2
     have hns35_0 := NB414_452.out
     have hns35_1 := NB434_452.out
     have hms35_0 := NB452_414.out
     have hms35_1 := NB452_434.out
     have hs37 : w30.cell? ⟨gb452, 3, none⟩ = some (.slice none 0 0) := (blk_cell BK452.out 3).trans rfl
     have hfs37 := blk_frozen BK452.out 3
     have hns37_0 := NB414_452.out
     have hns37_1 := NB434_452.out
     have hms37_0 := NB452_414.out
     have hms37_1 := NB452_434.out
     refine skip_ (w1 := ?_) (by rfl) rfl ?_ ?_
     rotate_left
     ·go_simp
      rfl
     refine hK.out _ _ ⟨((cell_far (p := ⟨gb452, _, none⟩) NB434_452.out _).trans (((cell_far (p := ⟨gb452, _, none⟩) NB434_452.out _).trans (((cell_far (p := ⟨gb452, _, none⟩) NB434_452.out _).trans (((cell_far (p := ⟨gb452, _, none⟩) NB434_452.out _).trans (hHeld.1)))))))), ((cell_far (p := ⟨gb452, _, none⟩) NB434_452.out _).trans (((cell_far (p := ⟨gb452, _, none⟩) NB434_452.out _).trans (((cell_far (p := ⟨gb452, _, none⟩) NB434_452.out _).trans (((cell_far (p := ⟨gb452, _, none⟩) NB434_452.out _).trans (hHeld.2.1)))))))), ((cell_far (p := ⟨gb452, _, none⟩) NB434_452.out _).trans (((cell_far (p := ⟨gb452, _, none⟩) NB434_452.out _).trans (((cell_far (p := ⟨gb452, _, none⟩) NB434_452.out _).trans (((cell_far (p := ⟨gb452, _, none⟩) NB434_452.out _).trans (hHeld.2.2.1)))))))), ((cell_far (p := ⟨gb452, _, none⟩) NB434_452.out _).trans (((cell_far (p := ⟨gb452, _, none⟩) NB434_452.out _).trans (((cell_far (p := ⟨gb452, _, none⟩) NB434_452.out _).trans (((cell_far (p := ⟨gb452, _, none⟩) NB434_452.out _).trans (hHeld.2.2.2))))))))⟩ (fun hHeld => ?_)
     clear hK K
     refine pureq (i := 11) (N := some 9) #[true, true, true, true, true, true, true, true, true, true, true, true] rfl rfl HT_.out ?_
     refine done_ (done_of HT_.out (by kernel_rfl)) ?_
     have hnb38 := NB452_414.out
     have hnc38 := NB414_452.out
     have hnb39 := NB452_434.out
     have hnc39 := NB434_452.out
     have hnb40 := NB452_0.out
     have hnc40 := NB0_452.out
     have hcz41_0 : w30.cell? ⟨gb452, 0, none⟩ = some (.slice none 0 0) := (blk_cell BK452.out 0).trans rfl
     have hcz41_1 : w30.cell? ⟨gb452, 1, none⟩ = some (.int .i64 0) := (blk_cell BK452.out 1).trans rfl
     have hcz41_2 : w30.cell? ⟨gb452, 2, none⟩ = some (.slice none 0 0) := (blk_cell BK452.out 2).trans rfl
     have hcz41_3 : w30.cell? ⟨gb452, 3, none⟩ = some (.slice none 0 0) := (blk_cell BK452.out 3).trans rfl
     have hfz41_0 := blk_frozen BK452.out 0
     have hfz41_1 := blk_frozen BK452.out 1
     have hfz41_2 := blk_frozen BK452.out 2
     have hfz41_3 := blk_frozen BK452.out 3
     have hnb42 := NB434_414.out
     have hnc42 := NB414_434.out
     have hnb43 := NB434_0.out
     have hnc43 := NB0_434.out
     have hcz44_0 : w30.cell? ⟨gb434, 0, none⟩ = some (.slice Ao23 x435000_1.length co23) := (blk_cell BK434.out 0).trans rfl
     have hcz44_1 : w30.cell? ⟨gb434, 1, none⟩ = some (.int .i64 x435001_1) := (blk_cell BK434.out 1).trans rfl
     have hcz44_2 : w30.cell? ⟨gb434, 2, none⟩ = some (.slice Ao24 x435002_1.length co24) := (blk_cell BK434.out 2).trans rfl
     have hcz44_3 : w30.cell? ⟨gb434, 3, none⟩ = some (.slice Ao25 x435003_1.length co25) := (blk_cell BK434.out 3).trans rfl
     have hfz44_0 := blk_frozen BK434.out 0
     have hfz44_1 := blk_frozen BK434.out 1
     have hfz44_2 := blk_frozen BK434.out 2
     have hfz44_3 := blk_frozen BK434.out 3
     try go_wp2
     go_roundg k1
     case measure => have := HK1.out; omega
     case rel => exact ⟨(wrap64 (x7_1 - 1)), (t440), (t441), (t444), (t445), (t448), (.slice Ao31 t441.length co31), (.slice Ao34 t445.length co34), (.slice Ao36 t448.length co36), rfq, H', ⟨by have := HK1.out; omega⟩, ⟨by refine roq ?_; exact Kd.R_mono (Kd.R_far (p := ⟨gb434, 3, none⟩) (Kd.R_far (p := ⟨gb434, 2, none⟩) (Kd.R_far (p := ⟨gb434, 1, none⟩) (Kd.R_far (p := ⟨gb434, 0, none⟩) (Kd.R_far (p := ⟨gb452, 3, none⟩) (Kd.R_far (p := ⟨gb452, 2, none⟩) (Kd.R_far (p := ⟨gb452, 1, none⟩) (Kd.R_far (p := ⟨gb452, 0, none⟩) (Kd.R_types (Kd.R_types HO443.out BK452.out (by decide)) BK434.out (by decide)) (fun _ hk => hk.1.2) (.slice Ao31 t441.length co31)) (fun _ hk => hk.1.2) (.int .i64 t444)) (fun _ hk => hk.1.2) (.slice Ao34 t445.length co34)) (fun _ hk => hk.1.2) (.slice Ao36 t448.length co36)) (fun _ hk => hk.2) (.slice Ao31 t441.length co31)) (fun _ hk => hk.2) (.int .i64 t444)) (fun _ hk => hk.2) (.slice Ao34 t445.length co34)) (fun _ hk => hk.2) (.slice Ao36 t448.length co36)) (fun _ hk => hk.1.1.1)⟩, ⟨by refine roq ?_; exact Kd.R_mono (Kd.R_far (p := ⟨gb434, 3, none⟩) (Kd.R_far (p := ⟨gb434, 2, none⟩) (Kd.R_far (p := ⟨gb434, 1, none⟩) (Kd.R_far (p := ⟨gb434, 0, none⟩) (Kd.R_far (p := ⟨gb452, 3, none⟩) (Kd.R_far (p := ⟨gb452, 2, none⟩) (Kd.R_far (p := ⟨gb452, 1, none⟩) (Kd.R_far (p := ⟨gb452, 0, none⟩) (Kd.R_types (Kd.R_types HO447.out BK452.out (by decide)) BK434.out (by decide)) (fun _ hk => hk.1.2) (.slice Ao31 t441.length co31)) (fun _ hk => hk.1.2) (.int .i64 t444)) (fun _ hk => hk.1.2) (.slice Ao34 t445.length co34)) (fun _ hk => hk.1.2) (.slice Ao36 t448.length co36)) (fun _ hk => hk.2) (.slice Ao31 t441.length co31)) (fun _ hk => hk.2) (.int .i64 t444)) (fun _ hk => hk.2) (.slice Ao34 t445.length co34)) (fun _ hk => hk.2) (.slice Ao36 t448.length co36)) (fun _ hk => hk.1.1.1)⟩, ⟨by refine qoq ?_; exact Kd.Q_mono (Kd.Q_far (p := ⟨gb434, 3, none⟩) (Kd.Q_far (p := ⟨gb434, 2, none⟩) (Kd.Q_far (p := ⟨gb434, 1, none⟩) (Kd.Q_far (p := ⟨gb434, 0, none⟩) (Kd.Q_far (p := ⟨gb452, 3, none⟩) (Kd.Q_far (p := ⟨gb452, 2, none⟩) (Kd.Q_far (p := ⟨gb452, 1, none⟩) (Kd.Q_far (p := ⟨gb452, 0, none⟩) (Kd.Q_types (Kd.Q_types HO450.out BK452.out (by decide)) BK434.out (by decide)) (fun _ hk => hk.1.2) (.slice Ao31 t441.length co31)) (fun _ hk => hk.1.2) (.int .i64 t444)) (fun _ hk => hk.1.2) (.slice Ao34 t445.length co34)) (fun _ hk => hk.1.2) (.slice Ao36 t448.length co36)) (fun _ hk => hk.2) (.slice Ao31 t441.length co31)) (fun _ hk => hk.2) (.int .i64 t444)) (fun _ hk => hk.2) (.slice Ao34 t445.length co34)) (fun _ hk => hk.2) (.slice Ao36 t448.length co36)) (fun _ hk => ⟨hk.1.1.1, hk.1.1.2.1⟩)⟩, ⟨by refine bkq ?_; refine blk_far ?_ NB414_434.out _; refine bkq ?_; refine blk_far ?_ NB414_434.out _; refine bkq ?_; refine blk_far ?_ NB414_434.out _; refine bkq ?_; refine blk_far ?_ NB414_434.out _; refine bkq ?_; refine blk_far ?_ NB414_452.out _; refine bkq ?_; refine blk_far ?_ NB414_452.out _; refine bkq ?_; refine blk_far ?_ NB414_452.out _; refine bkq ?_; refine blk_far ?_ NB414_452.out _; refine bkq ?_; exact BK414.out⟩, ⟨by refine bkq ?_; refine blk_put (cs := #[.slice Ao31 t441.length co31, .int .i64 t444, .slice Ao34 t445.length co34, .slice Ao25 x435003_1.length co25]) ?_ 3 _ rfl; refine bkq ?_; refine blk_put (cs := #[.slice Ao31 t441.length co31, .int .i64 t444, .slice Ao24 x435002_1.length co24, .slice Ao25 x435003_1.length co25]) ?_ 2 _ rfl; refine bkq ?_; refine blk_put (cs := #[.slice Ao31 t441.length co31, .int .i64 x435001_1, .slice Ao24 x435002_1.length co24, .slice Ao25 x435003_1.length co25]) ?_ 1 _ rfl; refine bkq ?_; refine blk_put (cs := #[.slice Ao23 x435000_1.length co23, .int .i64 x435001_1, .slice Ao24 x435002_1.length co24, .slice Ao25 x435003_1.length co25]) ?_ 0 _ rfl; refine bkq ?_; refine blk_far ?_ NB434_452.out _; refine bkq ?_; refine blk_far ?_ NB434_452.out _; refine bkq ?_; refine blk_far ?_ NB434_452.out _; refine bkq ?_; refine blk_far ?_ NB434_452.out _; refine bkq ?_; exact BK434.out⟩, ⟨IsS73.q HI0.out⟩, ⟨hkqa HK.out⟩, ⟨hbqs HB.out (IsS73.ge HI0.out)⟩⟩
    ·replace c22 := Bool.eq_false_iff.mpr c22
     subst c22
     have H1 : (spec_l20Desk.l0 k1 a1 (wrap64 (x7_1 - 1)) s0_0 t440 x435000_1 x435001_1 x435002_1 x435003_1) = some (r1, r2, r3, r4, r5) := by rw [if_neg (show ¬ (false = true) by decide)] at H; exact H
     clear H
     have H := H1
     clear H1
     have H' := Aside0.mk H
     clear H
     obtain ⟨Ao45, co45, eo45⟩ := Kd.R_slice HO_435000.out
     subst eo45
     obtain ⟨Ao46, co46, eo46⟩ := Kd.R_slice HO_435002.out
     subst eo46
     obtain ⟨Ao47, co47, eo47, _⟩ := Kd.Q_slice HO_435003.out
     subst eo47
     try go_wp2
     have n0_ := Aside0.mk (Kd.R_drew HO_435000.out)
     have n1_ := Aside0.mk (Kd.R_drew HO_435002.out)
     have n2_ := Aside0.mk (Kd.Q_drew HO_435003.out)
     have n3_ := Aside0.mk (blk_drew BK414.out)
     have n4_ := Aside0.mk (blk_drew BK434.out)
     have n5_ := Aside0.mk (IsS73.drew HI0.out)
     have n6_ := Aside0.mk (keep_drew HK.out)
     have n7_ := Aside0.mk (below_drew1 HB.out)
     clear HO_435000 HO_435002 HO_435003 BK414 BK434 HI0 HK HB
     revert n0_ n1_ n2_ n3_ n4_ n5_ n6_ n7_
     intro HO_435000 HO_435002 HO_435003 BK414 BK434 HI0 HK HB
     refine start_ (n := 12) (S := fun w' => w'.cell? ⟨gb434, 0, none⟩ = some (.slice Ao45 x435000_1.length co45) ∧ w'.cell? ⟨gb434, 1, none⟩ = some (.int .i64 x435001_1) ∧ w'.cell? ⟨gb434, 2, none⟩ = some (.slice Ao46 x435002_1.length co46) ∧ w'.cell? ⟨gb434, 3, none⟩ = some (.slice Ao47 x435003_1.length co47)) (ds := []) #[false, false, false, false, false, false, false, false, false, false, false, false] (by kernel_rfl) rfl rfl ⟨(blk_cell BK434.out 0).trans rfl, (blk_cell BK434.out 1).trans rfl, (blk_cell BK434.out 2).trans rfl, (blk_cell BK434.out 3).trans rfl⟩ (fun hHeld => ?_); refine with_tabW spec_l20Desk.tab5 spec_l20Desk.bits5 (fun HT_ HW_ => ?_)
     generalize wr.drew = w48 at HO_435000 HO_435002 HO_435003 BK414 BK434 HI0 HK HB hHeld ⊢
     refine pureq (i := 1) (N := some 24) #[false, true, false, false, false, false, false, false, false, false, false, false] rfl rfl HT_.out ?_
     refine pureq (i := 2) (N := some 25) #[false, true, true, false, false, false, false, false, false, false, false, false] rfl rfl HT_.out ?_
     refine take_ (i := 0) (N := some 23) (v := ?_) (a' := ?_) #[true, true, true, false, false, false, false, false, false, false, false, false] rfl rfl (take_ofW HT_.out HW_.out (by kernel_rfl)) (fun _ _ _ h => h) (Or.inl ⟨by rfl, ?_⟩) hHeld ?_ ?_
     rotate_left
     ·rintro w' ⟨s0, s1, s2, s3⟩
      go_simp
      with_reducible rfl
     rotate_left
     ·simp only [Act.put, List.setIfInBounds_toArray, List.set_cons_zero, List.set_cons_succ, i64_w, i32_w]
      rfl
     refine take_ (i := 3) (N := some 26) (v := ?_) (a' := ?_) #[true, true, true, true, false, false, false, false, false, false, false, false] rfl rfl (take_ofW HT_.out HW_.out (by kernel_rfl)) (fun _ _ _ h => h) (Or.inl ⟨by rfl, ?_⟩) hHeld ?_ ?_
     rotate_left
     ·rintro w' ⟨s0, s1, s2, s3⟩
      go_simp
      with_reducible rfl
     rotate_left
     ·simp only [Act.put, List.setIfInBounds_toArray, List.set_cons_zero, List.set_cons_succ, i64_w, i32_w]
      rfl
     refine join_ (σ := Value × Value × Value × Nat) 2 #[true, true, true, true, true, true, true, true, true, true, false, false] (fun s_ => [(27, .agg #[.int .i64 t437, .int .i64 t438, .int .i64 t439]), (28, .tuple #[.agg #[s_.1, .int .i64 t444, s_.2.1, s_.2.2.1], .bool false]), (8, .pointer (some ⟨s_.2.2.2, 0, none⟩)), (22, .tuple #[.agg #[s_.1, .int .i64 t444, s_.2.1, s_.2.2.1], .bool false]), (29, .agg #[s_.1, .int .i64 t444, s_.2.1, s_.2.2.1]), (30, .bool false)]) (fun s_ w' => (w'.cell? ⟨gb434, 0, none⟩ = some (.slice Ao45 x435000_1.length co45) ∧ w'.cell? ⟨gb434, 1, none⟩ = some (.int .i64 x435001_1) ∧ w'.cell? ⟨gb434, 2, none⟩ = some (.slice Ao46 x435002_1.length co46) ∧ w'.cell? ⟨gb434, 3, none⟩ = some (.slice Ao47 x435003_1.length co47)) ∧ (Kd.R (Kd.int .i64) 3 w' w.heap.size (fun k_ => some k_ ≠ (s_.2.1 : Value).ownBlock ∧ some k_ ≠ (.slice Ao45 x435000_1.length co45 : Value).ownBlock ∧ some k_ ≠ (.slice Ao46 x435002_1.length co46 : Value).ownBlock) s_.1 t441) ∧ (Kd.R (Kd.int .i64) 3 w' w.heap.size (fun k_ => some k_ ≠ (s_.1 : Value).ownBlock ∧ some k_ ≠ (.slice Ao45 x435000_1.length co45 : Value).ownBlock ∧ some k_ ≠ (.slice Ao46 x435002_1.length co46 : Value).ownBlock) s_.2.1 t445) ∧ (Kd.Q k26 26 w' w.heap.size (fun k_ => some k_ ≠ (s_.1 : Value).ownBlock ∧ some k_ ≠ (s_.2.1 : Value).ownBlock ∧ some k_ ≠ (.slice Ao45 x435000_1.length co45 : Value).ownBlock ∧ some k_ ≠ (.slice Ao46 x435002_1.length co46 : Value).ownBlock ∧ some k_ ≠ (.slice Ao47 x435003_1.length co47 : Value).ownBlock) s_.2.2.1 t448) ∧ (Kd.R (Kd.int .i64) 3 w' w.heap.size (fun k_ => some k_ ≠ (s_.1 : Value).ownBlock ∧ some k_ ≠ (s_.2.1 : Value).ownBlock ∧ some k_ ≠ (.slice Ao46 x435002_1.length co46 : Value).ownBlock) (.slice Ao45 x435000_1.length co45) x435000_1) ∧ (Kd.R (Kd.int .i64) 3 w' w.heap.size (fun k_ => some k_ ≠ (s_.1 : Value).ownBlock ∧ some k_ ≠ (s_.2.1 : Value).ownBlock ∧ some k_ ≠ (.slice Ao45 x435000_1.length co45 : Value).ownBlock) (.slice Ao46 x435002_1.length co46) x435002_1) ∧ (Kd.Q k26 26 w' w.heap.size (fun k_ => some k_ ≠ (s_.1 : Value).ownBlock ∧ some k_ ≠ (s_.2.1 : Value).ownBlock ∧ some k_ ≠ (s_.2.2.1 : Value).ownBlock ∧ some k_ ≠ (.slice Ao45 x435000_1.length co45 : Value).ownBlock ∧ some k_ ≠ (.slice Ao46 x435002_1.length co46 : Value).ownBlock) (.slice Ao47 x435003_1.length co47) x435003_1) ∧ (w'.heap[gb414]? = some (.cells #[.slice none 0 0, .int .i64 0, .slice none 0 0, .slice none 0 0] 29 (0, 0))) ∧ (w'.heap[gb434]? = some (.cells #[.slice Ao45 x435000_1.length co45, .int .i64 x435001_1, .slice Ao46 x435002_1.length co46, .slice Ao47 x435003_1.length co47] 29 (0, 0))) ∧ (w'.heap[s_.2.2.2]? = some (.cells #[.slice none 0 0, .int .i64 0, .slice none 0 0, .slice none 0 0] 29 (0, 0))) ∧ (w.heap.size ≤ s_.2.2.2) ∧ (w0.heap.size ≤ s_.2.2.2) ∧ (g ≠ s_.2.2.2) ∧ (s_.2.2.2 ≠ g) ∧ (gb414 ≠ s_.2.2.2) ∧ (s_.2.2.2 ≠ gb414) ∧ (gb434 ≠ s_.2.2.2) ∧ (s_.2.2.2 ≠ gb434) ∧ (IsS73 w0 w' g s0_0 t440) ∧ (KeepBut w w' g none) ∧ (Below w0.heap.size w0 w')) ?_ ?_
     rotate_left
     ·intro hCont
      refine two_ (i := 4) (j := 9) (Ni := some 27) (Nj := some 8) #[true, true, true, true, true, false, false, false, false, false, false, false] #[true, true, true, true, false, false, false, false, false, true, false, false] rfl rfl rfl rfl (two_of HT_.out (by kernel_rfl)) (by decide) (by decide) (fun K hK => ?_) (fun K hK => ?_)
      ·skip
       refine goes_ Try.func68 (by kernel_rfl) rfl #[.pointer (some ⟨g, 0, none⟩), .agg #[.slice Ao45 x435000_1.length co45, .int .i64 x435001_1, .slice Ao46 x435002_1.length co46]] (by rfl) rfl rfl mpq ?_
       with_reducible refine (spec_l20Deed.calls k1 g s0_0 x1001_1 _ _ x435000_1 x435001_1 _ _ x435002_1 t437 t438 t439 t440 w0 _ ?side1 ?side2 ?side3 ?side4 ?side5 ?side6 ?side7 ?side8 A20.out).mono ?_
       (case side1 => exact IsS73.q HI0.out)
       (case side2 => exact hbqs HB.out (IsS73.ge HI0.out))
       (case side3 => exact coq ((Kd.R_reads' HO_435000.out).2.2))
       (case side4 => exact (Kd.R_reads' HO_435000.out).2.1)
       (case side5 => exact far_slice (IsS73.own_ne HI0.out HO_435000.out (by decide)))
       (case side6 => exact coq ((Kd.R_reads' HO_435002.out).2.2))
       (case side7 => exact (Kd.R_reads' HO_435002.out).2.1)
       (case side8 => exact far_slice (IsS73.own_ne HI0.out HO_435002.out (by decide)))
       rintro e w49 ⟨rfl, hi, hb, hk⟩
       refine ⟨_, rfl, ?_⟩
       have n0_ := Aside0.mk (Kd.R_mono (Kd.R_keep (IsS73.apart (show IsS73 w0 _ g s0_0 x1001_1 from IsS73.q HI0.out) (roq HO_435000.out) (by decide)) hk (fun _ h => h.2)) (fun _ h => h.1))
       have n1_ := Aside0.mk (Kd.R_mono (Kd.R_keep (IsS73.apart (show IsS73 w0 _ g s0_0 x1001_1 from IsS73.q HI0.out) (roq HO_435002.out) (by decide)) hk (fun _ h => h.2)) (fun _ h => h.1))
       have n2_ := Aside0.mk (Kd.Q_mono (Kd.Q_keep (IsS73.apartQ (show IsS73 w0 _ g s0_0 x1001_1 from IsS73.q HI0.out) (qoq HO_435003.out) (by decide)) hk (fun _ h => h.2)) (fun _ h => h.1))
       have n3_ := Aside0.mk (KeepBut.blk hk (bkq BK414.out) NB414_0.out (by simp))
       have n4_ := Aside0.mk (KeepBut.blk hk (bkq BK434.out) NB434_0.out (by simp))
       have n5_ := Aside0.mk (KeepBut.trans (hkqa HK.out) hk (.inl rfl))
       have n6_ := Aside0.mk (hb)
       have n7_ := Aside0.mk (hi)
       clear HO_435000 HO_435002 HO_435003 BK414 BK434 HK HB HI0
       revert n0_ n1_ n2_ n3_ n4_ n5_ n6_ n7_
       intro HO_435000 HO_435002 HO_435003 BK414 BK434 HK HB HI0
       (try clear hb)
       (try clear hb2)
       (try clear hk)
       (try clear hi)
       refine hK.out _ _ ⟨(blk_cell BK434.out 0).trans rfl, (blk_cell BK434.out 1).trans rfl, (blk_cell BK434.out 2).trans rfl, (blk_cell BK434.out 3).trans rfl⟩ (fun hHeld => ?_)
       clear hK K
       refine normq 27 ?_
       refine two_ (i := 5) (j := 9) (Ni := some 28) (Nj := some 8) #[true, true, true, true, true, true, false, false, false, false, false, false] #[true, true, true, true, true, false, false, false, false, true, false, false] rfl rfl rfl rfl (two_of HT_.out (by kernel_rfl)) (by decide) (by decide) (fun K hK => ?_) (fun K hK => ?_)
       ·skip
        refine goes_ Try.func67 (by kernel_rfl) rfl #[.agg #[.slice Ao45 x435000_1.length co45, .int .i64 x435001_1, .slice Ao46 x435002_1.length co46, .slice Ao47 x435003_1.length co47], .agg #[.int .i64 t437, .int .i64 t438, .int .i64 t439]] (by rfl) rfl rfl mpq ?_
        with_reducible refine (spec_DeskDo.calls k1 _ _ x435000_1 x435001_1 _ _ x435002_1 _ _ x435003_1 t437 t438 t439 t441 t444 t445 t448 false _ ?side1 ?side2 ?side3 ?side4 ?side5 ?side6 A21.out).mono ?_
        (case side1 => exact coq ((Kd.R_reads' HO_435000.out).2.2))
        (case side2 => exact (Kd.R_reads' HO_435000.out).2.1)
        (case side3 => exact coq ((Kd.R_reads' HO_435002.out).2.2))
        (case side4 => exact (Kd.R_reads' HO_435002.out).2.1)
        (case side5 => exact coq ((Kd.Q_reads' HO_435003.out).2.2))
        (case side6 => exact (Kd.Q_reads' HO_435003.out).2.1)
        rintro e w50 ⟨v442, v446, v449, rfl, ho0, ho1, ho2, hb⟩
        refine ⟨_, rfl, ?_⟩
        have n0_ := Aside0.mk (Kd.R_mono (Kd.R_told (Kd.R_told (Kd.R_old (roq HO_435000.out) hb) (Kd.R_base ho0)) (Kd.R_base ho1)) (fun _ h_ => h_.1))
        have n1_ := Aside0.mk (Kd.R_mono (Kd.R_told (Kd.R_told (Kd.R_old (roq HO_435002.out) hb) (Kd.R_base ho0)) (Kd.R_base ho1)) (fun _ h_ => h_.1))
        have n2_ := Aside0.mk (Kd.Q_mono (Kd.Q_told (Kd.Q_told (Kd.Q_told (Kd.Q_old (qoq HO_435003.out) hb) (Kd.R_base ho0)) (Kd.R_base ho1)) (Kd.Q_base ho2)) (fun _ h_ => h_.1))
        have n3_ := Aside0.mk (Kd.R_lower (Kd.R_new' (Kd.R_new' ho0 (Kd.R_lt (roq HO_435000.out))) (Kd.R_lt (roq HO_435002.out))) (ksq (hkqa HK.out)))
        have n4_ := Aside0.mk (Kd.R_lower (Kd.R_new' (Kd.R_new' ho1 (Kd.R_lt (roq HO_435000.out))) (Kd.R_lt (roq HO_435002.out))) (ksq (hkqa HK.out)))
        have n5_ := Aside0.mk (Kd.Q_lower (Kd.Q_new' (Kd.Q_new' (Kd.Q_new' ho2 (Kd.R_lt (roq HO_435000.out))) (Kd.R_lt (roq HO_435002.out))) (Kd.Q_lt (qoq HO_435003.out))) (ksq (hkqa HK.out)))
        have n6_ := Aside0.mk (blk_below (bkq BK414.out) hb)
        have n7_ := Aside0.mk (blk_below (bkq BK434.out) hb)
        have n8_ := Aside0.mk (IsS73.below (IsS73.q HI0.out) hb)
        have n9_ := Aside0.mk (KeepBut.trans (hkqa HK.out) (KeepBut.of_below hb g none) (.inl rfl))
        have n10_ := Aside0.mk (below_step (hbqs HB.out (IsS73.ge HI0.out)) hb)
        clear HO_435000 HO_435002 HO_435003 BK414 BK434 HI0 HK HB
        revert n0_ n1_ n2_ n3_ n4_ n5_ n6_ n7_ n8_ n9_ n10_
        intro HO_435000 HO_435002 HO_435003 HO443 HO447 HO450 BK414 BK434 HI0 HK HB
        (try clear hb)
        (try clear hb2)
        (try clear hk)
        (try clear hi)
        (try clear ho0)
        (try clear ho1)
        (try clear ho2)
        refine hK.out _ _ ⟨(blk_cell BK434.out 0).trans rfl, (blk_cell BK434.out 1).trans rfl, (blk_cell BK434.out 2).trans rfl, (blk_cell BK434.out 3).trans rfl⟩ (fun hHeld => ?_)
        clear hK K
        refine normq 28 ?_
        refine pureq (i := 6) (N := some 22) #[true, true, true, true, true, true, true, false, false, false, false, false] rfl rfl HT_.out ?_
        refine pureq (i := 7) (N := some 29) #[true, true, true, true, true, true, true, true, false, false, false, false] rfl rfl HT_.out ?_
        refine pureq (i := 8) (N := some 30) #[true, true, true, true, true, true, true, true, true, false, false, false] rfl rfl HT_.out ?_
        refine one_ (i := 9) (N := some 8) #[true, true, true, true, true, true, true, true, true, true, false, false] rfl rfl (one_of HT_.out (by kernel_rfl)) (by decide) (fun K hK => ?_)
        refine box_step ?hg (N := 8) ?hd (cs := #[.slice none 0 0, .int .i64 0, .slice none 0 0, .slice none 0 0]) (t := 29) ?hr ?_; (case hd => rfl); (case hg => rfl); (case hr => first | (go_simp; done) | (go_simp; rfl))
        intro gb452 hg w51 hbox hb
        have n0_ := Aside0.mk (Kd.R_below (roq HO_435000.out) hb)
        have n1_ := Aside0.mk (Kd.R_below (roq HO_435002.out) hb)
        have n2_ := Aside0.mk (Kd.Q_below (qoq HO_435003.out) hb)
        have n3_ := Aside0.mk (Kd.R_below (roq HO443.out) hb)
        have n4_ := Aside0.mk (Kd.R_below (roq HO447.out) hb)
        have n5_ := Aside0.mk (Kd.Q_below (qoq HO450.out) hb)
        have n6_ := Aside0.mk (blk_below (bkq BK414.out) hb)
        have n7_ := Aside0.mk (blk_below (bkq BK434.out) hb)
        have n8_ := Aside0.mk (IsS73.below (IsS73.q HI0.out) hb)
        have n9_ := Aside0.mk (KeepBut.trans (hkqa HK.out) (KeepBut.of_below hb g none) (.inl rfl))
        have n10_ := Aside0.mk (below_step (hbqs HB.out (IsS73.ge HI0.out)) hb)
        have n11_ := Aside0.mk (hbox)
        have n12_ := Aside0.mk ((by rw [hg]; exact (ksq (hkqa HK.out)) : w.heap.size ≤ gb452))
        have n13_ := Aside0.mk ((Nat.le_trans HW0.out (by rw [hg]; exact (ksq (hkqa HK.out)) : w.heap.size ≤ gb452) : w0.heap.size ≤ gb452))
        have n14_ := Aside0.mk ((by rw [hg]; exact Nat.ne_of_lt (blk_lt (bkq BK414.out)) : gb414 ≠ gb452))
        have n15_ := Aside0.mk ((by rw [hg]; exact Nat.ne_of_gt (blk_lt (bkq BK414.out)) : gb452 ≠ gb414))
        have n16_ := Aside0.mk ((by rw [hg]; exact Nat.ne_of_lt (blk_lt (bkq BK434.out)) : gb434 ≠ gb452))
        have n17_ := Aside0.mk ((by rw [hg]; exact Nat.ne_of_gt (blk_lt (bkq BK434.out)) : gb452 ≠ gb434))
        have n18_ := Aside0.mk ((by rw [hg]; exact Nat.ne_of_lt (IsS73.lt (show IsS73 w0 _ g s0_0 t440 from IsS73.q HI0.out)) : g ≠ gb452))
        have n19_ := Aside0.mk ((by rw [hg]; exact Nat.ne_of_gt (IsS73.lt (show IsS73 w0 _ g s0_0 t440 from IsS73.q HI0.out)) : gb452 ≠ g))
        clear HO_435000 HO_435002 HO_435003 HO443 HO447 HO450 BK414 BK434 HI0 HK HB
        revert n0_ n1_ n2_ n3_ n4_ n5_ n6_ n7_ n8_ n9_ n10_ n11_ n12_ n13_ n14_ n15_ n16_ n17_ n18_ n19_
        intro HO_435000 HO_435002 HO_435003 HO443 HO447 HO450 BK414 BK434 HI0 HK HB BK452 GW452 GE452 NB414_452 NB452_414 NB434_452 NB452_434 NB0_452 NB452_0
        clear hb hbox hg
        refine hK.out _ _ ⟨(blk_cell BK434.out 0).trans rfl, (blk_cell BK434.out 1).trans rfl, (blk_cell BK434.out 2).trans rfl, (blk_cell BK434.out 3).trans rfl⟩ (fun hHeld => ?_)
        clear hK K
        refine normq 8 ?_
        exact norm_ (by simp only [putAll, Act.put, List.setIfInBounds_toArray, List.set_cons_zero, List.set_cons_succ]) (hCont (v442, v446, v449, gb452) _ ⟨hHeld, (roq (Kd.R_mono HO443.out (fun _ hk => ⟨hk.1.1, ⟨hk.1.2, hk.2⟩⟩))), (roq (Kd.R_mono HO447.out (fun _ hk => ⟨hk.1.1, ⟨hk.1.2, hk.2⟩⟩))), (qoq (Kd.Q_mono HO450.out (fun _ hk => ⟨hk.1.1.1.1, ⟨hk.1.1.1.2, ⟨hk.1.1.2, ⟨hk.1.2, hk.2⟩⟩⟩⟩))), (roq (Kd.R_mono HO_435000.out (fun _ hk => ⟨hk.1.2, ⟨hk.2, hk.1.1⟩⟩))), (roq (Kd.R_mono HO_435002.out (fun _ hk => ⟨hk.1.2, ⟨hk.2, hk.1.1⟩⟩))), (qoq (Kd.Q_mono HO_435003.out (fun _ hk => ⟨hk.1.1.2, ⟨hk.1.2, ⟨hk.2, ⟨hk.1.1.1.1, hk.1.1.1.2⟩⟩⟩⟩))), (bkq BK414.out), (bkq BK434.out), (bkq BK452.out), GW452.out, GE452.out, NB0_452.out, NB452_0.out, NB414_452.out, NB452_414.out, NB434_452.out, NB452_434.out, (IsS73.q HI0.out), (hkqa HK.out), (hbqs HB.out (IsS73.ge HI0.out))⟩)
       ·skip
        refine box_step ?hg (N := 8) ?hd (cs := #[.slice none 0 0, .int .i64 0, .slice none 0 0, .slice none 0 0]) (t := 29) ?hr ?_; (case hd => rfl); (case hg => rfl); (case hr => first | (go_simp; done) | (go_simp; rfl))
        intro gb452 hg w50 hbox hb
        have n0_ := Aside0.mk (Kd.R_below (roq HO_435000.out) hb)
        have n1_ := Aside0.mk (Kd.R_below (roq HO_435002.out) hb)
        have n2_ := Aside0.mk (Kd.Q_below (qoq HO_435003.out) hb)
        have n3_ := Aside0.mk (blk_below (bkq BK414.out) hb)
        have n4_ := Aside0.mk (blk_below (bkq BK434.out) hb)
        have n5_ := Aside0.mk (IsS73.below (IsS73.q HI0.out) hb)
        have n6_ := Aside0.mk (KeepBut.trans (hkqa HK.out) (KeepBut.of_below hb g none) (.inl rfl))
        have n7_ := Aside0.mk (below_step (hbqs HB.out (IsS73.ge HI0.out)) hb)
        have n8_ := Aside0.mk (hbox)
        have n9_ := Aside0.mk ((by rw [hg]; exact (ksq (hkqa HK.out)) : w.heap.size ≤ gb452))
        have n10_ := Aside0.mk ((Nat.le_trans HW0.out (by rw [hg]; exact (ksq (hkqa HK.out)) : w.heap.size ≤ gb452) : w0.heap.size ≤ gb452))
        have n11_ := Aside0.mk ((by rw [hg]; exact Nat.ne_of_lt (blk_lt (bkq BK414.out)) : gb414 ≠ gb452))
        have n12_ := Aside0.mk ((by rw [hg]; exact Nat.ne_of_gt (blk_lt (bkq BK414.out)) : gb452 ≠ gb414))
        have n13_ := Aside0.mk ((by rw [hg]; exact Nat.ne_of_lt (blk_lt (bkq BK434.out)) : gb434 ≠ gb452))
        have n14_ := Aside0.mk ((by rw [hg]; exact Nat.ne_of_gt (blk_lt (bkq BK434.out)) : gb452 ≠ gb434))
        have n15_ := Aside0.mk ((by rw [hg]; exact Nat.ne_of_lt (IsS73.lt (show IsS73 w0 _ g s0_0 t440 from IsS73.q HI0.out)) : g ≠ gb452))
        have n16_ := Aside0.mk ((by rw [hg]; exact Nat.ne_of_gt (IsS73.lt (show IsS73 w0 _ g s0_0 t440 from IsS73.q HI0.out)) : gb452 ≠ g))
        clear HO_435000 HO_435002 HO_435003 BK414 BK434 HI0 HK HB
        revert n0_ n1_ n2_ n3_ n4_ n5_ n6_ n7_ n8_ n9_ n10_ n11_ n12_ n13_ n14_ n15_ n16_
        intro HO_435000 HO_435002 HO_435003 BK414 BK434 HI0 HK HB BK452 GW452 GE452 NB414_452 NB452_414 NB434_452 NB452_434 NB0_452 NB452_0
        clear hb hbox hg
        refine hK.out _ _ ⟨(blk_cell BK434.out 0).trans rfl, (blk_cell BK434.out 1).trans rfl, (blk_cell BK434.out 2).trans rfl, (blk_cell BK434.out 3).trans rfl⟩ (fun hHeld => ?_)
        clear hK K
        refine normq 8 ?_
        refine one_ (i := 5) (N := some 28) #[true, true, true, true, true, true, false, false, false, true, false, false] rfl rfl (one_of HT_.out (by kernel_rfl)) (by decide) (fun K hK => ?_)
        refine goes_ Try.func67 (by kernel_rfl) rfl #[.agg #[.slice Ao45 x435000_1.length co45, .int .i64 x435001_1, .slice Ao46 x435002_1.length co46, .slice Ao47 x435003_1.length co47], .agg #[.int .i64 t437, .int .i64 t438, .int .i64 t439]] (by rfl) rfl rfl mpq ?_
        with_reducible refine (spec_DeskDo.calls k1 _ _ x435000_1 x435001_1 _ _ x435002_1 _ _ x435003_1 t437 t438 t439 t441 t444 t445 t448 false _ ?side1 ?side2 ?side3 ?side4 ?side5 ?side6 A21.out).mono ?_
        (case side1 => exact coq ((Kd.R_reads' HO_435000.out).2.2))
        (case side2 => exact (Kd.R_reads' HO_435000.out).2.1)
        (case side3 => exact coq ((Kd.R_reads' HO_435002.out).2.2))
        (case side4 => exact (Kd.R_reads' HO_435002.out).2.1)
        (case side5 => exact coq ((Kd.Q_reads' HO_435003.out).2.2))
        (case side6 => exact (Kd.Q_reads' HO_435003.out).2.1)
        rintro e w51 ⟨v442, v446, v449, rfl, ho0, ho1, ho2, hb⟩
        refine ⟨_, rfl, ?_⟩
        have n0_ := Aside0.mk (Kd.R_mono (Kd.R_told (Kd.R_told (Kd.R_old (roq HO_435000.out) hb) (Kd.R_base ho0)) (Kd.R_base ho1)) (fun _ h_ => h_.1))
        have n1_ := Aside0.mk (Kd.R_mono (Kd.R_told (Kd.R_told (Kd.R_old (roq HO_435002.out) hb) (Kd.R_base ho0)) (Kd.R_base ho1)) (fun _ h_ => h_.1))
        have n2_ := Aside0.mk (Kd.Q_mono (Kd.Q_told (Kd.Q_told (Kd.Q_told (Kd.Q_old (qoq HO_435003.out) hb) (Kd.R_base ho0)) (Kd.R_base ho1)) (Kd.Q_base ho2)) (fun _ h_ => h_.1))
        have n3_ := Aside0.mk (Kd.R_lower (Kd.R_new' (Kd.R_new' ho0 (Kd.R_lt (roq HO_435000.out))) (Kd.R_lt (roq HO_435002.out))) (ksq (hkqa HK.out)))
        have n4_ := Aside0.mk (Kd.R_lower (Kd.R_new' (Kd.R_new' ho1 (Kd.R_lt (roq HO_435000.out))) (Kd.R_lt (roq HO_435002.out))) (ksq (hkqa HK.out)))
        have n5_ := Aside0.mk (Kd.Q_lower (Kd.Q_new' (Kd.Q_new' (Kd.Q_new' ho2 (Kd.R_lt (roq HO_435000.out))) (Kd.R_lt (roq HO_435002.out))) (Kd.Q_lt (qoq HO_435003.out))) (ksq (hkqa HK.out)))
        have n6_ := Aside0.mk (blk_below (bkq BK414.out) hb)
        have n7_ := Aside0.mk (blk_below (bkq BK434.out) hb)
        have n8_ := Aside0.mk (IsS73.below (IsS73.q HI0.out) hb)
        have n9_ := Aside0.mk (blk_below (bkq BK452.out) hb)
        have n10_ := Aside0.mk (KeepBut.trans (hkqa HK.out) (KeepBut.of_below hb g none) (.inl rfl))
        have n11_ := Aside0.mk (below_step (hbqs HB.out (IsS73.ge HI0.out)) hb)
        clear HO_435000 HO_435002 HO_435003 BK414 BK434 HI0 BK452 HK HB
        revert n0_ n1_ n2_ n3_ n4_ n5_ n6_ n7_ n8_ n9_ n10_ n11_
        intro HO_435000 HO_435002 HO_435003 HO443 HO447 HO450 BK414 BK434 HI0 BK452 HK HB
        (try clear hb)
        (try clear hb2)
        (try clear hk)
        (try clear hi)
        (try clear ho0)
        (try clear ho1)
        (try clear ho2)
        refine hK.out _ _ ⟨(blk_cell BK434.out 0).trans rfl, (blk_cell BK434.out 1).trans rfl, (blk_cell BK434.out 2).trans rfl, (blk_cell BK434.out 3).trans rfl⟩ (fun hHeld => ?_)
        clear hK K
        refine normq 28 ?_
        refine pureq (i := 6) (N := some 22) #[true, true, true, true, true, true, true, false, false, true, false, false] rfl rfl HT_.out ?_
        refine pureq (i := 7) (N := some 29) #[true, true, true, true, true, true, true, true, false, true, false, false] rfl rfl HT_.out ?_
        refine pureq (i := 8) (N := some 30) #[true, true, true, true, true, true, true, true, true, true, false, false] rfl rfl HT_.out ?_
        exact norm_ (by simp only [putAll, Act.put, List.setIfInBounds_toArray, List.set_cons_zero, List.set_cons_succ]) (hCont (v442, v446, v449, gb452) _ ⟨hHeld, (roq (Kd.R_mono HO443.out (fun _ hk => ⟨hk.1.1, ⟨hk.1.2, hk.2⟩⟩))), (roq (Kd.R_mono HO447.out (fun _ hk => ⟨hk.1.1, ⟨hk.1.2, hk.2⟩⟩))), (qoq (Kd.Q_mono HO450.out (fun _ hk => ⟨hk.1.1.1.1, ⟨hk.1.1.1.2, ⟨hk.1.1.2, ⟨hk.1.2, hk.2⟩⟩⟩⟩))), (roq (Kd.R_mono HO_435000.out (fun _ hk => ⟨hk.1.2, ⟨hk.2, hk.1.1⟩⟩))), (roq (Kd.R_mono HO_435002.out (fun _ hk => ⟨hk.1.2, ⟨hk.2, hk.1.1⟩⟩))), (qoq (Kd.Q_mono HO_435003.out (fun _ hk => ⟨hk.1.1.2, ⟨hk.1.2, ⟨hk.2, ⟨hk.1.1.1.1, hk.1.1.1.2⟩⟩⟩⟩))), (bkq BK414.out), (bkq BK434.out), (bkq BK452.out), GW452.out, GE452.out, NB0_452.out, NB452_0.out, NB414_452.out, NB452_414.out, NB434_452.out, NB452_434.out, (IsS73.q HI0.out), (hkqa HK.out), (hbqs HB.out (IsS73.ge HI0.out))⟩)
      ·skip
       refine box_step ?hg (N := 8) ?hd (cs := #[.slice none 0 0, .int .i64 0, .slice none 0 0, .slice none 0 0]) (t := 29) ?hr ?_; (case hd => rfl); (case hg => rfl); (case hr => first | (go_simp; done) | (go_simp; rfl))
       intro gb452 hg w49 hbox hb
       have n0_ := Aside0.mk (Kd.R_below (roq HO_435000.out) hb)
       have n1_ := Aside0.mk (Kd.R_below (roq HO_435002.out) hb)
       have n2_ := Aside0.mk (Kd.Q_below (qoq HO_435003.out) hb)
       have n3_ := Aside0.mk (blk_below (bkq BK414.out) hb)
       have n4_ := Aside0.mk (blk_below (bkq BK434.out) hb)
       have n5_ := Aside0.mk (IsS73.below (IsS73.q HI0.out) hb)
       have n6_ := Aside0.mk (KeepBut.trans (hkqa HK.out) (KeepBut.of_below hb g none) (.inl rfl))
       have n7_ := Aside0.mk (below_step (hbqs HB.out (IsS73.ge HI0.out)) hb)
       have n8_ := Aside0.mk (hbox)
       have n9_ := Aside0.mk ((by rw [hg]; exact (ksq (hkqa HK.out)) : w.heap.size ≤ gb452))
       have n10_ := Aside0.mk ((Nat.le_trans HW0.out (by rw [hg]; exact (ksq (hkqa HK.out)) : w.heap.size ≤ gb452) : w0.heap.size ≤ gb452))
       have n11_ := Aside0.mk ((by rw [hg]; exact Nat.ne_of_lt (blk_lt (bkq BK414.out)) : gb414 ≠ gb452))
       have n12_ := Aside0.mk ((by rw [hg]; exact Nat.ne_of_gt (blk_lt (bkq BK414.out)) : gb452 ≠ gb414))
       have n13_ := Aside0.mk ((by rw [hg]; exact Nat.ne_of_lt (blk_lt (bkq BK434.out)) : gb434 ≠ gb452))
       have n14_ := Aside0.mk ((by rw [hg]; exact Nat.ne_of_gt (blk_lt (bkq BK434.out)) : gb452 ≠ gb434))
       have n15_ := Aside0.mk ((by rw [hg]; exact Nat.ne_of_lt (IsS73.lt (show IsS73 w0 _ g s0_0 x1001_1 from IsS73.q HI0.out)) : g ≠ gb452))
       have n16_ := Aside0.mk ((by rw [hg]; exact Nat.ne_of_gt (IsS73.lt (show IsS73 w0 _ g s0_0 x1001_1 from IsS73.q HI0.out)) : gb452 ≠ g))
       clear HO_435000 HO_435002 HO_435003 BK414 BK434 HI0 HK HB
       revert n0_ n1_ n2_ n3_ n4_ n5_ n6_ n7_ n8_ n9_ n10_ n11_ n12_ n13_ n14_ n15_ n16_
       intro HO_435000 HO_435002 HO_435003 BK414 BK434 HI0 HK HB BK452 GW452 GE452 NB414_452 NB452_414 NB434_452 NB452_434 NB0_452 NB452_0
       clear hb hbox hg
       refine hK.out _ _ ⟨(blk_cell BK434.out 0).trans rfl, (blk_cell BK434.out 1).trans rfl, (blk_cell BK434.out 2).trans rfl, (blk_cell BK434.out 3).trans rfl⟩ (fun hHeld => ?_)
       clear hK K
       refine normq 8 ?_
       refine one_ (i := 4) (N := some 27) #[true, true, true, true, true, false, false, false, false, true, false, false] rfl rfl (one_of HT_.out (by kernel_rfl)) (by decide) (fun K hK => ?_)
       refine goes_ Try.func68 (by kernel_rfl) rfl #[.pointer (some ⟨g, 0, none⟩), .agg #[.slice Ao45 x435000_1.length co45, .int .i64 x435001_1, .slice Ao46 x435002_1.length co46]] (by rfl) rfl rfl mpq ?_
       with_reducible refine (spec_l20Deed.calls k1 g s0_0 x1001_1 _ _ x435000_1 x435001_1 _ _ x435002_1 t437 t438 t439 t440 w0 _ ?side1 ?side2 ?side3 ?side4 ?side5 ?side6 ?side7 ?side8 A20.out).mono ?_
       (case side1 => exact IsS73.q HI0.out)
       (case side2 => exact hbqs HB.out (IsS73.ge HI0.out))
       (case side3 => exact coq ((Kd.R_reads' HO_435000.out).2.2))
       (case side4 => exact (Kd.R_reads' HO_435000.out).2.1)
       (case side5 => exact far_slice (IsS73.own_ne HI0.out HO_435000.out (by decide)))
       (case side6 => exact coq ((Kd.R_reads' HO_435002.out).2.2))
       (case side7 => exact (Kd.R_reads' HO_435002.out).2.1)
       (case side8 => exact far_slice (IsS73.own_ne HI0.out HO_435002.out (by decide)))
       rintro e w50 ⟨rfl, hi, hb, hk⟩
       refine ⟨_, rfl, ?_⟩
       have n0_ := Aside0.mk (Kd.R_mono (Kd.R_keep (IsS73.apart (show IsS73 w0 _ g s0_0 x1001_1 from IsS73.q HI0.out) (roq HO_435000.out) (by decide)) hk (fun _ h => h.2)) (fun _ h => h.1))
       have n1_ := Aside0.mk (Kd.R_mono (Kd.R_keep (IsS73.apart (show IsS73 w0 _ g s0_0 x1001_1 from IsS73.q HI0.out) (roq HO_435002.out) (by decide)) hk (fun _ h => h.2)) (fun _ h => h.1))
       have n2_ := Aside0.mk (Kd.Q_mono (Kd.Q_keep (IsS73.apartQ (show IsS73 w0 _ g s0_0 x1001_1 from IsS73.q HI0.out) (qoq HO_435003.out) (by decide)) hk (fun _ h => h.2)) (fun _ h => h.1))
       have n3_ := Aside0.mk (KeepBut.blk hk (bkq BK414.out) NB414_0.out (by simp))
       have n4_ := Aside0.mk (KeepBut.blk hk (bkq BK434.out) NB434_0.out (by simp))
       have n5_ := Aside0.mk (KeepBut.blk hk (bkq BK452.out) NB452_0.out (by simp))
       have n6_ := Aside0.mk (KeepBut.trans (hkqa HK.out) hk (.inl rfl))
       have n7_ := Aside0.mk (hb)
       have n8_ := Aside0.mk (hi)
       clear HO_435000 HO_435002 HO_435003 BK414 BK434 BK452 HK HB HI0
       revert n0_ n1_ n2_ n3_ n4_ n5_ n6_ n7_ n8_
       intro HO_435000 HO_435002 HO_435003 BK414 BK434 BK452 HK HB HI0
       (try clear hb)
       (try clear hb2)
       (try clear hk)
       (try clear hi)
       refine hK.out _ _ ⟨(blk_cell BK434.out 0).trans rfl, (blk_cell BK434.out 1).trans rfl, (blk_cell BK434.out 2).trans rfl, (blk_cell BK434.out 3).trans rfl⟩ (fun hHeld => ?_)
       clear hK K
       refine normq 27 ?_
       refine one_ (i := 5) (N := some 28) #[true, true, true, true, true, true, false, false, false, true, false, false] rfl rfl (one_of HT_.out (by kernel_rfl)) (by decide) (fun K hK => ?_)
       refine goes_ Try.func67 (by kernel_rfl) rfl #[.agg #[.slice Ao45 x435000_1.length co45, .int .i64 x435001_1, .slice Ao46 x435002_1.length co46, .slice Ao47 x435003_1.length co47], .agg #[.int .i64 t437, .int .i64 t438, .int .i64 t439]] (by rfl) rfl rfl mpq ?_
       with_reducible refine (spec_DeskDo.calls k1 _ _ x435000_1 x435001_1 _ _ x435002_1 _ _ x435003_1 t437 t438 t439 t441 t444 t445 t448 false _ ?side1 ?side2 ?side3 ?side4 ?side5 ?side6 A21.out).mono ?_
       (case side1 => exact coq ((Kd.R_reads' HO_435000.out).2.2))
       (case side2 => exact (Kd.R_reads' HO_435000.out).2.1)
       (case side3 => exact coq ((Kd.R_reads' HO_435002.out).2.2))
       (case side4 => exact (Kd.R_reads' HO_435002.out).2.1)
       (case side5 => exact coq ((Kd.Q_reads' HO_435003.out).2.2))
       (case side6 => exact (Kd.Q_reads' HO_435003.out).2.1)
       rintro e w51 ⟨v442, v446, v449, rfl, ho0, ho1, ho2, hb⟩
       refine ⟨_, rfl, ?_⟩
       have n0_ := Aside0.mk (Kd.R_mono (Kd.R_told (Kd.R_told (Kd.R_old (roq HO_435000.out) hb) (Kd.R_base ho0)) (Kd.R_base ho1)) (fun _ h_ => h_.1))
       have n1_ := Aside0.mk (Kd.R_mono (Kd.R_told (Kd.R_told (Kd.R_old (roq HO_435002.out) hb) (Kd.R_base ho0)) (Kd.R_base ho1)) (fun _ h_ => h_.1))
       have n2_ := Aside0.mk (Kd.Q_mono (Kd.Q_told (Kd.Q_told (Kd.Q_told (Kd.Q_old (qoq HO_435003.out) hb) (Kd.R_base ho0)) (Kd.R_base ho1)) (Kd.Q_base ho2)) (fun _ h_ => h_.1))
       have n3_ := Aside0.mk (Kd.R_lower (Kd.R_new' (Kd.R_new' ho0 (Kd.R_lt (roq HO_435000.out))) (Kd.R_lt (roq HO_435002.out))) (ksq (hkqa HK.out)))
       have n4_ := Aside0.mk (Kd.R_lower (Kd.R_new' (Kd.R_new' ho1 (Kd.R_lt (roq HO_435000.out))) (Kd.R_lt (roq HO_435002.out))) (ksq (hkqa HK.out)))
       have n5_ := Aside0.mk (Kd.Q_lower (Kd.Q_new' (Kd.Q_new' (Kd.Q_new' ho2 (Kd.R_lt (roq HO_435000.out))) (Kd.R_lt (roq HO_435002.out))) (Kd.Q_lt (qoq HO_435003.out))) (ksq (hkqa HK.out)))
       have n6_ := Aside0.mk (blk_below (bkq BK414.out) hb)
       have n7_ := Aside0.mk (blk_below (bkq BK434.out) hb)
       have n8_ := Aside0.mk (IsS73.below (IsS73.q HI0.out) hb)
       have n9_ := Aside0.mk (blk_below (bkq BK452.out) hb)
       have n10_ := Aside0.mk (KeepBut.trans (hkqa HK.out) (KeepBut.of_below hb g none) (.inl rfl))
       have n11_ := Aside0.mk (below_step (hbqs HB.out (IsS73.ge HI0.out)) hb)
       clear HO_435000 HO_435002 HO_435003 BK414 BK434 HI0 BK452 HK HB
       revert n0_ n1_ n2_ n3_ n4_ n5_ n6_ n7_ n8_ n9_ n10_ n11_
       intro HO_435000 HO_435002 HO_435003 HO443 HO447 HO450 BK414 BK434 HI0 BK452 HK HB
       (try clear hb)
       (try clear hb2)
       (try clear hk)
       (try clear hi)
       (try clear ho0)
       (try clear ho1)
       (try clear ho2)
       refine hK.out _ _ ⟨(blk_cell BK434.out 0).trans rfl, (blk_cell BK434.out 1).trans rfl, (blk_cell BK434.out 2).trans rfl, (blk_cell BK434.out 3).trans rfl⟩ (fun hHeld => ?_)
       clear hK K
       refine normq 28 ?_
       refine pureq (i := 6) (N := some 22) #[true, true, true, true, true, true, true, false, false, true, false, false] rfl rfl HT_.out ?_
       refine pureq (i := 7) (N := some 29) #[true, true, true, true, true, true, true, true, false, true, false, false] rfl rfl HT_.out ?_
       refine pureq (i := 8) (N := some 30) #[true, true, true, true, true, true, true, true, true, true, false, false] rfl rfl HT_.out ?_
       exact norm_ (by simp only [putAll, Act.put, List.setIfInBounds_toArray, List.set_cons_zero, List.set_cons_succ]) (hCont (v442, v446, v449, gb452) _ ⟨hHeld, (roq (Kd.R_mono HO443.out (fun _ hk => ⟨hk.1.1, ⟨hk.1.2, hk.2⟩⟩))), (roq (Kd.R_mono HO447.out (fun _ hk => ⟨hk.1.1, ⟨hk.1.2, hk.2⟩⟩))), (qoq (Kd.Q_mono HO450.out (fun _ hk => ⟨hk.1.1.1.1, ⟨hk.1.1.1.2, ⟨hk.1.1.2, ⟨hk.1.2, hk.2⟩⟩⟩⟩))), (roq (Kd.R_mono HO_435000.out (fun _ hk => ⟨hk.1.2, ⟨hk.2, hk.1.1⟩⟩))), (roq (Kd.R_mono HO_435002.out (fun _ hk => ⟨hk.1.2, ⟨hk.2, hk.1.1⟩⟩))), (qoq (Kd.Q_mono HO_435003.out (fun _ hk => ⟨hk.1.1.2, ⟨hk.1.2, ⟨hk.2, ⟨hk.1.1.1.1, hk.1.1.1.2⟩⟩⟩⟩))), (bkq BK414.out), (bkq BK434.out), (bkq BK452.out), GW452.out, GE452.out, NB0_452.out, NB452_0.out, NB414_452.out, NB452_414.out, NB434_452.out, NB452_434.out, (IsS73.q HI0.out), (hkqa HK.out), (hbqs HB.out (IsS73.ge HI0.out))⟩)
     rintro ⟨v442, v446, v449, gb452⟩ w52 ⟨hS_, h0_, h1_, h2_, h3_, h4_, h5_, h6_, h7_, h8_, h9_, h10_, h11_, h12_, h13_, h14_, h15_, h16_, h17_, h18_, h19_⟩
     have n0_ : Aside0 (Kd.R (Kd.int .i64) 3 w52 w.heap.size (fun k_ => some k_ ≠ (v446 : Value).ownBlock ∧ some k_ ≠ (.slice Ao45 x435000_1.length co45 : Value).ownBlock ∧ some k_ ≠ (.slice Ao46 x435002_1.length co46 : Value).ownBlock) v442 t441) := ⟨h0_⟩
     have n1_ : Aside0 (Kd.R (Kd.int .i64) 3 w52 w.heap.size (fun k_ => some k_ ≠ (v442 : Value).ownBlock ∧ some k_ ≠ (.slice Ao45 x435000_1.length co45 : Value).ownBlock ∧ some k_ ≠ (.slice Ao46 x435002_1.length co46 : Value).ownBlock) v446 t445) := ⟨h1_⟩
     have n2_ : Aside0 (Kd.Q k26 26 w52 w.heap.size (fun k_ => some k_ ≠ (v442 : Value).ownBlock ∧ some k_ ≠ (v446 : Value).ownBlock ∧ some k_ ≠ (.slice Ao45 x435000_1.length co45 : Value).ownBlock ∧ some k_ ≠ (.slice Ao46 x435002_1.length co46 : Value).ownBlock ∧ some k_ ≠ (.slice Ao47 x435003_1.length co47 : Value).ownBlock) v449 t448) := ⟨h2_⟩
     have n3_ : Aside0 (Kd.R (Kd.int .i64) 3 w52 w.heap.size (fun k_ => some k_ ≠ (v442 : Value).ownBlock ∧ some k_ ≠ (v446 : Value).ownBlock ∧ some k_ ≠ (.slice Ao46 x435002_1.length co46 : Value).ownBlock) (.slice Ao45 x435000_1.length co45) x435000_1) := ⟨h3_⟩
     have n4_ : Aside0 (Kd.R (Kd.int .i64) 3 w52 w.heap.size (fun k_ => some k_ ≠ (v442 : Value).ownBlock ∧ some k_ ≠ (v446 : Value).ownBlock ∧ some k_ ≠ (.slice Ao45 x435000_1.length co45 : Value).ownBlock) (.slice Ao46 x435002_1.length co46) x435002_1) := ⟨h4_⟩
     have n5_ : Aside0 (Kd.Q k26 26 w52 w.heap.size (fun k_ => some k_ ≠ (v442 : Value).ownBlock ∧ some k_ ≠ (v446 : Value).ownBlock ∧ some k_ ≠ (v449 : Value).ownBlock ∧ some k_ ≠ (.slice Ao45 x435000_1.length co45 : Value).ownBlock ∧ some k_ ≠ (.slice Ao46 x435002_1.length co46 : Value).ownBlock) (.slice Ao47 x435003_1.length co47) x435003_1) := ⟨h5_⟩
     have n6_ : Aside0 (w52.heap[gb414]? = some (.cells #[.slice none 0 0, .int .i64 0, .slice none 0 0, .slice none 0 0] 29 (0, 0))) := ⟨h6_⟩
     have n7_ : Aside0 (w52.heap[gb434]? = some (.cells #[.slice Ao45 x435000_1.length co45, .int .i64 x435001_1, .slice Ao46 x435002_1.length co46, .slice Ao47 x435003_1.length co47] 29 (0, 0))) := ⟨h7_⟩
     have n8_ : Aside0 (w52.heap[gb452]? = some (.cells #[.slice none 0 0, .int .i64 0, .slice none 0 0, .slice none 0 0] 29 (0, 0))) := ⟨h8_⟩
     have n9_ : Aside0 (w.heap.size ≤ gb452) := ⟨h9_⟩
     have n10_ : Aside0 (w0.heap.size ≤ gb452) := ⟨h10_⟩
     have n11_ : Aside0 (g ≠ gb452) := ⟨h11_⟩
     have n12_ : Aside0 (gb452 ≠ g) := ⟨h12_⟩
     have n13_ : Aside0 (gb414 ≠ gb452) := ⟨h13_⟩
     have n14_ : Aside0 (gb452 ≠ gb414) := ⟨h14_⟩
     have n15_ : Aside0 (gb434 ≠ gb452) := ⟨h15_⟩
     have n16_ : Aside0 (gb452 ≠ gb434) := ⟨h16_⟩
     have n17_ : Aside0 (IsS73 w0 w52 g s0_0 t440) := ⟨h17_⟩
     have n18_ : Aside0 (KeepBut w w52 g none) := ⟨h18_⟩
     have n19_ : Aside0 (Below w0.heap.size w0 w52) := ⟨h19_⟩
     clear HO_435000
     clear HO_435002
     clear HO_435003
     clear BK414
     clear BK434
     clear HI0
     clear HK
     clear HB
     clear h0_ h1_ h2_ h3_ h4_ h5_ h6_ h7_ h8_ h9_ h10_ h11_ h12_ h13_ h14_ h15_ h16_ h17_ h18_ h19_
     have HO443 := n0_
     have HO447 := n1_
     have HO450 := n2_
     have HO_435000 := n3_
     have HO_435002 := n4_
     have HO_435003 := n5_
     have BK414 := n6_
     have BK434 := n7_
     have BK452 := n8_
     have GW452 := n9_
     have GE452 := n10_
     have NB0_452 := n11_
     have NB452_0 := n12_
     have NB414_452 := n13_
     have NB452_414 := n14_
     have NB434_452 := n15_
     have NB452_434 := n16_
     have HI0 := n17_
     have HK := n18_
     have HB := n19_
     clear n0_ n1_ n2_ n3_ n4_ n5_ n6_ n7_ n8_ n9_ n10_ n11_ n12_ n13_ n14_ n15_ n16_ n17_ n18_ n19_
     have hHeld : w52.cell? ⟨gb434, 0, none⟩ = some (.slice Ao45 x435000_1.length co45) ∧ w52.cell? ⟨gb434, 1, none⟩ = some (.int .i64 x435001_1) ∧ w52.cell? ⟨gb434, 2, none⟩ = some (.slice Ao46 x435002_1.length co46) ∧ w52.cell? ⟨gb434, 3, none⟩ = some (.slice Ao47 x435003_1.length co47) := hS_
     obtain ⟨Ao53, co53, eo53⟩ := Kd.R_slice HO443.out
     (first | subst eo53 | (injection eo53 with f1_ f2_ f3_; have f4_ := f1_.symm; have f5_ := f3_.symm; clear f1_ f2_ f3_; subst f4_; subst f5_))
     obtain ⟨Ao56, co56, eo56⟩ := Kd.R_slice HO447.out
     (first | subst eo56 | (injection eo56 with f1_ f2_ f3_; have f4_ := f1_.symm; have f5_ := f3_.symm; clear f1_ f2_ f3_; subst f4_; subst f5_))
     obtain ⟨Ao58, co58, eo58, _⟩ := Kd.Q_slice HO450.out
     (first | subst eo58 | (injection eo58 with f1_ f2_ f3_; have f4_ := f1_.symm; have f5_ := f3_.symm; clear f1_ f2_ f3_; subst f4_; subst f5_))
     refine norm_ (a' := ?_) ?_ ?_
     rotate_left
     ·simp only [putAll, Act.put, List.setIfInBounds_toArray, List.set_cons_zero, List.set_cons_succ]
      rfl
     refine one_ (i := 10) (N := none) #[true, true, true, true, true, true, true, true, true, true, true, false] rfl rfl (one_of HT_.out (by kernel_rfl)) (by decide) (fun K hK => ?_)
     have hs54 : w52.cell? ⟨gb452, 0, none⟩ = some (.slice none 0 0) := (blk_cell BK452.out 0).trans rfl
     have hfs54 := blk_frozen BK452.out 0
     have hns54_0 := NB414_452.out
     have hns54_1 := NB434_452.out
     have hms54_0 := NB452_414.out
     have hms54_1 := NB452_434.out
     have hs55 : w52.cell? ⟨gb452, 1, none⟩ = some (.int .i64 0) := (blk_cell BK452.out 1).trans rfl
     have hfs55 := blk_frozen BK452.out 1
     have hns55_0 := NB414_452.out
     have hns55_1 := NB434_452.out
     have hms55_0 := NB452_414.out
     have hms55_1 := NB452_434.out
     have hs57 : w52.cell? ⟨gb452, 2, none⟩ = some (.slice none 0 0) := (blk_cell BK452.out 2).trans rfl
     have hfs57 := blk_frozen BK452.out 2
     have hns57_0 := NB414_452.out
     have hns57_1 := NB434_452.out
     have hms57_0 := NB452_414.out
     have hms57_1 := NB452_434.out
     have hs59 : w52.cell? ⟨gb452, 3, none⟩ = some (.slice none 0 0) := (blk_cell BK452.out 3).trans rfl
     have hfs59 := blk_frozen BK452.out 3
     have hns59_0 := NB414_452.out
     have hns59_1 := NB434_452.out
     have hms59_0 := NB452_414.out
     have hms59_1 := NB452_434.out
     refine skip_ (w1 := ?_) (by rfl) rfl ?_ ?_
     rotate_left
     ·go_simp
      rfl
     refine hK.out _ _ ⟨((cell_far (p := ⟨gb452, _, none⟩) NB434_452.out _).trans (((cell_far (p := ⟨gb452, _, none⟩) NB434_452.out _).trans (((cell_far (p := ⟨gb452, _, none⟩) NB434_452.out _).trans (((cell_far (p := ⟨gb452, _, none⟩) NB434_452.out _).trans (hHeld.1)))))))), ((cell_far (p := ⟨gb452, _, none⟩) NB434_452.out _).trans (((cell_far (p := ⟨gb452, _, none⟩) NB434_452.out _).trans (((cell_far (p := ⟨gb452, _, none⟩) NB434_452.out _).trans (((cell_far (p := ⟨gb452, _, none⟩) NB434_452.out _).trans (hHeld.2.1)))))))), ((cell_far (p := ⟨gb452, _, none⟩) NB434_452.out _).trans (((cell_far (p := ⟨gb452, _, none⟩) NB434_452.out _).trans (((cell_far (p := ⟨gb452, _, none⟩) NB434_452.out _).trans (((cell_far (p := ⟨gb452, _, none⟩) NB434_452.out _).trans (hHeld.2.2.1)))))))), ((cell_far (p := ⟨gb452, _, none⟩) NB434_452.out _).trans (((cell_far (p := ⟨gb452, _, none⟩) NB434_452.out _).trans (((cell_far (p := ⟨gb452, _, none⟩) NB434_452.out _).trans (((cell_far (p := ⟨gb452, _, none⟩) NB434_452.out _).trans (hHeld.2.2.2))))))))⟩ (fun hHeld => ?_)
     clear hK K
     refine pureq (i := 11) (N := some 9) #[true, true, true, true, true, true, true, true, true, true, true, true] rfl rfl HT_.out ?_
     refine done_ (done_of HT_.out (by kernel_rfl)) ?_
     try go_wp2
     go_roundg k1
     case measure => have := HK1.out; omega
     case rel => exact ⟨(wrap64 (x7_1 - 1)), (t440), (x435000_1), (x435001_1), (x435002_1), (x435003_1), (.slice Ao45 x435000_1.length co45), (.slice Ao46 x435002_1.length co46), (.slice Ao47 x435003_1.length co47), rfq, H', ⟨by have := HK1.out; omega⟩, ⟨by refine roq ?_; exact Kd.R_mono (Kd.R_far (p := ⟨gb452, 3, none⟩) (Kd.R_far (p := ⟨gb452, 2, none⟩) (Kd.R_far (p := ⟨gb452, 1, none⟩) (Kd.R_far (p := ⟨gb452, 0, none⟩) (Kd.R_types HO_435000.out BK452.out (by decide)) (fun _ hk => hk.2) (.slice Ao53 t441.length co53)) (fun _ hk => hk.2) (.int .i64 t444)) (fun _ hk => hk.2) (.slice Ao56 t445.length co56)) (fun _ hk => hk.2) (.slice Ao58 t448.length co58)) (fun _ hk => hk.1.2.2)⟩, ⟨by refine roq ?_; exact Kd.R_mono (Kd.R_far (p := ⟨gb452, 3, none⟩) (Kd.R_far (p := ⟨gb452, 2, none⟩) (Kd.R_far (p := ⟨gb452, 1, none⟩) (Kd.R_far (p := ⟨gb452, 0, none⟩) (Kd.R_types HO_435002.out BK452.out (by decide)) (fun _ hk => hk.2) (.slice Ao53 t441.length co53)) (fun _ hk => hk.2) (.int .i64 t444)) (fun _ hk => hk.2) (.slice Ao56 t445.length co56)) (fun _ hk => hk.2) (.slice Ao58 t448.length co58)) (fun _ hk => hk.1.2.2)⟩, ⟨by refine qoq ?_; exact Kd.Q_mono (Kd.Q_far (p := ⟨gb452, 3, none⟩) (Kd.Q_far (p := ⟨gb452, 2, none⟩) (Kd.Q_far (p := ⟨gb452, 1, none⟩) (Kd.Q_far (p := ⟨gb452, 0, none⟩) (Kd.Q_types HO_435003.out BK452.out (by decide)) (fun _ hk => hk.2) (.slice Ao53 t441.length co53)) (fun _ hk => hk.2) (.int .i64 t444)) (fun _ hk => hk.2) (.slice Ao56 t445.length co56)) (fun _ hk => hk.2) (.slice Ao58 t448.length co58)) (fun _ hk => ⟨hk.1.2.2.2.1, hk.1.2.2.2.2⟩)⟩, ⟨by refine bkq ?_; refine blk_far ?_ NB414_452.out _; refine bkq ?_; refine blk_far ?_ NB414_452.out _; refine bkq ?_; refine blk_far ?_ NB414_452.out _; refine bkq ?_; refine blk_far ?_ NB414_452.out _; refine bkq ?_; exact BK414.out⟩, ⟨by refine bkq ?_; refine blk_far ?_ NB434_452.out _; refine bkq ?_; refine blk_far ?_ NB434_452.out _; refine bkq ?_; refine blk_far ?_ NB434_452.out _; refine bkq ?_; refine blk_far ?_ NB434_452.out _; refine bkq ?_; exact BK434.out⟩, ⟨IsS73.q HI0.out⟩, ⟨hkqa HK.out⟩, ⟨hbqs HB.out (IsS73.ge HI0.out)⟩⟩
   ·rw [if_neg c19] at H
    have c19b0 : decide (0 < x7_1) = false := decide_eq_false c19
    clear c19
    replace H := Option.bind_eq_some_iff.mp H
    obtain ⟨⟨t453, t454⟩, A600, H⟩ := H
    replace H : (if t453 = true then ((spec_l20Rd_pick.f k1 s0_0 t454 3).bind fun bt455 => (if bt455.1 = 0 then (some (x435000_1, 2, x435002_1, x435003_1, bt455.2)) else (if bt455.1 = 1 then (if x435003_1.length < 2513169434916 then (some (x435000_1, x435001_1, x435002_1, (x435003_1 ++ [(⟨([] : List Int), 0, ([] : List Int)⟩ : S26)]), bt455.2)) else (none)) else (some (([] : List Int), 0, ([] : List Int), ([] : List (S26)), bt455.2))))) else (some (x435000_1, x435001_1, x435002_1, x435003_1, t454))) = some (r1, r2, r3, r4, r5) := H
    have A60 := Aside0.mk A600
    clear A600
    by_cases c61 : t453 = true
    ·subst c61
     have H1 : ((spec_l20Rd_pick.f k1 s0_0 t454 3).bind fun bt455 => (if bt455.1 = 0 then (some (x435000_1, 2, x435002_1, x435003_1, bt455.2)) else (if bt455.1 = 1 then (if x435003_1.length < 2513169434916 then (some (x435000_1, x435001_1, x435002_1, (x435003_1 ++ [(⟨([] : List Int), 0, ([] : List Int)⟩ : S26)]), bt455.2)) else (none)) else (some (([] : List Int), 0, ([] : List Int), ([] : List (S26)), bt455.2))))) = some (r1, r2, r3, r4, r5) := by rw [if_pos rfl] at H; exact H
     clear H
     have H := H1
     clear H1
     replace H := Option.bind_eq_some_iff.mp H
     obtain ⟨⟨t455, t456⟩, A620, H⟩ := H
     replace H : (if t455 = 0 then (some (x435000_1, 2, x435002_1, x435003_1, t456)) else (if t455 = 1 then (if x435003_1.length < 2513169434916 then (some (x435000_1, x435001_1, x435002_1, (x435003_1 ++ [(⟨([] : List Int), 0, ([] : List Int)⟩ : S26)]), t456)) else (none)) else (some (([] : List Int), 0, ([] : List Int), ([] : List (S26)), t456)))) = some (r1, r2, r3, r4, r5) := H
     have A62 := Aside0.mk A620
     clear A620
     by_cases c63 : t455 = 0
     ·rw [if_pos c63] at H
      have c63b0 : (t455 == 0) = true := beq_iff_eq.mpr c63
      have c63b1 : (t455 != 0) = false := bne_eq_false_iff_eq.mpr c63
      clear c63
      simp only [Option.some.injEq, Prod.mk.injEq] at H
      obtain ⟨rfl, rfl, rfl, rfl, rfl⟩ := H
      go_wp2_with (first | ((with_reducible refine gate_callee (f := 63) rfl ?_); refine goesL_ (some 35) rfl rfl Try.func63 (by kernel_rfl) rfl #[.pointer (some ⟨g, 0, none⟩), .int .i64 a1] rfl mpq ?_; (with_reducible refine (spec_l20Rd_odd.calls k1 g s0_0 x1001_1 a1 true t454 w0 _ ?side1 ?side2 A60.out).mono ?_); (case side1 => exact IsS73.q HI0.out); (case side2 => exact hbqs HB.out (IsS73.ge HI0.out)); rintro e w64 ⟨rfl, hi, hb, hk⟩; refine ⟨_, rfl, ?_⟩; have n0_ := Aside0.mk (Kd.R_mono (Kd.R_keep (IsS73.apart (show IsS73 w0 _ g s0_0 x1001_1 from IsS73.q HI0.out) (roq HO_435000.out) (by decide)) hk (fun _ h => h.2)) (fun _ h => h.1)); have n1_ := Aside0.mk (Kd.R_mono (Kd.R_keep (IsS73.apart (show IsS73 w0 _ g s0_0 x1001_1 from IsS73.q HI0.out) (roq HO_435002.out) (by decide)) hk (fun _ h => h.2)) (fun _ h => h.1)); have n2_ := Aside0.mk (Kd.Q_mono (Kd.Q_keep (IsS73.apartQ (show IsS73 w0 _ g s0_0 x1001_1 from IsS73.q HI0.out) (qoq HO_435003.out) (by decide)) hk (fun _ h => h.2)) (fun _ h => h.1)); have n3_ := Aside0.mk (KeepBut.blk hk (bkq BK414.out) NB414_0.out (by simp)); have n4_ := Aside0.mk (KeepBut.blk hk (bkq BK434.out) NB434_0.out (by simp)); have n5_ := Aside0.mk (KeepBut.trans (hkqa HK.out) hk (.inl rfl)); have n6_ := Aside0.mk (hb); have n7_ := Aside0.mk (hi); clear HO_435000 HO_435002 HO_435003 BK414 BK434 HK HB HI0; revert n0_ n1_ n2_ n3_ n4_ n5_ n6_ n7_; intro HO_435000 HO_435002 HO_435003 BK414 BK434 HK HB HI0; (try clear hb); (try clear hb2); (try clear hk); (try clear hi)) | ((with_reducible refine gate_callee (f := 62) rfl ?_); refine goesL_ (some 37) rfl rfl Try.func62 (by kernel_rfl) rfl #[.pointer (some ⟨g, 0, none⟩), .int .i64 3] rfl mpq ?_; (with_reducible refine (spec_l20Rd_pick.calls k1 g s0_0 t454 3 t455 t456 w0 _ ?side1 ?side2 A62.out).mono ?_); (case side1 => exact IsS73.q HI0.out); (case side2 => exact hbqs HB.out (IsS73.ge HI0.out)); rintro e w65 ⟨rfl, hi, hb, hk⟩; refine ⟨_, rfl, ?_⟩; have n0_ := Aside0.mk (Kd.R_mono (Kd.R_keep (IsS73.apart (show IsS73 w0 _ g s0_0 t454 from IsS73.q HI0.out) (roq HO_435000.out) (by decide)) hk (fun _ h => h.2)) (fun _ h => h.1)); have n1_ := Aside0.mk (Kd.R_mono (Kd.R_keep (IsS73.apart (show IsS73 w0 _ g s0_0 t454 from IsS73.q HI0.out) (roq HO_435002.out) (by decide)) hk (fun _ h => h.2)) (fun _ h => h.1)); have n2_ := Aside0.mk (Kd.Q_mono (Kd.Q_keep (IsS73.apartQ (show IsS73 w0 _ g s0_0 t454 from IsS73.q HI0.out) (qoq HO_435003.out) (by decide)) hk (fun _ h => h.2)) (fun _ h => h.1)); have n3_ := Aside0.mk (KeepBut.blk hk (bkq BK414.out) NB414_0.out (by simp)); have n4_ := Aside0.mk (KeepBut.blk hk (bkq BK434.out) NB434_0.out (by simp)); have n5_ := Aside0.mk (KeepBut.trans (hkqa HK.out) hk (.inl rfl)); have n6_ := Aside0.mk (hb); have n7_ := Aside0.mk (hi); clear HO_435000 HO_435002 HO_435003 BK414 BK434 HK HB HI0; revert n0_ n1_ n2_ n3_ n4_ n5_ n6_ n7_; intro HO_435000 HO_435002 HO_435003 BK414 BK434 HK HB HI0; (try clear hb); (try clear hb2); (try clear hk); (try clear hi); have hnb66 := NB434_414.out; have hnc66 := NB414_434.out; have hnb67 := NB434_0.out; have hnc67 := NB0_434.out; have hcz68_0 : w65.cell? ⟨gb434, 0, none⟩ = some (u435000) := (blk_cell BK434.out 0).trans rfl; have hcz68_1 : w65.cell? ⟨gb434, 1, none⟩ = some (.int .i64 x435001_1) := (blk_cell BK434.out 1).trans rfl; have hcz68_2 : w65.cell? ⟨gb434, 2, none⟩ = some (u435002) := (blk_cell BK434.out 2).trans rfl; have hcz68_3 : w65.cell? ⟨gb434, 3, none⟩ = some (u435003) := (blk_cell BK434.out 3).trans rfl; have hfz68_0 := blk_frozen BK434.out 0; have hfz68_1 := blk_frozen BK434.out 1; have hfz68_2 := blk_frozen BK434.out 2; have hfz68_3 := blk_frozen BK434.out 3; obtain ⟨Ao69, co69, eo69⟩ := Kd.R_slice HO_435000.out; subst eo69; have hnb70 := NB414_0.out; have hnc70 := NB0_414.out; have hcz71_0 : w65.cell? ⟨gb414, 0, none⟩ = some (.slice none 0 0) := (blk_cell BK414.out 0).trans rfl; have hcz71_1 : w65.cell? ⟨gb414, 1, none⟩ = some (.int .i64 0) := (blk_cell BK414.out 1).trans rfl; have hcz71_2 : w65.cell? ⟨gb414, 2, none⟩ = some (.slice none 0 0) := (blk_cell BK414.out 2).trans rfl; have hcz71_3 : w65.cell? ⟨gb414, 3, none⟩ = some (.slice none 0 0) := (blk_cell BK414.out 3).trans rfl; have hfz71_0 := blk_frozen BK414.out 0; have hfz71_1 := blk_frozen BK414.out 1; have hfz71_2 := blk_frozen BK414.out 2; have hfz71_3 := blk_frozen BK414.out 3; obtain ⟨Ao72, co72, eo72⟩ := Kd.R_slice HO_435002.out; subst eo72; obtain ⟨Ao73, co73, eo73, _⟩ := Kd.Q_slice HO_435003.out; subst eo73))
      refine bodyPost_ret (results_cell_row rfl _ _ gb414 29 #[.slice Ao69 x435000_1.length co69, .int .i64 2, .slice Ao72 x435002_1.length co72, .slice Ao73 x435003_1.length co73] (0, 0) _ rfl (by refine bkq ?_; refine blk_put (cs := #[.slice Ao69 x435000_1.length co69, .int .i64 2, .slice Ao72 x435002_1.length co72, .slice none 0 0]) ?_ 3 _ rfl; refine bkq ?_; refine blk_put (cs := #[.slice Ao69 x435000_1.length co69, .int .i64 2, .slice none 0 0, .slice none 0 0]) ?_ 2 _ rfl; refine bkq ?_; refine blk_put (cs := #[.slice Ao69 x435000_1.length co69, .int .i64 0, .slice none 0 0, .slice none 0 0]) ?_ 1 _ rfl; refine bkq ?_; refine blk_put (cs := #[.slice none 0 0, .int .i64 0, .slice none 0 0, .slice none 0 0]) ?_ 0 _ rfl; refine bkq ?_; refine blk_far ?_ NB414_434.out _; refine bkq ?_; exact BK414.out) Try.underlying29 rfl (by kernel_rfl)) rfl ?_
      exact ⟨_, _, _, by first | rfl | (simp [errW_none, errW_some] <;> rfl) | (simp [*, errW_none, errW_some] <;> rfl), by refine roq ?_; exact Kd.R_mono (Kd.R_far (p := ⟨gb414, 3, none⟩) (Kd.R_far (p := ⟨gb414, 2, none⟩) (Kd.R_far (p := ⟨gb414, 1, none⟩) (Kd.R_far (p := ⟨gb414, 0, none⟩) (Kd.R_far (p := ⟨gb434, 1, none⟩) (Kd.R_types (Kd.R_types HO_435000.out BK434.out (by decide)) BK414.out (by decide)) (fun _ hk => hk.1.2) (.int .i64 2)) (fun _ hk => hk.2) (.slice Ao69 x435000_1.length co69)) (fun _ hk => hk.2) (.int .i64 2)) (fun _ hk => hk.2) (.slice Ao72 x435002_1.length co72)) (fun _ hk => hk.2) (.slice Ao73 x435003_1.length co73)) (fun _ hk => hk.1.1), by refine roq ?_; exact Kd.R_mono (Kd.R_far (p := ⟨gb414, 3, none⟩) (Kd.R_far (p := ⟨gb414, 2, none⟩) (Kd.R_far (p := ⟨gb414, 1, none⟩) (Kd.R_far (p := ⟨gb414, 0, none⟩) (Kd.R_far (p := ⟨gb434, 1, none⟩) (Kd.R_types (Kd.R_types HO_435002.out BK434.out (by decide)) BK414.out (by decide)) (fun _ hk => hk.1.2) (.int .i64 2)) (fun _ hk => hk.2) (.slice Ao69 x435000_1.length co69)) (fun _ hk => hk.2) (.int .i64 2)) (fun _ hk => hk.2) (.slice Ao72 x435002_1.length co72)) (fun _ hk => hk.2) (.slice Ao73 x435003_1.length co73)) (fun _ hk => hk.1.1), by refine qoq ?_; exact Kd.Q_mono (Kd.Q_far (p := ⟨gb414, 3, none⟩) (Kd.Q_far (p := ⟨gb414, 2, none⟩) (Kd.Q_far (p := ⟨gb414, 1, none⟩) (Kd.Q_far (p := ⟨gb414, 0, none⟩) (Kd.Q_far (p := ⟨gb434, 1, none⟩) (Kd.Q_types (Kd.Q_types HO_435003.out BK434.out (by decide)) BK414.out (by decide)) (fun _ hk => hk.1.2) (.int .i64 2)) (fun _ hk => hk.2) (.slice Ao69 x435000_1.length co69)) (fun _ hk => hk.2) (.int .i64 2)) (fun _ hk => hk.2) (.slice Ao72 x435002_1.length co72)) (fun _ hk => hk.2) (.slice Ao73 x435003_1.length co73)) (fun _ hk => ⟨hk.1.1.1, hk.1.1.2⟩), IsS73.q HI0.out, hbqs HB.out (IsS73.ge HI0.out), hkqa HK.out⟩
     ·rw [if_neg c63] at H
      have c63b0 : (t455 == 0) = false := beq_eq_false_iff_ne.mpr c63
      have c63b1 : (t455 != 0) = true := bne_iff_ne.mpr c63
      by_cases c74 : t455 = 1
      ·rw [if_pos c74] at H
       have c74b0 : (t455 == 1) = true := beq_iff_eq.mpr c74
       have c74b1 : (t455 != 1) = false := bne_eq_false_iff_eq.mpr c74
       clear c74
       by_cases c75 : x435003_1.length < 2513169434916
       ·rw [if_pos c75] at H
        have LMc75 := Aside0.mk c75
        clear c75
        obtain ⟨y457, hy457⟩ : ∃ y_ : List (S26), y_ = (x435003_1 ++ [(⟨([] : List Int), 0, ([] : List Int)⟩ : S26)]) := ⟨_, rfl⟩
        replace H : (some (x435000_1, x435001_1, x435002_1, y457, t456)) = some (r1, r2, r3, r4, r5) := by first | (rw [hy457]; with_reducible exact H) | (have H2_ := (Option.bind_some _ _).symm.trans H; rw [hy457]; with_reducible exact H2_) | (have H2_ := (Option.bind_some _ _).symm.trans H; with_reducible exact H2_) | with_reducible exact H | (rw [hy457]; exact H) | exact H
        have Ny457 := Aside0.mk hy457
        clear hy457
        simp only [Option.some.injEq, Prod.mk.injEq] at H
        obtain ⟨rfl, rfl, rfl, rfl, rfl⟩ := H
        go_wp2_with (first | ((with_reducible refine gate_callee (f := 63) rfl ?_); refine goesL_ (some 35) rfl rfl Try.func63 (by kernel_rfl) rfl #[.pointer (some ⟨g, 0, none⟩), .int .i64 a1] rfl mpq ?_; (with_reducible refine (spec_l20Rd_odd.calls k1 g s0_0 x1001_1 a1 true t454 w0 _ ?side1 ?side2 A60.out).mono ?_); (case side1 => exact IsS73.q HI0.out); (case side2 => exact hbqs HB.out (IsS73.ge HI0.out)); rintro e w76 ⟨rfl, hi, hb, hk⟩; refine ⟨_, rfl, ?_⟩; have n0_ := Aside0.mk (Kd.R_mono (Kd.R_keep (IsS73.apart (show IsS73 w0 _ g s0_0 x1001_1 from IsS73.q HI0.out) (roq HO_435000.out) (by decide)) hk (fun _ h => h.2)) (fun _ h => h.1)); have n1_ := Aside0.mk (Kd.R_mono (Kd.R_keep (IsS73.apart (show IsS73 w0 _ g s0_0 x1001_1 from IsS73.q HI0.out) (roq HO_435002.out) (by decide)) hk (fun _ h => h.2)) (fun _ h => h.1)); have n2_ := Aside0.mk (Kd.Q_mono (Kd.Q_keep (IsS73.apartQ (show IsS73 w0 _ g s0_0 x1001_1 from IsS73.q HI0.out) (qoq HO_435003.out) (by decide)) hk (fun _ h => h.2)) (fun _ h => h.1)); have n3_ := Aside0.mk (KeepBut.blk hk (bkq BK414.out) NB414_0.out (by simp)); have n4_ := Aside0.mk (KeepBut.blk hk (bkq BK434.out) NB434_0.out (by simp)); have n5_ := Aside0.mk (KeepBut.trans (hkqa HK.out) hk (.inl rfl)); have n6_ := Aside0.mk (hb); have n7_ := Aside0.mk (hi); clear HO_435000 HO_435002 HO_435003 BK414 BK434 HK HB HI0; revert n0_ n1_ n2_ n3_ n4_ n5_ n6_ n7_; intro HO_435000 HO_435002 HO_435003 BK414 BK434 HK HB HI0; (try clear hb); (try clear hb2); (try clear hk); (try clear hi)) | ((with_reducible refine gate_callee (f := 62) rfl ?_); refine goesL_ (some 37) rfl rfl Try.func62 (by kernel_rfl) rfl #[.pointer (some ⟨g, 0, none⟩), .int .i64 3] rfl mpq ?_; (with_reducible refine (spec_l20Rd_pick.calls k1 g s0_0 t454 3 t455 t456 w0 _ ?side1 ?side2 A62.out).mono ?_); (case side1 => exact IsS73.q HI0.out); (case side2 => exact hbqs HB.out (IsS73.ge HI0.out)); rintro e w77 ⟨rfl, hi, hb, hk⟩; refine ⟨_, rfl, ?_⟩; have n0_ := Aside0.mk (Kd.R_mono (Kd.R_keep (IsS73.apart (show IsS73 w0 _ g s0_0 t454 from IsS73.q HI0.out) (roq HO_435000.out) (by decide)) hk (fun _ h => h.2)) (fun _ h => h.1)); have n1_ := Aside0.mk (Kd.R_mono (Kd.R_keep (IsS73.apart (show IsS73 w0 _ g s0_0 t454 from IsS73.q HI0.out) (roq HO_435002.out) (by decide)) hk (fun _ h => h.2)) (fun _ h => h.1)); have n2_ := Aside0.mk (Kd.Q_mono (Kd.Q_keep (IsS73.apartQ (show IsS73 w0 _ g s0_0 t454 from IsS73.q HI0.out) (qoq HO_435003.out) (by decide)) hk (fun _ h => h.2)) (fun _ h => h.1)); have n3_ := Aside0.mk (KeepBut.blk hk (bkq BK414.out) NB414_0.out (by simp)); have n4_ := Aside0.mk (KeepBut.blk hk (bkq BK434.out) NB434_0.out (by simp)); have n5_ := Aside0.mk (KeepBut.trans (hkqa HK.out) hk (.inl rfl)); have n6_ := Aside0.mk (hb); have n7_ := Aside0.mk (hi); clear HO_435000 HO_435002 HO_435003 BK414 BK434 HK HB HI0; revert n0_ n1_ n2_ n3_ n4_ n5_ n6_ n7_; intro HO_435000 HO_435002 HO_435003 BK414 BK434 HK HB HI0; (try clear hb); (try clear hb2); (try clear hk); (try clear hi); have hnb78 := NB434_414.out; have hnc78 := NB414_434.out; have hnb79 := NB434_0.out; have hnc79 := NB0_434.out; have hcz80_0 : w77.cell? ⟨gb434, 0, none⟩ = some (u435000) := (blk_cell BK434.out 0).trans rfl; have hcz80_1 : w77.cell? ⟨gb434, 1, none⟩ = some (.int .i64 x435001_1) := (blk_cell BK434.out 1).trans rfl; have hcz80_2 : w77.cell? ⟨gb434, 2, none⟩ = some (u435002) := (blk_cell BK434.out 2).trans rfl; have hcz80_3 : w77.cell? ⟨gb434, 3, none⟩ = some (u435003) := (blk_cell BK434.out 3).trans rfl; have hfz80_0 := blk_frozen BK434.out 0; have hfz80_1 := blk_frozen BK434.out 1; have hfz80_2 := blk_frozen BK434.out 2; have hfz80_3 := blk_frozen BK434.out 3) | ((with_reducible refine gate_builtin (b := .append) (xs := #[.tmp 46, .tmp 48]) rfl ?_); at_builtin; refine Kd.Q_append k26 w.heap.size rfl (.tmp 46) (.tmp 48) 27 26 (.agg #[(.slice none 0 0), (.int .i64 0), (.slice none 0 0)]) 56 rfl Try.underlying27 info26 rfl (by decide) (by omega) u435003 x435003_1 (⟨([] : List Int), 0, ([] : List Int)⟩ : S26) [.slice none 0 0, .int .i64 0, .slice none 0 0] (fun k_ => some k_ ≠ (u435000 : Value).ownBlock ∧ some k_ ≠ (u435002 : Value).ownBlock) (fun k_ => ((fun k_ => some k_ ≠ (u435000 : Value).ownBlock ∧ some k_ ≠ (u435002 : Value).ownBlock)) k_ ∧ some k_ ≠ (u435003 : Value).ownBlock) rfl rfl ?aP (fun _ hk => hk) ?aF ?aO (Below.refl _ _) ?aS ?aL ?_; (case aP => exact k26_mkM _ _ _ (⟨([] : List Int), 0, ([] : List Int)⟩ : S26) (Kd.R_nil _ _ _ _ _) (Kd.R_nil _ _ _ _ _)); (case aF => exact (fun k_ hk => ⟨Kd.fresh' (Kd.R_lt (roq HO_435000.out)) k_ hk, Kd.fresh' (Kd.R_lt (roq HO_435002.out)) k_ hk⟩)); (case aO => exact (qoq HO_435003.out)); (case aS => exact (ksq (hkqa HK.out))); (case aL => have := LMc75.out; omega); intro v458 w81 ho hb hg hat; rw [← Ny457.out] at ho; have n0_ := Aside0.mk (Kd.R_over' (roq HO_435000.out) (Kd.Q_typed (qoq HO_435003.out)) (by decide) hg); have n1_ := Aside0.mk (Kd.R_over' (roq HO_435002.out) (Kd.Q_typed (qoq HO_435003.out)) (by decide) hg); have n2_ := Aside0.mk (blk_grown (bkq BK414.out) hg (Kd.Q_ne HO_435003.out BK414.out (by decide))); have n3_ := Aside0.mk (blk_grown (bkq BK434.out) hg (Kd.Q_ne HO_435003.out BK434.out (by decide))); have n4_ := Aside0.mk (IsS73.grown (IsS73.q HI0.out) hg (IsS73.own_neQ HI0.out HO_435003.out (by decide))); have n5_ := Aside0.mk (below_weaken (hbqs HB.out (IsS73.ge HI0.out)) HL.out hb); have n6_ := Aside0.mk (KeepBut.trans (hkqa HK.out) (KeepBut.of_grown hg g) (Kd.Q_base2 HO_435003.out)); have n7_ := Aside0.mk (ho); clear HO_435000 HO_435002 BK414 BK434 HI0 HB HK HO_435003; revert n0_ n1_ n2_ n3_ n4_ n5_ n6_ n7_; intro HO_435000 HO_435002 BK414 BK434 HI0 HB HK HO459; clear ho hb hg hat; obtain ⟨Ao82, co82, eo82, _⟩ := Kd.Q_slice HO459.out; subst eo82; have hcz83_0 : w81.cell? ⟨gb434, 0, none⟩ = some (u435000) := (blk_cell BK434.out 0).trans rfl; have hcz83_1 : w81.cell? ⟨gb434, 1, none⟩ = some (.int .i64 x435001_1) := (blk_cell BK434.out 1).trans rfl; have hcz83_2 : w81.cell? ⟨gb434, 2, none⟩ = some (u435002) := (blk_cell BK434.out 2).trans rfl; have hcz83_3 : w81.cell? ⟨gb434, 3, none⟩ = some (u435003) := (blk_cell BK434.out 3).trans rfl; have hfz83_0 := blk_frozen BK434.out 0; have hfz83_1 := blk_frozen BK434.out 1; have hfz83_2 := blk_frozen BK434.out 2; have hfz83_3 := blk_frozen BK434.out 3; obtain ⟨Ao84, co84, eo84⟩ := Kd.R_slice HO_435000.out; subst eo84; have hnb85 := NB414_0.out; have hnc85 := NB0_414.out; have hcz86_0 : w81.cell? ⟨gb414, 0, none⟩ = some (.slice none 0 0) := (blk_cell BK414.out 0).trans rfl; have hcz86_1 : w81.cell? ⟨gb414, 1, none⟩ = some (.int .i64 0) := (blk_cell BK414.out 1).trans rfl; have hcz86_2 : w81.cell? ⟨gb414, 2, none⟩ = some (.slice none 0 0) := (blk_cell BK414.out 2).trans rfl; have hcz86_3 : w81.cell? ⟨gb414, 3, none⟩ = some (.slice none 0 0) := (blk_cell BK414.out 3).trans rfl; have hfz86_0 := blk_frozen BK414.out 0; have hfz86_1 := blk_frozen BK414.out 1; have hfz86_2 := blk_frozen BK414.out 2; have hfz86_3 := blk_frozen BK414.out 3; obtain ⟨Ao87, co87, eo87⟩ := Kd.R_slice HO_435002.out; subst eo87))
        refine bodyPost_ret (results_cell_row rfl _ _ gb414 29 #[.slice Ao84 x435000_1.length co84, .int .i64 x435001_1, .slice Ao87 x435002_1.length co87, .slice Ao82 y457.length co82] (0, 0) _ rfl (by refine bkq ?_; refine blk_put (cs := #[.slice Ao84 x435000_1.length co84, .int .i64 x435001_1, .slice Ao87 x435002_1.length co87, .slice none 0 0]) ?_ 3 _ rfl; refine bkq ?_; refine blk_put (cs := #[.slice Ao84 x435000_1.length co84, .int .i64 x435001_1, .slice none 0 0, .slice none 0 0]) ?_ 2 _ rfl; refine bkq ?_; refine blk_put (cs := #[.slice Ao84 x435000_1.length co84, .int .i64 0, .slice none 0 0, .slice none 0 0]) ?_ 1 _ rfl; refine bkq ?_; refine blk_put (cs := #[.slice none 0 0, .int .i64 0, .slice none 0 0, .slice none 0 0]) ?_ 0 _ rfl; refine bkq ?_; refine blk_far ?_ NB414_434.out _; refine bkq ?_; exact BK414.out) Try.underlying29 rfl (by kernel_rfl)) rfl ?_
        exact ⟨_, _, _, by first | rfl | (simp [errW_none, errW_some] <;> rfl) | (simp [*, errW_none, errW_some] <;> rfl), by refine roq ?_; exact Kd.R_mono (Kd.R_far (p := ⟨gb414, 3, none⟩) (Kd.R_far (p := ⟨gb414, 2, none⟩) (Kd.R_far (p := ⟨gb414, 1, none⟩) (Kd.R_far (p := ⟨gb414, 0, none⟩) (Kd.R_far (p := ⟨gb434, 3, none⟩) (Kd.R_types (Kd.R_types HO_435000.out BK434.out (by decide)) BK414.out (by decide)) (fun _ hk => hk.1.2) (.slice Ao82 y457.length co82)) (fun _ hk => hk.2) (.slice Ao84 x435000_1.length co84)) (fun _ hk => hk.2) (.int .i64 x435001_1)) (fun _ hk => hk.2) (.slice Ao87 x435002_1.length co87)) (fun _ hk => hk.2) (.slice Ao82 y457.length co82)) (fun _ hk => hk.1.1), by refine roq ?_; exact Kd.R_mono (Kd.R_far (p := ⟨gb414, 3, none⟩) (Kd.R_far (p := ⟨gb414, 2, none⟩) (Kd.R_far (p := ⟨gb414, 1, none⟩) (Kd.R_far (p := ⟨gb414, 0, none⟩) (Kd.R_far (p := ⟨gb434, 3, none⟩) (Kd.R_types (Kd.R_types HO_435002.out BK434.out (by decide)) BK414.out (by decide)) (fun _ hk => hk.1.2) (.slice Ao82 y457.length co82)) (fun _ hk => hk.2) (.slice Ao84 x435000_1.length co84)) (fun _ hk => hk.2) (.int .i64 x435001_1)) (fun _ hk => hk.2) (.slice Ao87 x435002_1.length co87)) (fun _ hk => hk.2) (.slice Ao82 y457.length co82)) (fun _ hk => hk.1.1), by refine qoq ?_; exact Kd.Q_mono (Kd.Q_far (p := ⟨gb414, 3, none⟩) (Kd.Q_far (p := ⟨gb414, 2, none⟩) (Kd.Q_far (p := ⟨gb414, 1, none⟩) (Kd.Q_far (p := ⟨gb414, 0, none⟩) (Kd.Q_far (p := ⟨gb434, 3, none⟩) (Kd.Q_types (Kd.Q_types HO459.out BK434.out (by decide)) BK414.out (by decide)) (fun _ hk => hk.1.2) (.slice Ao82 y457.length co82)) (fun _ hk => hk.2) (.slice Ao84 x435000_1.length co84)) (fun _ hk => hk.2) (.int .i64 x435001_1)) (fun _ hk => hk.2) (.slice Ao87 x435002_1.length co87)) (fun _ hk => hk.2) (.slice Ao82 y457.length co82)) (fun _ hk => ⟨hk.1.1.1, hk.1.1.2⟩), IsS73.q HI0.out, hbqs HB.out (IsS73.ge HI0.out), hkqa HK.out⟩
       ·rw [if_neg c75] at H
        exact absurd H (by simp)
      ·rw [if_neg c74] at H
       have c74b0 : (t455 == 1) = false := beq_eq_false_iff_ne.mpr c74
       have c74b1 : (t455 != 1) = true := bne_iff_ne.mpr c74
       simp only [Option.some.injEq, Prod.mk.injEq] at H
       obtain ⟨rfl, rfl, rfl, rfl, rfl⟩ := H
       go_wp2_with (first | ((with_reducible refine gate_callee (f := 63) rfl ?_); refine goesL_ (some 35) rfl rfl Try.func63 (by kernel_rfl) rfl #[.pointer (some ⟨g, 0, none⟩), .int .i64 a1] rfl mpq ?_; (with_reducible refine (spec_l20Rd_odd.calls k1 g s0_0 x1001_1 a1 true t454 w0 _ ?side1 ?side2 A60.out).mono ?_); (case side1 => exact IsS73.q HI0.out); (case side2 => exact hbqs HB.out (IsS73.ge HI0.out)); rintro e w88 ⟨rfl, hi, hb, hk⟩; refine ⟨_, rfl, ?_⟩; have n0_ := Aside0.mk (Kd.R_mono (Kd.R_keep (IsS73.apart (show IsS73 w0 _ g s0_0 x1001_1 from IsS73.q HI0.out) (roq HO_435000.out) (by decide)) hk (fun _ h => h.2)) (fun _ h => h.1)); have n1_ := Aside0.mk (Kd.R_mono (Kd.R_keep (IsS73.apart (show IsS73 w0 _ g s0_0 x1001_1 from IsS73.q HI0.out) (roq HO_435002.out) (by decide)) hk (fun _ h => h.2)) (fun _ h => h.1)); have n2_ := Aside0.mk (Kd.Q_mono (Kd.Q_keep (IsS73.apartQ (show IsS73 w0 _ g s0_0 x1001_1 from IsS73.q HI0.out) (qoq HO_435003.out) (by decide)) hk (fun _ h => h.2)) (fun _ h => h.1)); have n3_ := Aside0.mk (KeepBut.blk hk (bkq BK414.out) NB414_0.out (by simp)); have n4_ := Aside0.mk (KeepBut.blk hk (bkq BK434.out) NB434_0.out (by simp)); have n5_ := Aside0.mk (KeepBut.trans (hkqa HK.out) hk (.inl rfl)); have n6_ := Aside0.mk (hb); have n7_ := Aside0.mk (hi); clear HO_435000 HO_435002 HO_435003 BK414 BK434 HK HB HI0; revert n0_ n1_ n2_ n3_ n4_ n5_ n6_ n7_; intro HO_435000 HO_435002 HO_435003 BK414 BK434 HK HB HI0; (try clear hb); (try clear hb2); (try clear hk); (try clear hi)) | ((with_reducible refine gate_callee (f := 62) rfl ?_); refine goesL_ (some 37) rfl rfl Try.func62 (by kernel_rfl) rfl #[.pointer (some ⟨g, 0, none⟩), .int .i64 3] rfl mpq ?_; (with_reducible refine (spec_l20Rd_pick.calls k1 g s0_0 t454 3 t455 t456 w0 _ ?side1 ?side2 A62.out).mono ?_); (case side1 => exact IsS73.q HI0.out); (case side2 => exact hbqs HB.out (IsS73.ge HI0.out)); rintro e w89 ⟨rfl, hi, hb, hk⟩; refine ⟨_, rfl, ?_⟩; have n0_ := Aside0.mk (Kd.R_mono (Kd.R_keep (IsS73.apart (show IsS73 w0 _ g s0_0 t454 from IsS73.q HI0.out) (roq HO_435000.out) (by decide)) hk (fun _ h => h.2)) (fun _ h => h.1)); have n1_ := Aside0.mk (Kd.R_mono (Kd.R_keep (IsS73.apart (show IsS73 w0 _ g s0_0 t454 from IsS73.q HI0.out) (roq HO_435002.out) (by decide)) hk (fun _ h => h.2)) (fun _ h => h.1)); have n2_ := Aside0.mk (Kd.Q_mono (Kd.Q_keep (IsS73.apartQ (show IsS73 w0 _ g s0_0 t454 from IsS73.q HI0.out) (qoq HO_435003.out) (by decide)) hk (fun _ h => h.2)) (fun _ h => h.1)); have n3_ := Aside0.mk (KeepBut.blk hk (bkq BK414.out) NB414_0.out (by simp)); have n4_ := Aside0.mk (KeepBut.blk hk (bkq BK434.out) NB434_0.out (by simp)); have n5_ := Aside0.mk (KeepBut.trans (hkqa HK.out) hk (.inl rfl)); have n6_ := Aside0.mk (hb); have n7_ := Aside0.mk (hi); clear HO_435000 HO_435002 HO_435003 BK414 BK434 HK HB HI0; revert n0_ n1_ n2_ n3_ n4_ n5_ n6_ n7_; intro HO_435000 HO_435002 HO_435003 BK414 BK434 HK HB HI0; (try clear hb); (try clear hb2); (try clear hk); (try clear hi); have hnb90 := NB414_434.out; have hnc90 := NB434_414.out; have hnb91 := NB414_0.out; have hnc91 := NB0_414.out; have hcz92_0 : w89.cell? ⟨gb414, 0, none⟩ = some (.slice none 0 0) := (blk_cell BK414.out 0).trans rfl; have hcz92_1 : w89.cell? ⟨gb414, 1, none⟩ = some (.int .i64 0) := (blk_cell BK414.out 1).trans rfl; have hcz92_2 : w89.cell? ⟨gb414, 2, none⟩ = some (.slice none 0 0) := (blk_cell BK414.out 2).trans rfl; have hcz92_3 : w89.cell? ⟨gb414, 3, none⟩ = some (.slice none 0 0) := (blk_cell BK414.out 3).trans rfl; have hfz92_0 := blk_frozen BK414.out 0; have hfz92_1 := blk_frozen BK414.out 1; have hfz92_2 := blk_frozen BK414.out 2; have hfz92_3 := blk_frozen BK414.out 3))
       refine bodyPost_ret (results_cell_row rfl _ _ gb414 29 #[.slice none 0 0, .int .i64 0, .slice none 0 0, .slice none 0 0] (0, 0) _ rfl (by refine bkq ?_; refine blk_put (cs := #[.slice none 0 0, .int .i64 0, .slice none 0 0, .slice none 0 0]) ?_ 3 _ rfl; refine bkq ?_; refine blk_put (cs := #[.slice none 0 0, .int .i64 0, .slice none 0 0, .slice none 0 0]) ?_ 2 _ rfl; refine bkq ?_; refine blk_put (cs := #[.slice none 0 0, .int .i64 0, .slice none 0 0, .slice none 0 0]) ?_ 1 _ rfl; refine bkq ?_; refine blk_put (cs := #[.slice none 0 0, .int .i64 0, .slice none 0 0, .slice none 0 0]) ?_ 0 _ rfl; refine bkq ?_; exact BK414.out) Try.underlying29 rfl (by kernel_rfl)) rfl ?_
       exact ⟨_, _, _, by first | rfl | (simp [errW_none, errW_some] <;> rfl) | (simp [*, errW_none, errW_some] <;> rfl), by first | exact Kd.R_nil _ _ _ _ _ | exact Kd.N_nil _ _ _ _ _ | exact Kd.V_nil _ _ _ _ _ | exact Kd.Q_nil _ _ _ _ _ | exact Kd.S_nil _ _ _ _ _, by first | exact Kd.R_nil _ _ _ _ _ | exact Kd.N_nil _ _ _ _ _ | exact Kd.V_nil _ _ _ _ _ | exact Kd.Q_nil _ _ _ _ _ | exact Kd.S_nil _ _ _ _ _, Kd.Q_of_R ((Kd.S_R (by first | exact Kd.S_nil _ _ _ _ _ | exact Kd.N_nil _ _ _ _ _ | exact Kd.V_nil _ _ _ _ _ | exact Kd.Q_nil _ _ _ _ _ | exact Kd.R_nil _ _ _ _ _))), IsS73.q HI0.out, hbqs HB.out (IsS73.ge HI0.out), hkqa HK.out⟩
    ·replace c61 := Bool.eq_false_iff.mpr c61
     subst c61
     have H1 : (some (x435000_1, x435001_1, x435002_1, x435003_1, t454)) = some (r1, r2, r3, r4, r5) := by rw [if_neg (show ¬ (false = true) by decide)] at H; exact H
     clear H
     have H := H1
     clear H1
     simp only [Option.some.injEq, Prod.mk.injEq] at H
     obtain ⟨rfl, rfl, rfl, rfl, rfl⟩ := H
     go_wp2_with (first | ((with_reducible refine gate_callee (f := 63) rfl ?_); refine goesL_ (some 35) rfl rfl Try.func63 (by kernel_rfl) rfl #[.pointer (some ⟨g, 0, none⟩), .int .i64 a1] rfl mpq ?_; (with_reducible refine (spec_l20Rd_odd.calls k1 g s0_0 x1001_1 a1 false t454 w0 _ ?side1 ?side2 A60.out).mono ?_); (case side1 => exact IsS73.q HI0.out); (case side2 => exact hbqs HB.out (IsS73.ge HI0.out)); rintro e w93 ⟨rfl, hi, hb, hk⟩; refine ⟨_, rfl, ?_⟩; have n0_ := Aside0.mk (Kd.R_mono (Kd.R_keep (IsS73.apart (show IsS73 w0 _ g s0_0 x1001_1 from IsS73.q HI0.out) (roq HO_435000.out) (by decide)) hk (fun _ h => h.2)) (fun _ h => h.1)); have n1_ := Aside0.mk (Kd.R_mono (Kd.R_keep (IsS73.apart (show IsS73 w0 _ g s0_0 x1001_1 from IsS73.q HI0.out) (roq HO_435002.out) (by decide)) hk (fun _ h => h.2)) (fun _ h => h.1)); have n2_ := Aside0.mk (Kd.Q_mono (Kd.Q_keep (IsS73.apartQ (show IsS73 w0 _ g s0_0 x1001_1 from IsS73.q HI0.out) (qoq HO_435003.out) (by decide)) hk (fun _ h => h.2)) (fun _ h => h.1)); have n3_ := Aside0.mk (KeepBut.blk hk (bkq BK414.out) NB414_0.out (by simp)); have n4_ := Aside0.mk (KeepBut.blk hk (bkq BK434.out) NB434_0.out (by simp)); have n5_ := Aside0.mk (KeepBut.trans (hkqa HK.out) hk (.inl rfl)); have n6_ := Aside0.mk (hb); have n7_ := Aside0.mk (hi); clear HO_435000 HO_435002 HO_435003 BK414 BK434 HK HB HI0; revert n0_ n1_ n2_ n3_ n4_ n5_ n6_ n7_; intro HO_435000 HO_435002 HO_435003 BK414 BK434 HK HB HI0; (try clear hb); (try clear hb2); (try clear hk); (try clear hi); have hnb94 := NB434_414.out; have hnc94 := NB414_434.out; have hnb95 := NB434_0.out; have hnc95 := NB0_434.out; have hcz96_0 : w93.cell? ⟨gb434, 0, none⟩ = some (u435000) := (blk_cell BK434.out 0).trans rfl; have hcz96_1 : w93.cell? ⟨gb434, 1, none⟩ = some (.int .i64 x435001_1) := (blk_cell BK434.out 1).trans rfl; have hcz96_2 : w93.cell? ⟨gb434, 2, none⟩ = some (u435002) := (blk_cell BK434.out 2).trans rfl; have hcz96_3 : w93.cell? ⟨gb434, 3, none⟩ = some (u435003) := (blk_cell BK434.out 3).trans rfl; have hfz96_0 := blk_frozen BK434.out 0; have hfz96_1 := blk_frozen BK434.out 1; have hfz96_2 := blk_frozen BK434.out 2; have hfz96_3 := blk_frozen BK434.out 3; obtain ⟨Ao97, co97, eo97⟩ := Kd.R_slice HO_435000.out; subst eo97; have hnb98 := NB414_0.out; have hnc98 := NB0_414.out; have hcz99_0 : w93.cell? ⟨gb414, 0, none⟩ = some (.slice none 0 0) := (blk_cell BK414.out 0).trans rfl; have hcz99_1 : w93.cell? ⟨gb414, 1, none⟩ = some (.int .i64 0) := (blk_cell BK414.out 1).trans rfl; have hcz99_2 : w93.cell? ⟨gb414, 2, none⟩ = some (.slice none 0 0) := (blk_cell BK414.out 2).trans rfl; have hcz99_3 : w93.cell? ⟨gb414, 3, none⟩ = some (.slice none 0 0) := (blk_cell BK414.out 3).trans rfl; have hfz99_0 := blk_frozen BK414.out 0; have hfz99_1 := blk_frozen BK414.out 1; have hfz99_2 := blk_frozen BK414.out 2; have hfz99_3 := blk_frozen BK414.out 3; obtain ⟨Ao100, co100, eo100⟩ := Kd.R_slice HO_435002.out; subst eo100; obtain ⟨Ao101, co101, eo101, _⟩ := Kd.Q_slice HO_435003.out; subst eo101))
     refine bodyPost_ret (results_cell_row rfl _ _ gb414 29 #[.slice Ao97 x435000_1.length co97, .int .i64 x435001_1, .slice Ao100 x435002_1.length co100, .slice Ao101 x435003_1.length co101] (0, 0) _ rfl (by refine bkq ?_; refine blk_put (cs := #[.slice Ao97 x435000_1.length co97, .int .i64 x435001_1, .slice Ao100 x435002_1.length co100, .slice none 0 0]) ?_ 3 _ rfl; refine bkq ?_; refine blk_put (cs := #[.slice Ao97 x435000_1.length co97, .int .i64 x435001_1, .slice none 0 0, .slice none 0 0]) ?_ 2 _ rfl; refine bkq ?_; refine blk_put (cs := #[.slice Ao97 x435000_1.length co97, .int .i64 0, .slice none 0 0, .slice none 0 0]) ?_ 1 _ rfl; refine bkq ?_; refine blk_put (cs := #[.slice none 0 0, .int .i64 0, .slice none 0 0, .slice none 0 0]) ?_ 0 _ rfl; refine bkq ?_; exact BK414.out) Try.underlying29 rfl (by kernel_rfl)) rfl ?_
     exact ⟨_, _, _, by first | rfl | (simp [errW_none, errW_some] <;> rfl) | (simp [*, errW_none, errW_some] <;> rfl), by refine roq ?_; exact Kd.R_mono (Kd.R_far (p := ⟨gb414, 3, none⟩) (Kd.R_far (p := ⟨gb414, 2, none⟩) (Kd.R_far (p := ⟨gb414, 1, none⟩) (Kd.R_far (p := ⟨gb414, 0, none⟩) (Kd.R_types HO_435000.out BK414.out (by decide)) (fun _ hk => hk.2) (.slice Ao97 x435000_1.length co97)) (fun _ hk => hk.2) (.int .i64 x435001_1)) (fun _ hk => hk.2) (.slice Ao100 x435002_1.length co100)) (fun _ hk => hk.2) (.slice Ao101 x435003_1.length co101)) (fun _ hk => hk.1), by refine roq ?_; exact Kd.R_mono (Kd.R_far (p := ⟨gb414, 3, none⟩) (Kd.R_far (p := ⟨gb414, 2, none⟩) (Kd.R_far (p := ⟨gb414, 1, none⟩) (Kd.R_far (p := ⟨gb414, 0, none⟩) (Kd.R_types HO_435002.out BK414.out (by decide)) (fun _ hk => hk.2) (.slice Ao97 x435000_1.length co97)) (fun _ hk => hk.2) (.int .i64 x435001_1)) (fun _ hk => hk.2) (.slice Ao100 x435002_1.length co100)) (fun _ hk => hk.2) (.slice Ao101 x435003_1.length co101)) (fun _ hk => hk.1), by refine qoq ?_; exact Kd.Q_mono (Kd.Q_far (p := ⟨gb414, 3, none⟩) (Kd.Q_far (p := ⟨gb414, 2, none⟩) (Kd.Q_far (p := ⟨gb414, 1, none⟩) (Kd.Q_far (p := ⟨gb414, 0, none⟩) (Kd.Q_types HO_435003.out BK414.out (by decide)) (fun _ hk => hk.2) (.slice Ao97 x435000_1.length co97)) (fun _ hk => hk.2) (.int .i64 x435001_1)) (fun _ hk => hk.2) (.slice Ao100 x435002_1.length co100)) (fun _ hk => hk.2) (.slice Ao101 x435003_1.length co101)) (fun _ hk => ⟨hk.1.1, hk.1.2⟩), IsS73.q HI0.out, hbqs HB.out (IsS73.ge HI0.out), hkqa HK.out⟩

end Go.Proofs.Ytnhgiincboocaaa.PFnDeskOk
