-- written by wip/tools/pstub.py (my own program, over the kit's print)
import Derived.Test.YtnhgiincboocaaaPFnDeskOkx0
import Derived.Test.YtnhgiincboocaaaPFnDeskOkx2
import Derived.Test.YtnhgiincboocaaaPFnDeskOkx4
namespace Go.Proofs.Ytnhgiincboocaaa.PFnDeskOk
open Go.RowKit Go.Proofs.YtnhgiincboocaaaW.PrintWords Go.Proofs.YtnhgiincboocaaaW.PrintLast Go.Proofs.YtnhgiincboocaaaW.PrintMore
attribute [local go_sem] max2_int min2_int max_two min_two max_three min_three max_four min_four   -- for this text's walks alone
set_option linter.unusedVariables false
set_option linter.unusedSimpArgs false

/-! ### spec_l20Deed: function 68 -/
def spec_l20Deed.j0 : Nat → List Int → Int → Int → Int → Int → Option (Int × Int × Int × Int)
 | 0, _, _, _, _, _ => none
 | k + 1, x1000, x1001, x396000, x396001, x396002 => (spec_l20Rd_odd.f k x1000 x1001 40).bind fun bt404 => (if bt404.1 = true then ((spec_l20Rd_pick.f k x1000 bt404.2 2).bind fun bt406 => (if bt406.1 = 0 then ((some (([(-1), 100] : List Int) : List Int)).bind fun y408 => ((spec_l20Rd_pick.f k x1000 bt406.2 2).bind fun bt411 => (if 0 ≤ bt411.1 then (if bt411.1 < (y408.length : Int) then (some (x396000, rd y408 bt411.1, x396002, bt411.2)) else (none)) else (none)))) else (some (x396000, x396001, 99, bt406.2)))) else (some (x396000, x396001, x396002, bt404.2)))
def spec_l20Deed.f (k : Nat) (s0_0 : List Int) (s0_1 : Int) (l1_0 : List Int) (a1_1 : Int) (l1_2 : List Int) : Option (Int × Int × Int × Int) := (some (([0, 0, 1, 1, 2, 2, 3, 4] : List Int) : List Int)).bind fun y387 => ((spec_l20Rd_pick.f k s0_0 s0_1 8).bind fun bt390 => (if 0 ≤ bt390.1 then (if bt390.1 < (y387.length : Int) then ((spec_l20Rd_pick.f k s0_0 bt390.2 60).bind fun bt393 => (if (wrap64 ((rd y387 bt390.1) + (wrap64 ((wrap64 (Int.tdiv bt393.1 59)) * 5)))) = 0 then ((spec_l20Rd_pick.f k s0_0 bt393.2 (mx (l1_0.length : Int) 1)).bind fun bt396 => ((spec_l20Rd_pick.f k s0_0 bt396.2 (mx (l1_0.length : Int) 1)).bind fun bt398 => (spec_l20Deed.j0 k s0_0 bt398.2 (wrap64 ((rd y387 bt390.1) + (wrap64 ((wrap64 (Int.tdiv bt393.1 59)) * 5)))) bt396.1 bt398.1))) else (if (wrap64 ((rd y387 bt390.1) + (wrap64 ((wrap64 (Int.tdiv bt393.1 59)) * 5)))) = 1 then ((spec_l20Rd_pick.f k s0_0 bt393.2 (mx (l1_0.length : Int) 1)).bind fun bt400 => (spec_l20Deed.j0 k s0_0 bt400.2 (wrap64 ((rd y387 bt390.1) + (wrap64 ((wrap64 (Int.tdiv bt393.1 59)) * 5)))) bt400.1 0)) else (if (wrap64 ((rd y387 bt390.1) + (wrap64 ((wrap64 (Int.tdiv bt393.1 59)) * 5)))) = 3 then ((spec_l20Rd_pick.f k s0_0 bt393.2 3).bind fun bt402 => (spec_l20Deed.j0 k s0_0 bt402.2 (wrap64 ((rd y387 bt390.1) + (wrap64 ((wrap64 (Int.tdiv bt393.1 59)) * 5)))) (wrap64 (3 + bt402.1)) 0)) else (spec_l20Deed.j0 k s0_0 bt393.2 (wrap64 ((rd y387 bt390.1) + (wrap64 ((wrap64 (Int.tdiv bt393.1 59)) * 5)))) 0 0))))) else (none)) else (none)))
theorem spec_l20Deed.mono_l : ∀ k, (∀ y0 y1 y2 y3 y4, LeO (spec_l20Deed.j0 k y0 y1 y2 y3 y4) (spec_l20Deed.j0 (k + 1) y0 y1 y2 y3 y4))
 | 0 => fun _ _ _ _ _ r h => by simp [spec_l20Deed.j0] at h
 | k + 1 => by
  have ih0 := spec_l20Deed.mono_l k
  ·intro y0 y1 y2 y3 y4
   unfold spec_l20Deed.j0
   repeat' first | (with_reducible first | exact ih0 _ _ _ _ _ | exact spec_l20Rd_odd.mono _ _ _ _ | exact spec_l20Rd_pick.mono _ _ _ _ | exact LeO.refl _ | exact LeO.none _ | refine LeO.ite ?_ ?_ | refine LeO.bind ?_ (fun _ => ?_)) | exact LeO.none _ | refine LeO.ite ?_ ?_ | refine LeO.bind ?_ (fun _ => ?_)
theorem spec_l20Deed.mono : ∀ a0 a1 a2 a3 a4 k, LeO (spec_l20Deed.f k a0 a1 a2 a3 a4) (spec_l20Deed.f (k + 1) a0 a1 a2 a3 a4) := by
 intro a0 a1 a2 a3 a4 k
 have ih0 := spec_l20Deed.mono_l k
 unfold spec_l20Deed.f
 repeat' first
   | (with_reducible exact ih0 _ _ _ _ _)
   | (with_reducible exact spec_l20Rd_odd.mono _ _ _ _)
   | (with_reducible exact spec_l20Rd_pick.mono _ _ _ _)
   | (with_reducible exact LeO.refl _)
   | (with_reducible exact LeO.none _)
   | (with_reducible refine LeO.ite ?_ ?_)
   | (with_reducible refine LeO.bind ?_ (fun _ => ?_))
   | exact ih0 _ _ _ _ _
   | exact spec_l20Rd_odd.mono _ _ _ _
   | exact spec_l20Rd_pick.mono _ _ _ _
   | exact LeO.none _
   | refine LeO.ite ?_ ?_
   | refine LeO.bind ?_ (fun _ => ?_)
def spec_l20Deed.T1 : Bool × List (List Nat × List Nat) := (true, [([], []), ([], []), ([1], [1]), ([0, 2], [0, 2]), ([3], [3]), ([], []), ([5, 2], [5]), ([6], [6]), ([7], [7]), ([4, 8], [4, 8]), ([9], [9]), ([], []), ([11, 10, 6, 0, 1, 2, 3, 4, 5, 6, 7, 8, 9, 10, 11], [10, 11])])
def spec_l20Deed.B1 : List Nat := [0, 0, 2, 7, 15, 0, 38, 102, 230, 511, 1023, 0, 4095]
theorem spec_l20Deed.tab1 : rtab .any (opsOf Try.f68 1) = spec_l20Deed.T1 := by kernel_rfl
theorem spec_l20Deed.bits1 : waitsOk spec_l20Deed.T1.2 spec_l20Deed.B1 = true := by kernel_rfl
set_option maxHeartbeats 8000000 in
set_option maxRecDepth 100000 in
theorem spec_l20Deed.calls (k : Nat) (g : Nat) (s0_0 : List Int) (s0_1 : Int) (A1_0 : Option Addr) (c1_0 : Nat) (l1_0 : List Int) (a1_1 : Int) (A1_2 : Option Addr) (c1_2 : Nat) (l1_2 : List Int) (r1 : Int) (r2 : Int) (r3 : Int) (r4 : Int) (w0 w : World) (hI : IsS73 w0 w g s0_0 s0_1) (hB : Below w0.heap.size w0 w) (hr1_0 : Kd.C (Kd.int .i64) w A1_0 l1_0.length l1_0) (hc1_0 : l1_0.length ≤ c1_0) (hf1_0 : ∀ ad, A1_0 = some ad → 0 < l1_0.length → ad.block ≠ g) (hr1_2 : Kd.C (Kd.int .i64) w A1_2 l1_2.length l1_2) (hc1_2 : l1_2.length ≤ c1_2) (hf1_2 : ∀ ad, A1_2 = some ad → 0 < l1_2.length → ad.block ≠ g) (h : spec_l20Deed.f k s0_0 s0_1 l1_0 a1_1 l1_2 = some (r1, r2, r3, r4)) :
  Calls Try.prog 68 #[.pointer (some ⟨g, 0, none⟩), .agg #[.slice A1_0 l1_0.length c1_0, .int .i64 a1_1, .slice A1_2 l1_2.length c1_2]] w fun e w' => e = .returned (.agg #[.int .i64 r1, .int .i64 r2, .int .i64 r3]) ∧ IsS73 w0 w' g s0_0 r4 ∧ Below w0.heap.size w0 w' ∧ KeepBut w w' g none := by
 have hu26 := Try.underlying26
 have hu81 := Try.underlying81
 have HR1_0 := Aside0.mk hr1_0
 have HC1_0 := Aside0.mk hc1_0
 clear hr1_0 hc1_0
 have HR1_2 := Aside0.mk hr1_2
 have HC1_2 := Aside0.mk hc1_2
 clear hr1_2 hc1_2
 have HI0 := Aside0.mk hI
 have HK := Aside0.mk (KeepBut.refl w g none)
 have HL := Aside0.mk hB.size
 clear hI
 have HW0 := Aside0.mk hB.size
 have HB := Aside0.mk hB
 clear hB
 have H : ((some (([0, 0, 1, 1, 2, 2, 3, 4] : List Int) : List Int)).bind fun y387 => ((spec_l20Rd_pick.f k s0_0 s0_1 8).bind fun bt390 => (if 0 ≤ bt390.1 then (if bt390.1 < (y387.length : Int) then ((spec_l20Rd_pick.f k s0_0 bt390.2 60).bind fun bt393 => (if (wrap64 ((rd y387 bt390.1) + (wrap64 ((wrap64 (Int.tdiv bt393.1 59)) * 5)))) = 0 then ((spec_l20Rd_pick.f k s0_0 bt393.2 (mx (l1_0.length : Int) 1)).bind fun bt396 => ((spec_l20Rd_pick.f k s0_0 bt396.2 (mx (l1_0.length : Int) 1)).bind fun bt398 => (spec_l20Deed.j0 k s0_0 bt398.2 (wrap64 ((rd y387 bt390.1) + (wrap64 ((wrap64 (Int.tdiv bt393.1 59)) * 5)))) bt396.1 bt398.1))) else (if (wrap64 ((rd y387 bt390.1) + (wrap64 ((wrap64 (Int.tdiv bt393.1 59)) * 5)))) = 1 then ((spec_l20Rd_pick.f k s0_0 bt393.2 (mx (l1_0.length : Int) 1)).bind fun bt400 => (spec_l20Deed.j0 k s0_0 bt400.2 (wrap64 ((rd y387 bt390.1) + (wrap64 ((wrap64 (Int.tdiv bt393.1 59)) * 5)))) bt400.1 0)) else (if (wrap64 ((rd y387 bt390.1) + (wrap64 ((wrap64 (Int.tdiv bt393.1 59)) * 5)))) = 3 then ((spec_l20Rd_pick.f k s0_0 bt393.2 3).bind fun bt402 => (spec_l20Deed.j0 k s0_0 bt402.2 (wrap64 ((rd y387 bt390.1) + (wrap64 ((wrap64 (Int.tdiv bt393.1 59)) * 5)))) (wrap64 (3 + bt402.1)) 0)) else (spec_l20Deed.j0 k s0_0 bt393.2 (wrap64 ((rd y387 bt390.1) + (wrap64 ((wrap64 (Int.tdiv bt393.1 59)) * 5)))) 0 0))))) else (none)) else (none)))) = some (r1, r2, r3, r4) := h
 clear h
 obtain ⟨y387, hy387⟩ : ∃ y_ : List Int, y_ = (([0, 0, 1, 1, 2, 2, 3, 4] : List Int)) := ⟨_, rfl⟩
 replace H : ((spec_l20Rd_pick.f k s0_0 s0_1 8).bind fun bt390 => (if 0 ≤ bt390.1 then (if bt390.1 < (y387.length : Int) then ((spec_l20Rd_pick.f k s0_0 bt390.2 60).bind fun bt393 => (if (wrap64 ((rd y387 bt390.1) + (wrap64 ((wrap64 (Int.tdiv bt393.1 59)) * 5)))) = 0 then ((spec_l20Rd_pick.f k s0_0 bt393.2 (mx (l1_0.length : Int) 1)).bind fun bt396 => ((spec_l20Rd_pick.f k s0_0 bt396.2 (mx (l1_0.length : Int) 1)).bind fun bt398 => (spec_l20Deed.j0 k s0_0 bt398.2 (wrap64 ((rd y387 bt390.1) + (wrap64 ((wrap64 (Int.tdiv bt393.1 59)) * 5)))) bt396.1 bt398.1))) else (if (wrap64 ((rd y387 bt390.1) + (wrap64 ((wrap64 (Int.tdiv bt393.1 59)) * 5)))) = 1 then ((spec_l20Rd_pick.f k s0_0 bt393.2 (mx (l1_0.length : Int) 1)).bind fun bt400 => (spec_l20Deed.j0 k s0_0 bt400.2 (wrap64 ((rd y387 bt390.1) + (wrap64 ((wrap64 (Int.tdiv bt393.1 59)) * 5)))) bt400.1 0)) else (if (wrap64 ((rd y387 bt390.1) + (wrap64 ((wrap64 (Int.tdiv bt393.1 59)) * 5)))) = 3 then ((spec_l20Rd_pick.f k s0_0 bt393.2 3).bind fun bt402 => (spec_l20Deed.j0 k s0_0 bt402.2 (wrap64 ((rd y387 bt390.1) + (wrap64 ((wrap64 (Int.tdiv bt393.1 59)) * 5)))) (wrap64 (3 + bt402.1)) 0)) else (spec_l20Deed.j0 k s0_0 bt393.2 (wrap64 ((rd y387 bt390.1) + (wrap64 ((wrap64 (Int.tdiv bt393.1 59)) * 5)))) 0 0))))) else (none)) else (none))) = some (r1, r2, r3, r4) := by first | (rw [hy387]; with_reducible exact H) | (have H2_ := (Option.bind_some _ _).symm.trans H; rw [hy387]; with_reducible exact H2_) | (have H2_ := (Option.bind_some _ _).symm.trans H; with_reducible exact H2_) | with_reducible exact H | (rw [hy387]; exact H) | exact H
 have Ny387 := Aside0.mk hy387
 clear hy387
 replace H := Option.bind_eq_some_iff.mp H
 obtain ⟨⟨t390, t391⟩, A30, H⟩ := H
 replace H : (if 0 ≤ t390 then (if t390 < (y387.length : Int) then ((spec_l20Rd_pick.f k s0_0 t391 60).bind fun bt393 => (if (wrap64 ((rd y387 t390) + (wrap64 ((wrap64 (Int.tdiv bt393.1 59)) * 5)))) = 0 then ((spec_l20Rd_pick.f k s0_0 bt393.2 (mx (l1_0.length : Int) 1)).bind fun bt396 => ((spec_l20Rd_pick.f k s0_0 bt396.2 (mx (l1_0.length : Int) 1)).bind fun bt398 => (spec_l20Deed.j0 k s0_0 bt398.2 (wrap64 ((rd y387 t390) + (wrap64 ((wrap64 (Int.tdiv bt393.1 59)) * 5)))) bt396.1 bt398.1))) else (if (wrap64 ((rd y387 t390) + (wrap64 ((wrap64 (Int.tdiv bt393.1 59)) * 5)))) = 1 then ((spec_l20Rd_pick.f k s0_0 bt393.2 (mx (l1_0.length : Int) 1)).bind fun bt400 => (spec_l20Deed.j0 k s0_0 bt400.2 (wrap64 ((rd y387 t390) + (wrap64 ((wrap64 (Int.tdiv bt393.1 59)) * 5)))) bt400.1 0)) else (if (wrap64 ((rd y387 t390) + (wrap64 ((wrap64 (Int.tdiv bt393.1 59)) * 5)))) = 3 then ((spec_l20Rd_pick.f k s0_0 bt393.2 3).bind fun bt402 => (spec_l20Deed.j0 k s0_0 bt402.2 (wrap64 ((rd y387 t390) + (wrap64 ((wrap64 (Int.tdiv bt393.1 59)) * 5)))) (wrap64 (3 + bt402.1)) 0)) else (spec_l20Deed.j0 k s0_0 bt393.2 (wrap64 ((rd y387 t390) + (wrap64 ((wrap64 (Int.tdiv bt393.1 59)) * 5)))) 0 0))))) else (none)) else (none)) = some (r1, r2, r3, r4) := H
 have A3 := Aside0.mk A30
 clear A30
 by_cases c4 : 0 ≤ t390
 ·rw [if_pos c4] at H
  have c4b0 : decide (0 ≤ t390) = true := decide_eq_true c4
  clear c4
  by_cases c5 : t390 < (y387.length : Int)
  ·rw [if_pos c5] at H
   have c5b0 : decide (t390 < (y387.length : Int)) = true := decide_eq_true c5
   clear c5
   replace H := Option.bind_eq_some_iff.mp H
   obtain ⟨⟨t393, t394⟩, A60, H⟩ := H
   replace H : (if (wrap64 ((rd y387 t390) + (wrap64 ((wrap64 (Int.tdiv t393 59)) * 5)))) = 0 then ((spec_l20Rd_pick.f k s0_0 t394 (mx (l1_0.length : Int) 1)).bind fun bt396 => ((spec_l20Rd_pick.f k s0_0 bt396.2 (mx (l1_0.length : Int) 1)).bind fun bt398 => (spec_l20Deed.j0 k s0_0 bt398.2 (wrap64 ((rd y387 t390) + (wrap64 ((wrap64 (Int.tdiv t393 59)) * 5)))) bt396.1 bt398.1))) else (if (wrap64 ((rd y387 t390) + (wrap64 ((wrap64 (Int.tdiv t393 59)) * 5)))) = 1 then ((spec_l20Rd_pick.f k s0_0 t394 (mx (l1_0.length : Int) 1)).bind fun bt400 => (spec_l20Deed.j0 k s0_0 bt400.2 (wrap64 ((rd y387 t390) + (wrap64 ((wrap64 (Int.tdiv t393 59)) * 5)))) bt400.1 0)) else (if (wrap64 ((rd y387 t390) + (wrap64 ((wrap64 (Int.tdiv t393 59)) * 5)))) = 3 then ((spec_l20Rd_pick.f k s0_0 t394 3).bind fun bt402 => (spec_l20Deed.j0 k s0_0 bt402.2 (wrap64 ((rd y387 t390) + (wrap64 ((wrap64 (Int.tdiv t393 59)) * 5)))) (wrap64 (3 + bt402.1)) 0)) else (spec_l20Deed.j0 k s0_0 t394 (wrap64 ((rd y387 t390) + (wrap64 ((wrap64 (Int.tdiv t393 59)) * 5)))) 0 0)))) = some (r1, r2, r3, r4) := H
   have A6 := Aside0.mk A60
   clear A60
   have HC7 := Aside0.mk H
   clear H
   go_enter Try.func68, Try.ntmps68
   try go_wp2_with (first | ((with_reducible refine gate_dst (N := 3) rfl ?_); refine box_event ?hg (N := 3) ?hd (cs := #[.slice A1_0 l1_0.length c1_0, .int .i64 a1_1, .slice A1_2 l1_2.length c1_2]) (t := 26) ?hr ?_; (case hd => rfl); (case hg => rfl); (case hr => first | (go_simp; done) | (go_simp; rfl)); intro gb385 hg w8 hbox hb; have n0_ := Aside0.mk (IsS73.below (IsS73.q HI0.out) hb); have n1_ := Aside0.mk (KeepBut.trans (hkq HK.out) (KeepBut.of_below hb g none) (.inl rfl)); have n2_ := Aside0.mk (below_step (hbqs HB.out (IsS73.ge HI0.out)) hb); have n3_ := Aside0.mk (hbox); have n4_ := Aside0.mk ((by rw [hg]; exact (ksq (hkq HK.out)) : w.heap.size ≤ gb385)); have n5_ := Aside0.mk ((Nat.le_trans HW0.out (by rw [hg]; exact (ksq (hkq HK.out)) : w.heap.size ≤ gb385) : w0.heap.size ≤ gb385)); have n6_ := Aside0.mk ((by rw [hg]; exact Nat.ne_of_lt (IsS73.lt (show IsS73 w0 _ g s0_0 s0_1 from IsS73.q HI0.out)) : g ≠ gb385)); have n7_ := Aside0.mk ((by rw [hg]; exact Nat.ne_of_gt (IsS73.lt (show IsS73 w0 _ g s0_0 s0_1 from IsS73.q HI0.out)) : gb385 ≠ g)); clear HI0 HK HB; revert n0_ n1_ n2_ n3_ n4_ n5_ n6_ n7_; intro HI0 HK HB BK385 GW385 GE385 NB0_385 NB385_0; clear hb hbox hg) | ((with_reducible refine gate_dst (N := 4) rfl ?_); refine box_event ?hg (N := 4) ?hd (cs := #[.int .i64 0, .int .i64 0, .int .i64 0]) (t := 81) ?hr ?_; (case hd => rfl); (case hg => rfl); (case hr => first | (go_simp; done) | (go_simp; rfl)); intro gb386 hg w9 hbox hb; have n0_ := Aside0.mk (IsS73.below (IsS73.q HI0.out) hb); have n1_ := Aside0.mk (blk_below (bkq BK385.out) hb); have n2_ := Aside0.mk (KeepBut.trans (hkqa HK.out) (KeepBut.of_below hb g none) (.inl rfl)); have n3_ := Aside0.mk (below_step (hbqs HB.out (IsS73.ge HI0.out)) hb); have n4_ := Aside0.mk (hbox); have n5_ := Aside0.mk ((by rw [hg]; exact (ksq (hkqa HK.out)) : w.heap.size ≤ gb386)); have n6_ := Aside0.mk ((Nat.le_trans HW0.out (by rw [hg]; exact (ksq (hkqa HK.out)) : w.heap.size ≤ gb386) : w0.heap.size ≤ gb386)); have n7_ := Aside0.mk ((by rw [hg]; exact Nat.ne_of_lt (blk_lt (bkq BK385.out)) : gb385 ≠ gb386)); have n8_ := Aside0.mk ((by rw [hg]; exact Nat.ne_of_gt (blk_lt (bkq BK385.out)) : gb386 ≠ gb385)); have n9_ := Aside0.mk ((by rw [hg]; exact Nat.ne_of_lt (IsS73.lt (show IsS73 w0 _ g s0_0 s0_1 from IsS73.q HI0.out)) : g ≠ gb386)); have n10_ := Aside0.mk ((by rw [hg]; exact Nat.ne_of_gt (IsS73.lt (show IsS73 w0 _ g s0_0 s0_1 from IsS73.q HI0.out)) : gb386 ≠ g)); clear HI0 BK385 HK HB; revert n0_ n1_ n2_ n3_ n4_ n5_ n6_ n7_ n8_ n9_ n10_; intro HI0 BK385 HK HB BK386 GW386 GE386 NB385_386 NB386_385 NB0_386 NB386_0; clear hb hbox hg))
   have pi392 : (0 ≤ (t390 : Int)) = True := eq_true (od)
   have qi392 : (t390 < (y387.length : Int)) = True := eq_true (od)
   have n0_ := Aside0.mk (blk_drew BK385.out)
   have n1_ := Aside0.mk (blk_drew BK386.out)
   have n2_ := Aside0.mk (IsS73.drew HI0.out)
   have n3_ := Aside0.mk (keep_drew HK.out)
   have n4_ := Aside0.mk (below_drew1 HB.out)
   clear BK385 BK386 HI0 HK HB
   revert n0_ n1_ n2_ n3_ n4_
   intro BK385 BK386 HI0 HK HB
   refine start_ (n := 13) (S := fun w' => True) (ds := []) #[false, false, false, false, false, false, false, false, false, false, false, false, false] (by kernel_rfl) rfl rfl trivial (fun hHeld => ?_); refine with_tabW spec_l20Deed.tab1 spec_l20Deed.bits1 (fun HT_ HW_ => ?_)
   generalize w9.drew = w10 at BK385 BK386 HI0 HK HB hHeld ⊢
   refine pureq (i := 1) (N := some 7) #[false, true, false, false, false, false, false, false, false, false, false, false, false] rfl rfl HT_.out ?_
   refine pureq (i := 5) (N := some 11) #[false, true, false, false, false, true, false, false, false, false, false, false, false] rfl rfl HT_.out ?_
   refine join_ (σ := Value × Addr × Nat) 1 #[true, true, true, true, true, true, true, true, true, true, true, true, false] (fun s_ => [(6, s_.1), (8, .int .i64 t390), (10, .int .i64 (rd y387 t390)), (12, .int .i64 t393), (5, .pointer (some ⟨s_.2.2, 0, none⟩)), (9, .pointer (some (s_.2.1.add (t390).toNat))), (13, .int .i64 (wrap64 (Int.tdiv t393 59))), (14, .int .i64 (wrap64 ((wrap64 (Int.tdiv t393 59)) * 5))), (15, .int .i64 (wrap64 ((rd y387 t390) + (wrap64 ((wrap64 (Int.tdiv t393 59)) * 5))))), (16, .agg #[.int .i64 (wrap64 ((rd y387 t390) + (wrap64 ((wrap64 (Int.tdiv t393 59)) * 5)))), .int .i64 0, .int .i64 0])]) (fun s_ w' => (Kd.R (Kd.int .i64) 3 w' w.heap.size (fun _ => True) s_.1 y387) ∧ (∃ c_, (s_.1 : Value) = .slice (some s_.2.1) y387.length c_) ∧ (w'.heap[gb385]? = some (.cells #[.slice A1_0 l1_0.length c1_0, .int .i64 a1_1, .slice A1_2 l1_2.length c1_2] 26 (0, 0))) ∧ (w'.heap[gb386]? = some (.cells #[.int .i64 0, .int .i64 0, .int .i64 0] 81 (0, 0))) ∧ (w'.heap[s_.2.2]? = some (.cells #[.int .i64 0, .int .i64 0, .int .i64 0] 81 (0, 0))) ∧ (w.heap.size ≤ s_.2.2) ∧ (w0.heap.size ≤ s_.2.2) ∧ (g ≠ s_.2.2) ∧ (s_.2.2 ≠ g) ∧ (gb385 ≠ s_.2.2) ∧ (s_.2.2 ≠ gb385) ∧ (gb386 ≠ s_.2.2) ∧ (s_.2.2 ≠ gb386) ∧ (IsS73 w0 w' g s0_0 t394) ∧ (KeepBut w w' g none) ∧ (Below w0.heap.size w0 w')) ?_ ?_
   rotate_left
   ·intro hJ0_2_4_6_11
    refine join_ (σ := Value × Addr) 2 #[true, true, true, true, true, true, true, true, true, true, true, false, false] (fun s_ => [(6, s_.1), (8, .int .i64 t390), (10, .int .i64 (rd y387 t390)), (12, .int .i64 t393), (9, .pointer (some (s_.2.add (t390).toNat))), (13, .int .i64 (wrap64 (Int.tdiv t393 59))), (14, .int .i64 (wrap64 ((wrap64 (Int.tdiv t393 59)) * 5))), (15, .int .i64 (wrap64 ((rd y387 t390) + (wrap64 ((wrap64 (Int.tdiv t393 59)) * 5))))), (16, .agg #[.int .i64 (wrap64 ((rd y387 t390) + (wrap64 ((wrap64 (Int.tdiv t393 59)) * 5)))), .int .i64 0, .int .i64 0])]) (fun s_ w' => (Kd.R (Kd.int .i64) 3 w' w.heap.size (fun _ => True) s_.1 y387) ∧ (∃ c_, (s_.1 : Value) = .slice (some s_.2) y387.length c_) ∧ (w'.heap[gb385]? = some (.cells #[.slice A1_0 l1_0.length c1_0, .int .i64 a1_1, .slice A1_2 l1_2.length c1_2] 26 (0, 0))) ∧ (w'.heap[gb386]? = some (.cells #[.int .i64 0, .int .i64 0, .int .i64 0] 81 (0, 0))) ∧ (IsS73 w0 w' g s0_0 t394) ∧ (KeepBut w w' g none) ∧ (Below w0.heap.size w0 w')) ?_ ?_
    rotate_left
    ·intro hJ0_2_4_6
     refine join_ (σ := Value × Addr × Nat) 6 #[true, true, true, true, true, true, false, false, false, false, false, true, false] (fun s_ => [(6, s_.1), (8, .int .i64 t390), (10, .int .i64 (rd y387 t390)), (5, .pointer (some ⟨s_.2.2, 0, none⟩)), (9, .pointer (some (s_.2.1.add (t390).toNat)))]) (fun s_ w' => (Kd.R (Kd.int .i64) 3 w' w.heap.size (fun _ => True) s_.1 y387) ∧ (∃ c_, (s_.1 : Value) = .slice (some s_.2.1) y387.length c_) ∧ (w'.heap[gb385]? = some (.cells #[.slice A1_0 l1_0.length c1_0, .int .i64 a1_1, .slice A1_2 l1_2.length c1_2] 26 (0, 0))) ∧ (w'.heap[gb386]? = some (.cells #[.int .i64 0, .int .i64 0, .int .i64 0] 81 (0, 0))) ∧ (w'.heap[s_.2.2]? = some (.cells #[.int .i64 0, .int .i64 0, .int .i64 0] 81 (0, 0))) ∧ (w.heap.size ≤ s_.2.2) ∧ (w0.heap.size ≤ s_.2.2) ∧ (g ≠ s_.2.2) ∧ (s_.2.2 ≠ g) ∧ (gb385 ≠ s_.2.2) ∧ (s_.2.2 ≠ gb385) ∧ (gb386 ≠ s_.2.2) ∧ (s_.2.2 ≠ gb386) ∧ (IsS73 w0 w' g s0_0 t391) ∧ (KeepBut w w' g none) ∧ (Below w0.heap.size w0 w')) ?_ ?_
     rotate_left
     ·intro hJ0_2_4_11
      refine join_ (σ := Value × Addr × Nat) 4 #[true, true, true, true, false, true, true, true, true, false, false, true, false] (fun s_ => [(6, s_.1), (8, .int .i64 t390), (12, .int .i64 t393), (5, .pointer (some ⟨s_.2.2, 0, none⟩)), (9, .pointer (some (s_.2.1.add (t390).toNat))), (13, .int .i64 (wrap64 (Int.tdiv t393 59))), (14, .int .i64 (wrap64 ((wrap64 (Int.tdiv t393 59)) * 5)))]) (fun s_ w' => (Kd.R (Kd.int .i64) 3 w' w.heap.size (fun _ => True) s_.1 y387) ∧ (∃ c_, (s_.1 : Value) = .slice (some s_.2.1) y387.length c_) ∧ (w'.heap[gb385]? = some (.cells #[.slice A1_0 l1_0.length c1_0, .int .i64 a1_1, .slice A1_2 l1_2.length c1_2] 26 (0, 0))) ∧ (w'.heap[gb386]? = some (.cells #[.int .i64 0, .int .i64 0, .int .i64 0] 81 (0, 0))) ∧ (w'.heap[s_.2.2]? = some (.cells #[.int .i64 0, .int .i64 0, .int .i64 0] 81 (0, 0))) ∧ (w.heap.size ≤ s_.2.2) ∧ (w0.heap.size ≤ s_.2.2) ∧ (g ≠ s_.2.2) ∧ (s_.2.2 ≠ g) ∧ (gb385 ≠ s_.2.2) ∧ (s_.2.2 ≠ gb385) ∧ (gb386 ≠ s_.2.2) ∧ (s_.2.2 ≠ gb386) ∧ (IsS73 w0 w' g s0_0 t394) ∧ (KeepBut w w' g none) ∧ (Below w0.heap.size w0 w')) ?_ ?_
      rotate_left
      ·intro hJ0_2_6_11
       refine join_ (σ := Value × Addr) 7 #[true, true, true, true, true, true, false, false, false, false, false, false, false] (fun s_ => [(6, s_.1), (8, .int .i64 t390), (10, .int .i64 (rd y387 t390)), (9, .pointer (some (s_.2.add (t390).toNat)))]) (fun s_ w' => (Kd.R (Kd.int .i64) 3 w' w.heap.size (fun _ => True) s_.1 y387) ∧ (∃ c_, (s_.1 : Value) = .slice (some s_.2) y387.length c_) ∧ (w'.heap[gb385]? = some (.cells #[.slice A1_0 l1_0.length c1_0, .int .i64 a1_1, .slice A1_2 l1_2.length c1_2] 26 (0, 0))) ∧ (w'.heap[gb386]? = some (.cells #[.int .i64 0, .int .i64 0, .int .i64 0] 81 (0, 0))) ∧ (IsS73 w0 w' g s0_0 t391) ∧ (KeepBut w w' g none) ∧ (Below w0.heap.size w0 w')) ?_ ?_
       rotate_left
       ·intro hJ0_2_4
        refine join_ (σ := Value × Addr) 5 #[true, true, true, true, false, true, true, true, true, false, false, false, false] (fun s_ => [(6, s_.1), (8, .int .i64 t390), (12, .int .i64 t393), (9, .pointer (some (s_.2.add (t390).toNat))), (13, .int .i64 (wrap64 (Int.tdiv t393 59))), (14, .int .i64 (wrap64 ((wrap64 (Int.tdiv t393 59)) * 5)))]) (fun s_ w' => (Kd.R (Kd.int .i64) 3 w' w.heap.size (fun _ => True) s_.1 y387) ∧ (∃ c_, (s_.1 : Value) = .slice (some s_.2) y387.length c_) ∧ (w'.heap[gb385]? = some (.cells #[.slice A1_0 l1_0.length c1_0, .int .i64 a1_1, .slice A1_2 l1_2.length c1_2] 26 (0, 0))) ∧ (w'.heap[gb386]? = some (.cells #[.int .i64 0, .int .i64 0, .int .i64 0] 81 (0, 0))) ∧ (IsS73 w0 w' g s0_0 t394) ∧ (KeepBut w w' g none) ∧ (Below w0.heap.size w0 w')) ?_ ?_
        rotate_left
        ·intro hJ0_2_6
         refine join_ (σ := Value × Addr × Nat) 7 #[true, true, true, true, false, true, false, false, false, false, false, true, false] (fun s_ => [(6, s_.1), (8, .int .i64 t390), (5, .pointer (some ⟨s_.2.2, 0, none⟩)), (9, .pointer (some (s_.2.1.add (t390).toNat)))]) (fun s_ w' => (Kd.R (Kd.int .i64) 3 w' w.heap.size (fun _ => True) s_.1 y387) ∧ (∃ c_, (s_.1 : Value) = .slice (some s_.2.1) y387.length c_) ∧ (w'.heap[gb385]? = some (.cells #[.slice A1_0 l1_0.length c1_0, .int .i64 a1_1, .slice A1_2 l1_2.length c1_2] 26 (0, 0))) ∧ (w'.heap[gb386]? = some (.cells #[.int .i64 0, .int .i64 0, .int .i64 0] 81 (0, 0))) ∧ (w'.heap[s_.2.2]? = some (.cells #[.int .i64 0, .int .i64 0, .int .i64 0] 81 (0, 0))) ∧ (w.heap.size ≤ s_.2.2) ∧ (w0.heap.size ≤ s_.2.2) ∧ (g ≠ s_.2.2) ∧ (s_.2.2 ≠ g) ∧ (gb385 ≠ s_.2.2) ∧ (s_.2.2 ≠ gb385) ∧ (gb386 ≠ s_.2.2) ∧ (s_.2.2 ≠ gb386) ∧ (IsS73 w0 w' g s0_0 t391) ∧ (KeepBut w w' g none) ∧ (Below w0.heap.size w0 w')) ?_ ?_
         rotate_left
         ·intro hJ0_2_11
          refine join_ (σ := Nat) 6 #[false, true, true, false, false, true, true, true, true, false, false, true, false] (fun s_ => [(8, .int .i64 t390), (12, .int .i64 t393), (5, .pointer (some ⟨s_, 0, none⟩)), (13, .int .i64 (wrap64 (Int.tdiv t393 59))), (14, .int .i64 (wrap64 ((wrap64 (Int.tdiv t393 59)) * 5)))]) (fun s_ w' => (w'.heap[gb385]? = some (.cells #[.slice A1_0 l1_0.length c1_0, .int .i64 a1_1, .slice A1_2 l1_2.length c1_2] 26 (0, 0))) ∧ (w'.heap[gb386]? = some (.cells #[.int .i64 0, .int .i64 0, .int .i64 0] 81 (0, 0))) ∧ (w'.heap[s_]? = some (.cells #[.int .i64 0, .int .i64 0, .int .i64 0] 81 (0, 0))) ∧ (w.heap.size ≤ s_) ∧ (w0.heap.size ≤ s_) ∧ (g ≠ s_) ∧ (s_ ≠ g) ∧ (gb385 ≠ s_) ∧ (s_ ≠ gb385) ∧ (gb386 ≠ s_) ∧ (s_ ≠ gb386) ∧ (IsS73 w0 w' g s0_0 t394) ∧ (KeepBut w w' g none) ∧ (Below w0.heap.size w0 w')) ?_ ?_
          rotate_left
          ·intro hJ2_6_11
           refine join_ (σ := Value × Addr) 8 #[true, true, true, true, false, true, false, false, false, false, false, false, false] (fun s_ => [(6, s_.1), (8, .int .i64 t390), (9, .pointer (some (s_.2.add (t390).toNat)))]) (fun s_ w' => (Kd.R (Kd.int .i64) 3 w' w.heap.size (fun _ => True) s_.1 y387) ∧ (∃ c_, (s_.1 : Value) = .slice (some s_.2) y387.length c_) ∧ (w'.heap[gb385]? = some (.cells #[.slice A1_0 l1_0.length c1_0, .int .i64 a1_1, .slice A1_2 l1_2.length c1_2] 26 (0, 0))) ∧ (w'.heap[gb386]? = some (.cells #[.int .i64 0, .int .i64 0, .int .i64 0] 81 (0, 0))) ∧ (IsS73 w0 w' g s0_0 t391) ∧ (KeepBut w w' g none) ∧ (Below w0.heap.size w0 w')) ?_ ?_
           rotate_left
           ·intro hJ0_2
            refine join_ (σ := Value × Addr × Nat) 9 #[true, true, false, false, false, true, false, false, false, false, false, true, false] (fun s_ => [(6, s_.1), (5, .pointer (some ⟨s_.2.2, 0, none⟩))]) (fun s_ w' => (Kd.R (Kd.int .i64) 3 w' w.heap.size (fun _ => True) s_.1 y387) ∧ (∃ c_, (s_.1 : Value) = .slice (some s_.2.1) y387.length c_) ∧ (w'.heap[gb385]? = some (.cells #[.slice A1_0 l1_0.length c1_0, .int .i64 a1_1, .slice A1_2 l1_2.length c1_2] 26 (0, 0))) ∧ (w'.heap[gb386]? = some (.cells #[.int .i64 0, .int .i64 0, .int .i64 0] 81 (0, 0))) ∧ (w'.heap[s_.2.2]? = some (.cells #[.int .i64 0, .int .i64 0, .int .i64 0] 81 (0, 0))) ∧ (w.heap.size ≤ s_.2.2) ∧ (w0.heap.size ≤ s_.2.2) ∧ (g ≠ s_.2.2) ∧ (s_.2.2 ≠ g) ∧ (gb385 ≠ s_.2.2) ∧ (s_.2.2 ≠ gb385) ∧ (gb386 ≠ s_.2.2) ∧ (s_.2.2 ≠ gb386) ∧ (IsS73 w0 w' g s0_0 s0_1) ∧ (KeepBut w w' g none) ∧ (Below w0.heap.size w0 w')) ?_ ?_
            rotate_left
            ·intro hJ0_11
             refine join_ (σ := Unit) 7 #[false, true, true, false, false, true, true, true, true, false, false, false, false] (fun s_ => [(8, .int .i64 t390), (12, .int .i64 t393), (13, .int .i64 (wrap64 (Int.tdiv t393 59))), (14, .int .i64 (wrap64 ((wrap64 (Int.tdiv t393 59)) * 5)))]) (fun s_ w' => (w'.heap[gb385]? = some (.cells #[.slice A1_0 l1_0.length c1_0, .int .i64 a1_1, .slice A1_2 l1_2.length c1_2] 26 (0, 0))) ∧ (w'.heap[gb386]? = some (.cells #[.int .i64 0, .int .i64 0, .int .i64 0] 81 (0, 0))) ∧ (IsS73 w0 w' g s0_0 t394) ∧ (KeepBut w w' g none) ∧ (Below w0.heap.size w0 w')) ?_ ?_
             rotate_left
             ·intro hJ2_6
              refine join_ (σ := Nat) 9 #[false, true, true, false, false, true, false, false, false, false, false, true, false] (fun s_ => [(8, .int .i64 t390), (5, .pointer (some ⟨s_, 0, none⟩))]) (fun s_ w' => (w'.heap[gb385]? = some (.cells #[.slice A1_0 l1_0.length c1_0, .int .i64 a1_1, .slice A1_2 l1_2.length c1_2] 26 (0, 0))) ∧ (w'.heap[gb386]? = some (.cells #[.int .i64 0, .int .i64 0, .int .i64 0] 81 (0, 0))) ∧ (w'.heap[s_]? = some (.cells #[.int .i64 0, .int .i64 0, .int .i64 0] 81 (0, 0))) ∧ (w.heap.size ≤ s_) ∧ (w0.heap.size ≤ s_) ∧ (g ≠ s_) ∧ (s_ ≠ g) ∧ (gb385 ≠ s_) ∧ (s_ ≠ gb385) ∧ (gb386 ≠ s_) ∧ (s_ ≠ gb386) ∧ (IsS73 w0 w' g s0_0 t391) ∧ (KeepBut w w' g none) ∧ (Below w0.heap.size w0 w')) ?_ ?_
              rotate_left
              ·intro hJ2_11
               refine join_ (σ := Value × Addr) 10 #[true, true, false, false, false, true, false, false, false, false, false, false, false] (fun s_ => [(6, s_.1)]) (fun s_ w' => (Kd.R (Kd.int .i64) 3 w' w.heap.size (fun _ => True) s_.1 y387) ∧ (∃ c_, (s_.1 : Value) = .slice (some s_.2) y387.length c_) ∧ (w'.heap[gb385]? = some (.cells #[.slice A1_0 l1_0.length c1_0, .int .i64 a1_1, .slice A1_2 l1_2.length c1_2] 26 (0, 0))) ∧ (w'.heap[gb386]? = some (.cells #[.int .i64 0, .int .i64 0, .int .i64 0] 81 (0, 0))) ∧ (IsS73 w0 w' g s0_0 s0_1) ∧ (KeepBut w w' g none) ∧ (Below w0.heap.size w0 w')) ?_ ?_
               rotate_left
               ·intro hJ0
                refine join_ (σ := Unit) 10 #[false, true, true, false, false, true, false, false, false, false, false, false, false] (fun s_ => [(8, .int .i64 t390)]) (fun s_ w' => (w'.heap[gb385]? = some (.cells #[.slice A1_0 l1_0.length c1_0, .int .i64 a1_1, .slice A1_2 l1_2.length c1_2] 26 (0, 0))) ∧ (w'.heap[gb386]? = some (.cells #[.int .i64 0, .int .i64 0, .int .i64 0] 81 (0, 0))) ∧ (IsS73 w0 w' g s0_0 t391) ∧ (KeepBut w w' g none) ∧ (Below w0.heap.size w0 w')) ?_ ?_
                rotate_left
                ·intro hJ2
                 refine join_ (σ := Nat) 10 #[false, true, false, false, false, true, false, false, false, false, false, true, false] (fun s_ => [(5, .pointer (some ⟨s_, 0, none⟩))]) (fun s_ w' => (w'.heap[gb385]? = some (.cells #[.slice A1_0 l1_0.length c1_0, .int .i64 a1_1, .slice A1_2 l1_2.length c1_2] 26 (0, 0))) ∧ (w'.heap[gb386]? = some (.cells #[.int .i64 0, .int .i64 0, .int .i64 0] 81 (0, 0))) ∧ (w'.heap[s_]? = some (.cells #[.int .i64 0, .int .i64 0, .int .i64 0] 81 (0, 0))) ∧ (w.heap.size ≤ s_) ∧ (w0.heap.size ≤ s_) ∧ (g ≠ s_) ∧ (s_ ≠ g) ∧ (gb385 ≠ s_) ∧ (s_ ≠ gb385) ∧ (gb386 ≠ s_) ∧ (s_ ≠ gb386) ∧ (IsS73 w0 w' g s0_0 s0_1) ∧ (KeepBut w w' g none) ∧ (Below w0.heap.size w0 w')) ?_ ?_
                 rotate_left
                 ·intro hJ11
                  refine three_ (i := 0) (j := 2) (k := 11) (Ni := some 6) (Nj := some 8) (Nk := some 5) #[true, true, false, false, false, true, false, false, false, false, false, false, false] #[false, true, true, false, false, true, false, false, false, false, false, false, false] #[false, true, false, false, false, true, false, false, false, false, false, true, false] rfl rfl rfl rfl rfl rfl (three_of HT_.out (by kernel_rfl)) (by decide) (by decide) (by decide) (fun K hK => ?_) (fun K hK => ?_) (fun K hK => ?_)
                  ·skip
                   refine Kd.R_lit_step (Kd.int .i64) _ 3 ?hg (N := 6) ?hd (xs := ([0, 0, 1, 1, 2, 2, 3, 4] : List Int)) (inner := [.int .i64 0, .int .i64 0, .int .i64 1, .int .i64 1, .int .i64 2, .int .i64 2, .int .i64 3, .int .i64 4]) (ok := fun _ => True) (okp := fun _ => True) ?hr ?hp (fun _ hk => hk) trivial (Below.refl _ _) (Nat.le_refl _) (by simp) ?_; (case hd => rfl); (case hg => rfl); (case hr => first | (go_simp; done) | (go_simp; rfl)); (case hp => exact (Reps.one (show Kd.M (Kd.int .i64) _ _ _ 0 [.int .i64 0] from rfl) (Reps.one (show Kd.M (Kd.int .i64) _ _ _ 0 [.int .i64 0] from rfl) (Reps.one (show Kd.M (Kd.int .i64) _ _ _ 1 [.int .i64 1] from rfl) (Reps.one (show Kd.M (Kd.int .i64) _ _ _ 1 [.int .i64 1] from rfl) (Reps.one (show Kd.M (Kd.int .i64) _ _ _ 2 [.int .i64 2] from rfl) (Reps.one (show Kd.M (Kd.int .i64) _ _ _ 2 [.int .i64 2] from rfl) (Reps.one (show Kd.M (Kd.int .i64) _ _ _ 3 [.int .i64 3] from rfl) (Reps.one (show Kd.M (Kd.int .i64) _ _ _ 4 [.int .i64 4] from rfl) (Reps.none _ _))))))))))
                   intro v388 w11 ho12 hb hg_ hnew_
                   clear hg_ hnew_
                   (first | rw [← Ny387.out] at ho12 | (simp only [Int.reduceToNat] at ho12; rw [← Ny387.out] at ho12))
                   have n0_ := Aside0.mk (Kd.R_lower ho12 (ksq (hkqa HK.out)))
                   have n1_ := Aside0.mk (IsS73.below (IsS73.q HI0.out) hb)
                   have n2_ := Aside0.mk (blk_below (bkq BK385.out) hb)
                   have n3_ := Aside0.mk (blk_below (bkq BK386.out) hb)
                   have n4_ := Aside0.mk (KeepBut.trans (hkqa HK.out) (KeepBut.of_below hb g none) (.inl rfl))
                   have n5_ := Aside0.mk (below_step (hbqs HB.out (IsS73.ge HI0.out)) hb)
                   clear HI0 BK385 BK386 HK HB
                   revert n0_ n1_ n2_ n3_ n4_ n5_
                   intro HO389 HI0 BK385 BK386 HK HB
                   clear hb ho12
                   obtain ⟨Ao13, co13, eo13⟩ := Kd.R_slice HO389.out
                   subst eo13
                   obtain ⟨ado13, fo13, _⟩ := Kd.at_int (Kd.R_reads' HO389.out).2.2 0 (by decide) (by rw [Ny387.out]; simp)
                   cases fo13
                   refine hK.out _ _ trivial (fun hHeld => ?_)
                   clear hK K
                   refine normq 6 ?_
                   exact norm_ (by first | (simp only [putAll, Act.put, List.setIfInBounds_toArray, List.set_cons_zero, List.set_cons_succ]; done) | (simp only [putAll, Act.put, List.setIfInBounds_toArray, List.set_cons_zero, List.set_cons_succ]; rfl)) (hJ0 (.slice (some ado13) y387.length co13, ado13) _ ⟨(roq HO389.out), ⟨_, rfl⟩, (bkq BK385.out), (bkq BK386.out), (IsS73.q HI0.out), (hkqa HK.out), (hbqs HB.out (IsS73.ge HI0.out))⟩)
                  ·skip
                   refine goes_ Try.func62 (by kernel_rfl) rfl #[.pointer (some ⟨g, 0, none⟩), .int .i64 8] (by rfl) rfl rfl mpq ?_
                   with_reducible refine (spec_l20Rd_pick.calls k g s0_0 s0_1 8 t390 t391 w0 _ ?side1 ?side2 A3.out).mono ?_
                   (case side1 => exact IsS73.q HI0.out)
                   (case side2 => exact hbqs HB.out (IsS73.ge HI0.out))
                   rintro e w11 ⟨rfl, hi, hb, hk⟩
                   refine ⟨_, rfl, ?_⟩
                   have n0_ := Aside0.mk (KeepBut.blk hk (bkq BK385.out) NB385_0.out (by simp))
                   have n1_ := Aside0.mk (KeepBut.blk hk (bkq BK386.out) NB386_0.out (by simp))
                   have n2_ := Aside0.mk (KeepBut.trans (hkqa HK.out) hk (.inl rfl))
                   have n3_ := Aside0.mk (hb)
                   have n4_ := Aside0.mk (hi)
                   clear BK385 BK386 HK HB HI0
                   revert n0_ n1_ n2_ n3_ n4_
                   intro BK385 BK386 HK HB HI0
                   (try clear hb)
                   (try clear hb2)
                   (try clear hk)
                   (try clear hi)
                   refine hK.out _ _ trivial (fun hHeld => ?_)
                   clear hK K
                   refine normq 8 ?_
                   exact norm_ (by first | (simp only [putAll, Act.put, List.setIfInBounds_toArray, List.set_cons_zero, List.set_cons_succ]; done) | (simp only [putAll, Act.put, List.setIfInBounds_toArray, List.set_cons_zero, List.set_cons_succ]; rfl)) (hJ2 () _ ⟨(bkq BK385.out), (bkq BK386.out), (IsS73.q HI0.out), (hkqa HK.out), (hbqs HB.out (IsS73.ge HI0.out))⟩)
                  ·skip
                   refine box_step ?hg (N := 5) ?hd (cs := #[.int .i64 0, .int .i64 0, .int .i64 0]) (t := 81) ?hr ?_; (case hd => rfl); (case hg => rfl); (case hr => first | (go_simp; done) | (go_simp; rfl))
                   intro gb395 hg w11 hbox hb
                   have n0_ := Aside0.mk (IsS73.below (IsS73.q HI0.out) hb)
                   have n1_ := Aside0.mk (blk_below (bkq BK385.out) hb)
                   have n2_ := Aside0.mk (blk_below (bkq BK386.out) hb)
                   have n3_ := Aside0.mk (KeepBut.trans (hkqa HK.out) (KeepBut.of_below hb g none) (.inl rfl))
                   have n4_ := Aside0.mk (below_step (hbqs HB.out (IsS73.ge HI0.out)) hb)
                   have n5_ := Aside0.mk (hbox)
                   have n6_ := Aside0.mk ((by rw [hg]; exact (ksq (hkqa HK.out)) : w.heap.size ≤ gb395))
                   have n7_ := Aside0.mk ((Nat.le_trans HW0.out (by rw [hg]; exact (ksq (hkqa HK.out)) : w.heap.size ≤ gb395) : w0.heap.size ≤ gb395))
                   have n8_ := Aside0.mk ((by rw [hg]; exact Nat.ne_of_lt (blk_lt (bkq BK385.out)) : gb385 ≠ gb395))
                   have n9_ := Aside0.mk ((by rw [hg]; exact Nat.ne_of_gt (blk_lt (bkq BK385.out)) : gb395 ≠ gb385))
                   have n10_ := Aside0.mk ((by rw [hg]; exact Nat.ne_of_lt (blk_lt (bkq BK386.out)) : gb386 ≠ gb395))
                   have n11_ := Aside0.mk ((by rw [hg]; exact Nat.ne_of_gt (blk_lt (bkq BK386.out)) : gb395 ≠ gb386))
                   have n12_ := Aside0.mk ((by rw [hg]; exact Nat.ne_of_lt (IsS73.lt (show IsS73 w0 _ g s0_0 s0_1 from IsS73.q HI0.out)) : g ≠ gb395))
                   have n13_ := Aside0.mk ((by rw [hg]; exact Nat.ne_of_gt (IsS73.lt (show IsS73 w0 _ g s0_0 s0_1 from IsS73.q HI0.out)) : gb395 ≠ g))
                   clear HI0 BK385 BK386 HK HB
                   revert n0_ n1_ n2_ n3_ n4_ n5_ n6_ n7_ n8_ n9_ n10_ n11_ n12_ n13_
                   intro HI0 BK385 BK386 HK HB BK395 GW395 GE395 NB385_395 NB395_385 NB386_395 NB395_386 NB0_395 NB395_0
                   clear hb hbox hg
                   refine hK.out _ _ trivial (fun hHeld => ?_)
                   clear hK K
                   refine normq 5 ?_
                   exact norm_ (by first | (simp only [putAll, Act.put, List.setIfInBounds_toArray, List.set_cons_zero, List.set_cons_succ]; done) | (simp only [putAll, Act.put, List.setIfInBounds_toArray, List.set_cons_zero, List.set_cons_succ]; rfl)) (hJ11 (gb395) _ ⟨(bkq BK385.out), (bkq BK386.out), (bkq BK395.out), GW395.out, GE395.out, NB0_395.out, NB395_0.out, NB385_395.out, NB395_385.out, NB386_395.out, NB395_386.out, (IsS73.q HI0.out), (hkqa HK.out), (hbqs HB.out (IsS73.ge HI0.out))⟩)
                 ·skip
                  rintro gb395 w12 ⟨h0_, h1_, h2_, h3_, h4_, h5_, h6_, h7_, h8_, h9_, h10_, h11_, h12_, h13_⟩
                  have n0_ : Aside0 (w12.heap[gb385]? = some (.cells #[.slice A1_0 l1_0.length c1_0, .int .i64 a1_1, .slice A1_2 l1_2.length c1_2] 26 (0, 0))) := ⟨h0_⟩
                  have n1_ : Aside0 (w12.heap[gb386]? = some (.cells #[.int .i64 0, .int .i64 0, .int .i64 0] 81 (0, 0))) := ⟨h1_⟩
                  have n2_ : Aside0 (w12.heap[gb395]? = some (.cells #[.int .i64 0, .int .i64 0, .int .i64 0] 81 (0, 0))) := ⟨h2_⟩
                  have n3_ : Aside0 (w.heap.size ≤ gb395) := ⟨h3_⟩
                  have n4_ : Aside0 (w0.heap.size ≤ gb395) := ⟨h4_⟩
                  have n5_ : Aside0 (g ≠ gb395) := ⟨h5_⟩
                  have n6_ : Aside0 (gb395 ≠ g) := ⟨h6_⟩
                  have n7_ : Aside0 (gb385 ≠ gb395) := ⟨h7_⟩
                  have n8_ : Aside0 (gb395 ≠ gb385) := ⟨h8_⟩
                  have n9_ : Aside0 (gb386 ≠ gb395) := ⟨h9_⟩
                  have n10_ : Aside0 (gb395 ≠ gb386) := ⟨h10_⟩
                  have n11_ : Aside0 (IsS73 w0 w12 g s0_0 s0_1) := ⟨h11_⟩
                  have n12_ : Aside0 (KeepBut w w12 g none) := ⟨h12_⟩
                  have n13_ : Aside0 (Below w0.heap.size w0 w12) := ⟨h13_⟩
                  clear BK385
                  clear BK386
                  clear HI0
                  clear HK
                  clear HB
                  clear h0_ h1_ h2_ h3_ h4_ h5_ h6_ h7_ h8_ h9_ h10_ h11_ h12_ h13_
                  have BK385 := n0_
                  have BK386 := n1_
                  have BK395 := n2_
                  have GW395 := n3_
                  have GE395 := n4_
                  have NB0_395 := n5_
                  have NB395_0 := n6_
                  have NB385_395 := n7_
                  have NB395_385 := n8_
                  have NB386_395 := n9_
                  have NB395_386 := n10_
                  have HI0 := n11_
                  have HK := n12_
                  have HB := n13_
                  clear n0_ n1_ n2_ n3_ n4_ n5_ n6_ n7_ n8_ n9_ n10_ n11_ n12_ n13_
                  have hHeld := trivial
                  refine norm_ (a' := ?_) ?_ ?_
                  rotate_left
                  ·simp only [putAll, Act.put, List.setIfInBounds_toArray, List.set_cons_zero, List.set_cons_succ]
                   rfl
                  refine two_ (i := 0) (j := 2) (Ni := some 6) (Nj := some 8) #[true, true, false, false, false, true, false, false, false, false, false, true, false] #[false, true, true, false, false, true, false, false, false, false, false, true, false] rfl rfl rfl rfl (two_of HT_.out (by kernel_rfl)) (by decide) (by decide) (fun K hK => ?_) (fun K hK => ?_)
                  ·skip
                   refine Kd.R_lit_step (Kd.int .i64) _ 3 ?hg (N := 6) ?hd (xs := ([0, 0, 1, 1, 2, 2, 3, 4] : List Int)) (inner := [.int .i64 0, .int .i64 0, .int .i64 1, .int .i64 1, .int .i64 2, .int .i64 2, .int .i64 3, .int .i64 4]) (ok := fun _ => True) (okp := fun _ => True) ?hr ?hp (fun _ hk => hk) trivial (Below.refl _ _) (Nat.le_refl _) (by simp) ?_; (case hd => rfl); (case hg => rfl); (case hr => first | (go_simp; done) | (go_simp; rfl)); (case hp => exact (Reps.one (show Kd.M (Kd.int .i64) _ _ _ 0 [.int .i64 0] from rfl) (Reps.one (show Kd.M (Kd.int .i64) _ _ _ 0 [.int .i64 0] from rfl) (Reps.one (show Kd.M (Kd.int .i64) _ _ _ 1 [.int .i64 1] from rfl) (Reps.one (show Kd.M (Kd.int .i64) _ _ _ 1 [.int .i64 1] from rfl) (Reps.one (show Kd.M (Kd.int .i64) _ _ _ 2 [.int .i64 2] from rfl) (Reps.one (show Kd.M (Kd.int .i64) _ _ _ 2 [.int .i64 2] from rfl) (Reps.one (show Kd.M (Kd.int .i64) _ _ _ 3 [.int .i64 3] from rfl) (Reps.one (show Kd.M (Kd.int .i64) _ _ _ 4 [.int .i64 4] from rfl) (Reps.none _ _))))))))))
                   intro v388 w13 ho14 hb hg_ hnew_
                   clear hg_ hnew_
                   (first | rw [← Ny387.out] at ho14 | (simp only [Int.reduceToNat] at ho14; rw [← Ny387.out] at ho14))
                   have n0_ := Aside0.mk (Kd.R_lower ho14 (ksq (hkqa HK.out)))
                   have n1_ := Aside0.mk (IsS73.below (IsS73.q HI0.out) hb)
                   have n2_ := Aside0.mk (blk_below (bkq BK385.out) hb)
                   have n3_ := Aside0.mk (blk_below (bkq BK386.out) hb)
                   have n4_ := Aside0.mk (blk_below (bkq BK395.out) hb)
                   have n5_ := Aside0.mk (KeepBut.trans (hkqa HK.out) (KeepBut.of_below hb g none) (.inl rfl))
                   have n6_ := Aside0.mk (below_step (hbqs HB.out (IsS73.ge HI0.out)) hb)
                   clear HI0 BK385 BK386 BK395 HK HB
                   revert n0_ n1_ n2_ n3_ n4_ n5_ n6_
                   intro HO389 HI0 BK385 BK386 BK395 HK HB
                   clear hb ho14
                   obtain ⟨Ao15, co15, eo15⟩ := Kd.R_slice HO389.out
                   subst eo15
                   obtain ⟨ado15, fo15, _⟩ := Kd.at_int (Kd.R_reads' HO389.out).2.2 0 (by decide) (by rw [Ny387.out]; simp)
                   cases fo15
                   refine hK.out _ _ trivial (fun hHeld => ?_)
                   clear hK K
                   refine normq 6 ?_
                   exact norm_ (by first | (simp only [putAll, Act.put, List.setIfInBounds_toArray, List.set_cons_zero, List.set_cons_succ]; done) | (simp only [putAll, Act.put, List.setIfInBounds_toArray, List.set_cons_zero, List.set_cons_succ]; rfl)) (hJ0_11 (.slice (some ado15) y387.length co15, ado15, gb395) _ ⟨(roq HO389.out), ⟨_, rfl⟩, (bkq BK385.out), (bkq BK386.out), (bkq BK395.out), GW395.out, GE395.out, NB0_395.out, NB395_0.out, NB385_395.out, NB395_385.out, NB386_395.out, NB395_386.out, (IsS73.q HI0.out), (hkqa HK.out), (hbqs HB.out (IsS73.ge HI0.out))⟩)
                  ·skip
                   refine goes_ Try.func62 (by kernel_rfl) rfl #[.pointer (some ⟨g, 0, none⟩), .int .i64 8] (by rfl) rfl rfl mpq ?_
                   with_reducible refine (spec_l20Rd_pick.calls k g s0_0 s0_1 8 t390 t391 w0 _ ?side1 ?side2 A3.out).mono ?_
                   (case side1 => exact IsS73.q HI0.out)
                   (case side2 => exact hbqs HB.out (IsS73.ge HI0.out))
                   rintro e w13 ⟨rfl, hi, hb, hk⟩
                   refine ⟨_, rfl, ?_⟩
                   have n0_ := Aside0.mk (KeepBut.blk hk (bkq BK385.out) NB385_0.out (by simp))
                   have n1_ := Aside0.mk (KeepBut.blk hk (bkq BK386.out) NB386_0.out (by simp))
                   have n2_ := Aside0.mk (KeepBut.blk hk (bkq BK395.out) NB395_0.out (by simp))
                   have n3_ := Aside0.mk (KeepBut.trans (hkqa HK.out) hk (.inl rfl))
                   have n4_ := Aside0.mk (hb)
                   have n5_ := Aside0.mk (hi)
                   clear BK385 BK386 BK395 HK HB HI0
                   revert n0_ n1_ n2_ n3_ n4_ n5_
                   intro BK385 BK386 BK395 HK HB HI0
                   (try clear hb)
                   (try clear hb2)
                   (try clear hk)
                   (try clear hi)
                   refine hK.out _ _ trivial (fun hHeld => ?_)
                   clear hK K
                   refine normq 8 ?_
                   exact norm_ (by first | (simp only [putAll, Act.put, List.setIfInBounds_toArray, List.set_cons_zero, List.set_cons_succ]; done) | (simp only [putAll, Act.put, List.setIfInBounds_toArray, List.set_cons_zero, List.set_cons_succ]; rfl)) (hJ2_11 (gb395) _ ⟨(bkq BK385.out), (bkq BK386.out), (bkq BK395.out), GW395.out, GE395.out, NB0_395.out, NB395_0.out, NB385_395.out, NB395_385.out, NB386_395.out, NB395_386.out, (IsS73.q HI0.out), (hkqa HK.out), (hbqs HB.out (IsS73.ge HI0.out))⟩)
                ·skip
                 rintro _ w12 ⟨h0_, h1_, h2_, h3_, h4_⟩
                 have n0_ : Aside0 (w12.heap[gb385]? = some (.cells #[.slice A1_0 l1_0.length c1_0, .int .i64 a1_1, .slice A1_2 l1_2.length c1_2] 26 (0, 0))) := ⟨h0_⟩
                 have n1_ : Aside0 (w12.heap[gb386]? = some (.cells #[.int .i64 0, .int .i64 0, .int .i64 0] 81 (0, 0))) := ⟨h1_⟩
                 have n2_ : Aside0 (IsS73 w0 w12 g s0_0 t391) := ⟨h2_⟩
                 have n3_ : Aside0 (KeepBut w w12 g none) := ⟨h3_⟩
                 have n4_ : Aside0 (Below w0.heap.size w0 w12) := ⟨h4_⟩
                 clear BK385
                 clear BK386
                 clear HI0
                 clear HK
                 clear HB
                 clear h0_ h1_ h2_ h3_ h4_
                 have BK385 := n0_
                 have BK386 := n1_
                 have HI0 := n2_
                 have HK := n3_
                 have HB := n4_
                 clear n0_ n1_ n2_ n3_ n4_
                 have hHeld := trivial
                 refine norm_ (a' := ?_) ?_ ?_
                 rotate_left
                 ·simp only [putAll, Act.put, List.setIfInBounds_toArray, List.set_cons_zero, List.set_cons_succ]
                  rfl
                 refine three_ (i := 0) (j := 6) (k := 11) (Ni := some 6) (Nj := some 12) (Nk := some 5) #[true, true, true, false, false, true, false, false, false, false, false, false, false] #[false, true, true, false, false, true, true, false, false, false, false, false, false] #[false, true, true, false, false, true, false, false, false, false, false, true, false] rfl rfl rfl rfl rfl rfl (three_of HT_.out (by kernel_rfl)) (by decide) (by decide) (by decide) (fun K hK => ?_) (fun K hK => ?_) (fun K hK => ?_)
                 ·skip
                  refine Kd.R_lit_step (Kd.int .i64) _ 3 ?hg (N := 6) ?hd (xs := ([0, 0, 1, 1, 2, 2, 3, 4] : List Int)) (inner := [.int .i64 0, .int .i64 0, .int .i64 1, .int .i64 1, .int .i64 2, .int .i64 2, .int .i64 3, .int .i64 4]) (ok := fun _ => True) (okp := fun _ => True) ?hr ?hp (fun _ hk => hk) trivial (Below.refl _ _) (Nat.le_refl _) (by simp) ?_; (case hd => rfl); (case hg => rfl); (case hr => first | (go_simp; done) | (go_simp; rfl)); (case hp => exact (Reps.one (show Kd.M (Kd.int .i64) _ _ _ 0 [.int .i64 0] from rfl) (Reps.one (show Kd.M (Kd.int .i64) _ _ _ 0 [.int .i64 0] from rfl) (Reps.one (show Kd.M (Kd.int .i64) _ _ _ 1 [.int .i64 1] from rfl) (Reps.one (show Kd.M (Kd.int .i64) _ _ _ 1 [.int .i64 1] from rfl) (Reps.one (show Kd.M (Kd.int .i64) _ _ _ 2 [.int .i64 2] from rfl) (Reps.one (show Kd.M (Kd.int .i64) _ _ _ 2 [.int .i64 2] from rfl) (Reps.one (show Kd.M (Kd.int .i64) _ _ _ 3 [.int .i64 3] from rfl) (Reps.one (show Kd.M (Kd.int .i64) _ _ _ 4 [.int .i64 4] from rfl) (Reps.none _ _))))))))))
                  intro v388 w13 ho14 hb hg_ hnew_
                  clear hg_ hnew_
                  (first | rw [← Ny387.out] at ho14 | (simp only [Int.reduceToNat] at ho14; rw [← Ny387.out] at ho14))
                  have n0_ := Aside0.mk (Kd.R_lower ho14 (ksq (hkqa HK.out)))
                  have n1_ := Aside0.mk (IsS73.below (IsS73.q HI0.out) hb)
                  have n2_ := Aside0.mk (blk_below (bkq BK385.out) hb)
                  have n3_ := Aside0.mk (blk_below (bkq BK386.out) hb)
                  have n4_ := Aside0.mk (KeepBut.trans (hkqa HK.out) (KeepBut.of_below hb g none) (.inl rfl))
                  have n5_ := Aside0.mk (below_step (hbqs HB.out (IsS73.ge HI0.out)) hb)
                  clear HI0 BK385 BK386 HK HB
                  revert n0_ n1_ n2_ n3_ n4_ n5_
                  intro HO389 HI0 BK385 BK386 HK HB
                  clear hb ho14
                  obtain ⟨Ao15, co15, eo15⟩ := Kd.R_slice HO389.out
                  subst eo15
                  obtain ⟨ado15, fo15, _⟩ := Kd.at_int (Kd.R_reads' HO389.out).2.2 0 (by decide) (by rw [Ny387.out]; simp)
                  cases fo15
                  refine hK.out _ _ trivial (fun hHeld => ?_)
                  clear hK K
                  refine normq 6 ?_
                  refine pureq (i := 3) (N := some 9) #[true, true, true, true, false, true, false, false, false, false, false, false, false] rfl rfl HT_.out ?_
                  exact norm_ (by first | (simp only [putAll, Act.put, List.setIfInBounds_toArray, List.set_cons_zero, List.set_cons_succ]; done) | (simp only [putAll, Act.put, List.setIfInBounds_toArray, List.set_cons_zero, List.set_cons_succ]; rfl)) (hJ0_2 (.slice (some ado15) y387.length co15, ado15) _ ⟨(roq HO389.out), ⟨_, rfl⟩, (bkq BK385.out), (bkq BK386.out), (IsS73.q HI0.out), (hkqa HK.out), (hbqs HB.out (IsS73.ge HI0.out))⟩)
                 ·skip
                  refine goes_ Try.func62 (by kernel_rfl) rfl #[.pointer (some ⟨g, 0, none⟩), .int .i64 60] (by rfl) rfl rfl mpq ?_
                  with_reducible refine (spec_l20Rd_pick.calls k g s0_0 t391 60 t393 t394 w0 _ ?side1 ?side2 A6.out).mono ?_
                  (case side1 => exact IsS73.q HI0.out)
                  (case side2 => exact hbqs HB.out (IsS73.ge HI0.out))
                  rintro e w13 ⟨rfl, hi, hb, hk⟩
                  refine ⟨_, rfl, ?_⟩
                  have n0_ := Aside0.mk (KeepBut.blk hk (bkq BK385.out) NB385_0.out (by simp))
                  have n1_ := Aside0.mk (KeepBut.blk hk (bkq BK386.out) NB386_0.out (by simp))
                  have n2_ := Aside0.mk (KeepBut.trans (hkqa HK.out) hk (.inl rfl))
                  have n3_ := Aside0.mk (hb)
                  have n4_ := Aside0.mk (hi)
                  clear BK385 BK386 HK HB HI0
                  revert n0_ n1_ n2_ n3_ n4_
                  intro BK385 BK386 HK HB HI0
                  (try clear hb)
                  (try clear hb2)
                  (try clear hk)
                  (try clear hi)
                  refine hK.out _ _ trivial (fun hHeld => ?_)
                  clear hK K
                  refine normq 12 ?_
                  refine pureq (i := 7) (N := some 13) #[false, true, true, false, false, true, true, true, false, false, false, false, false] rfl rfl HT_.out ?_
                  refine pureq (i := 8) (N := some 14) #[false, true, true, false, false, true, true, true, true, false, false, false, false] rfl rfl HT_.out ?_
                  exact norm_ (by first | (simp only [putAll, Act.put, List.setIfInBounds_toArray, List.set_cons_zero, List.set_cons_succ]; done) | (simp only [putAll, Act.put, List.setIfInBounds_toArray, List.set_cons_zero, List.set_cons_succ]; rfl)) (hJ2_6 () _ ⟨(bkq BK385.out), (bkq BK386.out), (IsS73.q HI0.out), (hkqa HK.out), (hbqs HB.out (IsS73.ge HI0.out))⟩)
                 ·skip
                  refine box_step ?hg (N := 5) ?hd (cs := #[.int .i64 0, .int .i64 0, .int .i64 0]) (t := 81) ?hr ?_; (case hd => rfl); (case hg => rfl); (case hr => first | (go_simp; done) | (go_simp; rfl))
                  intro gb395 hg w13 hbox hb
                  have n0_ := Aside0.mk (IsS73.below (IsS73.q HI0.out) hb)
                  have n1_ := Aside0.mk (blk_below (bkq BK385.out) hb)
                  have n2_ := Aside0.mk (blk_below (bkq BK386.out) hb)
                  have n3_ := Aside0.mk (KeepBut.trans (hkqa HK.out) (KeepBut.of_below hb g none) (.inl rfl))
                  have n4_ := Aside0.mk (below_step (hbqs HB.out (IsS73.ge HI0.out)) hb)
                  have n5_ := Aside0.mk (hbox)
                  have n6_ := Aside0.mk ((by rw [hg]; exact (ksq (hkqa HK.out)) : w.heap.size ≤ gb395))
                  have n7_ := Aside0.mk ((Nat.le_trans HW0.out (by rw [hg]; exact (ksq (hkqa HK.out)) : w.heap.size ≤ gb395) : w0.heap.size ≤ gb395))
                  have n8_ := Aside0.mk ((by rw [hg]; exact Nat.ne_of_lt (blk_lt (bkq BK385.out)) : gb385 ≠ gb395))
                  have n9_ := Aside0.mk ((by rw [hg]; exact Nat.ne_of_gt (blk_lt (bkq BK385.out)) : gb395 ≠ gb385))
                  have n10_ := Aside0.mk ((by rw [hg]; exact Nat.ne_of_lt (blk_lt (bkq BK386.out)) : gb386 ≠ gb395))
                  have n11_ := Aside0.mk ((by rw [hg]; exact Nat.ne_of_gt (blk_lt (bkq BK386.out)) : gb395 ≠ gb386))
                  have n12_ := Aside0.mk ((by rw [hg]; exact Nat.ne_of_lt (IsS73.lt (show IsS73 w0 _ g s0_0 t391 from IsS73.q HI0.out)) : g ≠ gb395))
                  have n13_ := Aside0.mk ((by rw [hg]; exact Nat.ne_of_gt (IsS73.lt (show IsS73 w0 _ g s0_0 t391 from IsS73.q HI0.out)) : gb395 ≠ g))
                  clear HI0 BK385 BK386 HK HB
                  revert n0_ n1_ n2_ n3_ n4_ n5_ n6_ n7_ n8_ n9_ n10_ n11_ n12_ n13_
                  intro HI0 BK385 BK386 HK HB BK395 GW395 GE395 NB385_395 NB395_385 NB386_395 NB395_386 NB0_395 NB395_0
                  clear hb hbox hg
                  refine hK.out _ _ trivial (fun hHeld => ?_)
                  clear hK K
                  refine normq 5 ?_
                  exact norm_ (by first | (simp only [putAll, Act.put, List.setIfInBounds_toArray, List.set_cons_zero, List.set_cons_succ]; done) | (simp only [putAll, Act.put, List.setIfInBounds_toArray, List.set_cons_zero, List.set_cons_succ]; rfl)) (hJ2_11 (gb395) _ ⟨(bkq BK385.out), (bkq BK386.out), (bkq BK395.out), GW395.out, GE395.out, NB0_395.out, NB395_0.out, NB385_395.out, NB395_385.out, NB386_395.out, NB395_386.out, (IsS73.q HI0.out), (hkqa HK.out), (hbqs HB.out (IsS73.ge HI0.out))⟩)
               ·skip
                rintro ⟨v388, adz_v388⟩ w14 ⟨h0_, h1_, h2_, h3_, h4_, h5_, h6_⟩
                have n0_ : Aside0 (Kd.R (Kd.int .i64) 3 w14 w.heap.size (fun _ => True) v388 y387) := ⟨h0_⟩
                have n1_ : Aside0 (∃ c_, (v388 : Value) = .slice (some adz_v388) y387.length c_) := ⟨h1_⟩
                have n2_ : Aside0 (w14.heap[gb385]? = some (.cells #[.slice A1_0 l1_0.length c1_0, .int .i64 a1_1, .slice A1_2 l1_2.length c1_2] 26 (0, 0))) := ⟨h2_⟩
                have n3_ : Aside0 (w14.heap[gb386]? = some (.cells #[.int .i64 0, .int .i64 0, .int .i64 0] 81 (0, 0))) := ⟨h3_⟩
                have n4_ : Aside0 (IsS73 w0 w14 g s0_0 s0_1) := ⟨h4_⟩
                have n5_ : Aside0 (KeepBut w w14 g none) := ⟨h5_⟩
                have n6_ : Aside0 (Below w0.heap.size w0 w14) := ⟨h6_⟩
                clear BK385
                clear BK386
                clear HI0
                clear HK
                clear HB
                clear h0_ h1_ h2_ h3_ h4_ h5_ h6_
                have HO389 := n0_
                have HA_HO389 := n1_
                have BK385 := n2_
                have BK386 := n3_
                have HI0 := n4_
                have HK := n5_
                have HB := n6_
                clear n0_ n1_ n2_ n3_ n4_ n5_ n6_
                have hHeld := trivial
                obtain ⟨co15, eo15⟩ := HA_HO389.out
                clear HA_HO389
                subst eo15
                refine norm_ (a' := ?_) ?_ ?_
                rotate_left
                ·simp only [putAll, Act.put, List.setIfInBounds_toArray, List.set_cons_zero, List.set_cons_succ]
                 rfl
                refine two_ (i := 2) (j := 11) (Ni := some 8) (Nj := some 5) #[true, true, true, false, false, true, false, false, false, false, false, false, false] #[true, true, false, false, false, true, false, false, false, false, false, true, false] rfl rfl rfl rfl (two_of HT_.out (by kernel_rfl)) (by decide) (by decide) (fun K hK => ?_) (fun K hK => ?_)
                ·skip
                 refine goes_ Try.func62 (by kernel_rfl) rfl #[.pointer (some ⟨g, 0, none⟩), .int .i64 8] (by rfl) rfl rfl mpq ?_
                 with_reducible refine (spec_l20Rd_pick.calls k g s0_0 s0_1 8 t390 t391 w0 _ ?side1 ?side2 A3.out).mono ?_
                 (case side1 => exact IsS73.q HI0.out)
                 (case side2 => exact hbqs HB.out (IsS73.ge HI0.out))
                 rintro e w16 ⟨rfl, hi, hb, hk⟩
                 refine ⟨_, rfl, ?_⟩
                 have n0_ := Aside0.mk (KeepBut.blk hk (bkq BK385.out) NB385_0.out (by simp))
                 have n1_ := Aside0.mk (KeepBut.blk hk (bkq BK386.out) NB386_0.out (by simp))
                 have n2_ := Aside0.mk (Kd.R_mono (Kd.R_keep (IsS73.apart (show IsS73 w0 _ g s0_0 s0_1 from IsS73.q HI0.out) (roq HO389.out) (by decide)) hk (fun _ h => h.2)) (fun _ h => h.1))
                 have n3_ := Aside0.mk (KeepBut.trans (hkqa HK.out) hk (.inl rfl))
                 have n4_ := Aside0.mk (hb)
                 have n5_ := Aside0.mk (hi)
                 clear BK385 BK386 HO389 HK HB HI0
                 revert n0_ n1_ n2_ n3_ n4_ n5_
                 intro BK385 BK386 HO389 HK HB HI0
                 (try clear hb)
                 (try clear hb2)
                 (try clear hk)
                 (try clear hi)
                 refine hK.out _ _ trivial (fun hHeld => ?_)
                 clear hK K
                 refine normq 8 ?_
                 refine pureq (i := 3) (N := some 9) #[true, true, true, true, false, true, false, false, false, false, false, false, false] rfl rfl HT_.out ?_
                 exact norm_ (by first | (simp only [putAll, Act.put, List.setIfInBounds_toArray, List.set_cons_zero, List.set_cons_succ]; done) | (simp only [putAll, Act.put, List.setIfInBounds_toArray, List.set_cons_zero, List.set_cons_succ]; rfl)) (hJ0_2 (.slice (some adz_v388) y387.length co15, adz_v388) _ ⟨(roq HO389.out), ⟨_, rfl⟩, (bkq BK385.out), (bkq BK386.out), (IsS73.q HI0.out), (hkqa HK.out), (hbqs HB.out (IsS73.ge HI0.out))⟩)
                ·skip
                 refine box_step ?hg (N := 5) ?hd (cs := #[.int .i64 0, .int .i64 0, .int .i64 0]) (t := 81) ?hr ?_; (case hd => rfl); (case hg => rfl); (case hr => first | (go_simp; done) | (go_simp; rfl))
                 intro gb395 hg w16 hbox hb
                 have n0_ := Aside0.mk (Kd.R_below (roq HO389.out) hb)
                 have n1_ := Aside0.mk (IsS73.below (IsS73.q HI0.out) hb)
                 have n2_ := Aside0.mk (blk_below (bkq BK385.out) hb)
                 have n3_ := Aside0.mk (blk_below (bkq BK386.out) hb)
                 have n4_ := Aside0.mk (KeepBut.trans (hkqa HK.out) (KeepBut.of_below hb g none) (.inl rfl))
                 have n5_ := Aside0.mk (below_step (hbqs HB.out (IsS73.ge HI0.out)) hb)
                 have n6_ := Aside0.mk (hbox)
                 have n7_ := Aside0.mk ((by rw [hg]; exact (ksq (hkqa HK.out)) : w.heap.size ≤ gb395))
                 have n8_ := Aside0.mk ((Nat.le_trans HW0.out (by rw [hg]; exact (ksq (hkqa HK.out)) : w.heap.size ≤ gb395) : w0.heap.size ≤ gb395))
                 have n9_ := Aside0.mk ((by rw [hg]; exact Nat.ne_of_lt (blk_lt (bkq BK385.out)) : gb385 ≠ gb395))
                 have n10_ := Aside0.mk ((by rw [hg]; exact Nat.ne_of_gt (blk_lt (bkq BK385.out)) : gb395 ≠ gb385))
                 have n11_ := Aside0.mk ((by rw [hg]; exact Nat.ne_of_lt (blk_lt (bkq BK386.out)) : gb386 ≠ gb395))
                 have n12_ := Aside0.mk ((by rw [hg]; exact Nat.ne_of_gt (blk_lt (bkq BK386.out)) : gb395 ≠ gb386))
                 have n13_ := Aside0.mk ((by rw [hg]; exact Nat.ne_of_lt (IsS73.lt (show IsS73 w0 _ g s0_0 s0_1 from IsS73.q HI0.out)) : g ≠ gb395))
                 have n14_ := Aside0.mk ((by rw [hg]; exact Nat.ne_of_gt (IsS73.lt (show IsS73 w0 _ g s0_0 s0_1 from IsS73.q HI0.out)) : gb395 ≠ g))
                 clear HO389 HI0 BK385 BK386 HK HB
                 revert n0_ n1_ n2_ n3_ n4_ n5_ n6_ n7_ n8_ n9_ n10_ n11_ n12_ n13_ n14_
                 intro HO389 HI0 BK385 BK386 HK HB BK395 GW395 GE395 NB385_395 NB395_385 NB386_395 NB395_386 NB0_395 NB395_0
                 clear hb hbox hg
                 refine hK.out _ _ trivial (fun hHeld => ?_)
                 clear hK K
                 refine normq 5 ?_
                 exact norm_ (by first | (simp only [putAll, Act.put, List.setIfInBounds_toArray, List.set_cons_zero, List.set_cons_succ]; done) | (simp only [putAll, Act.put, List.setIfInBounds_toArray, List.set_cons_zero, List.set_cons_succ]; rfl)) (hJ0_11 (.slice (some adz_v388) y387.length co15, adz_v388, gb395) _ ⟨(roq HO389.out), ⟨_, rfl⟩, (bkq BK385.out), (bkq BK386.out), (bkq BK395.out), GW395.out, GE395.out, NB0_395.out, NB395_0.out, NB385_395.out, NB395_385.out, NB386_395.out, NB395_386.out, (IsS73.q HI0.out), (hkqa HK.out), (hbqs HB.out (IsS73.ge HI0.out))⟩)
              ·skip
               rintro gb395 w13 ⟨h0_, h1_, h2_, h3_, h4_, h5_, h6_, h7_, h8_, h9_, h10_, h11_, h12_, h13_⟩
               have n0_ : Aside0 (w13.heap[gb385]? = some (.cells #[.slice A1_0 l1_0.length c1_0, .int .i64 a1_1, .slice A1_2 l1_2.length c1_2] 26 (0, 0))) := ⟨h0_⟩
               have n1_ : Aside0 (w13.heap[gb386]? = some (.cells #[.int .i64 0, .int .i64 0, .int .i64 0] 81 (0, 0))) := ⟨h1_⟩
               have n2_ : Aside0 (w13.heap[gb395]? = some (.cells #[.int .i64 0, .int .i64 0, .int .i64 0] 81 (0, 0))) := ⟨h2_⟩
               have n3_ : Aside0 (w.heap.size ≤ gb395) := ⟨h3_⟩
               have n4_ : Aside0 (w0.heap.size ≤ gb395) := ⟨h4_⟩
               have n5_ : Aside0 (g ≠ gb395) := ⟨h5_⟩
               have n6_ : Aside0 (gb395 ≠ g) := ⟨h6_⟩
               have n7_ : Aside0 (gb385 ≠ gb395) := ⟨h7_⟩
               have n8_ : Aside0 (gb395 ≠ gb385) := ⟨h8_⟩
               have n9_ : Aside0 (gb386 ≠ gb395) := ⟨h9_⟩
               have n10_ : Aside0 (gb395 ≠ gb386) := ⟨h10_⟩
               have n11_ : Aside0 (IsS73 w0 w13 g s0_0 t391) := ⟨h11_⟩
               have n12_ : Aside0 (KeepBut w w13 g none) := ⟨h12_⟩
               have n13_ : Aside0 (Below w0.heap.size w0 w13) := ⟨h13_⟩
               clear BK385
               clear BK386
               clear HI0
               clear HK
               clear HB
               clear h0_ h1_ h2_ h3_ h4_ h5_ h6_ h7_ h8_ h9_ h10_ h11_ h12_ h13_
               have BK385 := n0_
               have BK386 := n1_
               have BK395 := n2_
               have GW395 := n3_
               have GE395 := n4_
               have NB0_395 := n5_
               have NB395_0 := n6_
               have NB385_395 := n7_
               have NB395_385 := n8_
               have NB386_395 := n9_
               have NB395_386 := n10_
               have HI0 := n11_
               have HK := n12_
               have HB := n13_
               clear n0_ n1_ n2_ n3_ n4_ n5_ n6_ n7_ n8_ n9_ n10_ n11_ n12_ n13_
               have hHeld := trivial
               refine norm_ (a' := ?_) ?_ ?_
               rotate_left
               ·simp only [putAll, Act.put, List.setIfInBounds_toArray, List.set_cons_zero, List.set_cons_succ]
                rfl
               refine two_ (i := 0) (j := 6) (Ni := some 6) (Nj := some 12) #[true, true, true, false, false, true, false, false, false, false, false, true, false] #[false, true, true, false, false, true, true, false, false, false, false, true, false] rfl rfl rfl rfl (two_of HT_.out (by kernel_rfl)) (by decide) (by decide) (fun K hK => ?_) (fun K hK => ?_)
               ·skip
                refine Kd.R_lit_step (Kd.int .i64) _ 3 ?hg (N := 6) ?hd (xs := ([0, 0, 1, 1, 2, 2, 3, 4] : List Int)) (inner := [.int .i64 0, .int .i64 0, .int .i64 1, .int .i64 1, .int .i64 2, .int .i64 2, .int .i64 3, .int .i64 4]) (ok := fun _ => True) (okp := fun _ => True) ?hr ?hp (fun _ hk => hk) trivial (Below.refl _ _) (Nat.le_refl _) (by simp) ?_; (case hd => rfl); (case hg => rfl); (case hr => first | (go_simp; done) | (go_simp; rfl)); (case hp => exact (Reps.one (show Kd.M (Kd.int .i64) _ _ _ 0 [.int .i64 0] from rfl) (Reps.one (show Kd.M (Kd.int .i64) _ _ _ 0 [.int .i64 0] from rfl) (Reps.one (show Kd.M (Kd.int .i64) _ _ _ 1 [.int .i64 1] from rfl) (Reps.one (show Kd.M (Kd.int .i64) _ _ _ 1 [.int .i64 1] from rfl) (Reps.one (show Kd.M (Kd.int .i64) _ _ _ 2 [.int .i64 2] from rfl) (Reps.one (show Kd.M (Kd.int .i64) _ _ _ 2 [.int .i64 2] from rfl) (Reps.one (show Kd.M (Kd.int .i64) _ _ _ 3 [.int .i64 3] from rfl) (Reps.one (show Kd.M (Kd.int .i64) _ _ _ 4 [.int .i64 4] from rfl) (Reps.none _ _))))))))))
                intro v388 w14 ho15 hb hg_ hnew_
                clear hg_ hnew_
                (first | rw [← Ny387.out] at ho15 | (simp only [Int.reduceToNat] at ho15; rw [← Ny387.out] at ho15))
                have n0_ := Aside0.mk (Kd.R_lower ho15 (ksq (hkqa HK.out)))
                have n1_ := Aside0.mk (IsS73.below (IsS73.q HI0.out) hb)
                have n2_ := Aside0.mk (blk_below (bkq BK385.out) hb)
                have n3_ := Aside0.mk (blk_below (bkq BK386.out) hb)
                have n4_ := Aside0.mk (blk_below (bkq BK395.out) hb)
                have n5_ := Aside0.mk (KeepBut.trans (hkqa HK.out) (KeepBut.of_below hb g none) (.inl rfl))
                have n6_ := Aside0.mk (below_step (hbqs HB.out (IsS73.ge HI0.out)) hb)
                clear HI0 BK385 BK386 BK395 HK HB
                revert n0_ n1_ n2_ n3_ n4_ n5_ n6_
                intro HO389 HI0 BK385 BK386 BK395 HK HB
                clear hb ho15
                obtain ⟨Ao16, co16, eo16⟩ := Kd.R_slice HO389.out
                subst eo16
                obtain ⟨ado16, fo16, _⟩ := Kd.at_int (Kd.R_reads' HO389.out).2.2 0 (by decide) (by rw [Ny387.out]; simp)
                cases fo16
                refine hK.out _ _ trivial (fun hHeld => ?_)
                clear hK K
                refine normq 6 ?_
                refine pureq (i := 3) (N := some 9) #[true, true, true, true, false, true, false, false, false, false, false, true, false] rfl rfl HT_.out ?_
                exact norm_ (by first | (simp only [putAll, Act.put, List.setIfInBounds_toArray, List.set_cons_zero, List.set_cons_succ]; done) | (simp only [putAll, Act.put, List.setIfInBounds_toArray, List.set_cons_zero, List.set_cons_succ]; rfl)) (hJ0_2_11 (.slice (some ado16) y387.length co16, ado16, gb395) _ ⟨(roq HO389.out), ⟨_, rfl⟩, (bkq BK385.out), (bkq BK386.out), (bkq BK395.out), GW395.out, GE395.out, NB0_395.out, NB395_0.out, NB385_395.out, NB395_385.out, NB386_395.out, NB395_386.out, (IsS73.q HI0.out), (hkqa HK.out), (hbqs HB.out (IsS73.ge HI0.out))⟩)
               ·skip
                refine goes_ Try.func62 (by kernel_rfl) rfl #[.pointer (some ⟨g, 0, none⟩), .int .i64 60] (by rfl) rfl rfl mpq ?_
                with_reducible refine (spec_l20Rd_pick.calls k g s0_0 t391 60 t393 t394 w0 _ ?side1 ?side2 A6.out).mono ?_
                (case side1 => exact IsS73.q HI0.out)
                (case side2 => exact hbqs HB.out (IsS73.ge HI0.out))
                rintro e w14 ⟨rfl, hi, hb, hk⟩
                refine ⟨_, rfl, ?_⟩
                have n0_ := Aside0.mk (KeepBut.blk hk (bkq BK385.out) NB385_0.out (by simp))
                have n1_ := Aside0.mk (KeepBut.blk hk (bkq BK386.out) NB386_0.out (by simp))
                have n2_ := Aside0.mk (KeepBut.blk hk (bkq BK395.out) NB395_0.out (by simp))
                have n3_ := Aside0.mk (KeepBut.trans (hkqa HK.out) hk (.inl rfl))
                have n4_ := Aside0.mk (hb)
                have n5_ := Aside0.mk (hi)
                clear BK385 BK386 BK395 HK HB HI0
                revert n0_ n1_ n2_ n3_ n4_ n5_
                intro BK385 BK386 BK395 HK HB HI0
                (try clear hb)
                (try clear hb2)
                (try clear hk)
                (try clear hi)
                refine hK.out _ _ trivial (fun hHeld => ?_)
                clear hK K
                refine normq 12 ?_
                refine pureq (i := 7) (N := some 13) #[false, true, true, false, false, true, true, true, false, false, false, true, false] rfl rfl HT_.out ?_
                refine pureq (i := 8) (N := some 14) #[false, true, true, false, false, true, true, true, true, false, false, true, false] rfl rfl HT_.out ?_
                exact norm_ (by first | (simp only [putAll, Act.put, List.setIfInBounds_toArray, List.set_cons_zero, List.set_cons_succ]; done) | (simp only [putAll, Act.put, List.setIfInBounds_toArray, List.set_cons_zero, List.set_cons_succ]; rfl)) (hJ2_6_11 (gb395) _ ⟨(bkq BK385.out), (bkq BK386.out), (bkq BK395.out), GW395.out, GE395.out, NB0_395.out, NB395_0.out, NB385_395.out, NB395_385.out, NB386_395.out, NB395_386.out, (IsS73.q HI0.out), (hkqa HK.out), (hbqs HB.out (IsS73.ge HI0.out))⟩)
             ·skip
              rintro _ w13 ⟨h0_, h1_, h2_, h3_, h4_⟩
              have n0_ : Aside0 (w13.heap[gb385]? = some (.cells #[.slice A1_0 l1_0.length c1_0, .int .i64 a1_1, .slice A1_2 l1_2.length c1_2] 26 (0, 0))) := ⟨h0_⟩
              have n1_ : Aside0 (w13.heap[gb386]? = some (.cells #[.int .i64 0, .int .i64 0, .int .i64 0] 81 (0, 0))) := ⟨h1_⟩
              have n2_ : Aside0 (IsS73 w0 w13 g s0_0 t394) := ⟨h2_⟩
              have n3_ : Aside0 (KeepBut w w13 g none) := ⟨h3_⟩
              have n4_ : Aside0 (Below w0.heap.size w0 w13) := ⟨h4_⟩
              clear BK385
              clear BK386
              clear HI0
              clear HK
              clear HB
              clear h0_ h1_ h2_ h3_ h4_
              have BK385 := n0_
              have BK386 := n1_
              have HI0 := n2_
              have HK := n3_
              have HB := n4_
              clear n0_ n1_ n2_ n3_ n4_
              have hHeld := trivial
              refine norm_ (a' := ?_) ?_ ?_
              rotate_left
              ·simp only [putAll, Act.put, List.setIfInBounds_toArray, List.set_cons_zero, List.set_cons_succ]
               rfl
              refine two_ (i := 0) (j := 11) (Ni := some 6) (Nj := some 5) #[true, true, true, false, false, true, true, true, true, false, false, false, false] #[false, true, true, false, false, true, true, true, true, false, false, true, false] rfl rfl rfl rfl (two_of HT_.out (by kernel_rfl)) (by decide) (by decide) (fun K hK => ?_) (fun K hK => ?_)
              ·skip
               refine Kd.R_lit_step (Kd.int .i64) _ 3 ?hg (N := 6) ?hd (xs := ([0, 0, 1, 1, 2, 2, 3, 4] : List Int)) (inner := [.int .i64 0, .int .i64 0, .int .i64 1, .int .i64 1, .int .i64 2, .int .i64 2, .int .i64 3, .int .i64 4]) (ok := fun _ => True) (okp := fun _ => True) ?hr ?hp (fun _ hk => hk) trivial (Below.refl _ _) (Nat.le_refl _) (by simp) ?_; (case hd => rfl); (case hg => rfl); (case hr => first | (go_simp; done) | (go_simp; rfl)); (case hp => exact (Reps.one (show Kd.M (Kd.int .i64) _ _ _ 0 [.int .i64 0] from rfl) (Reps.one (show Kd.M (Kd.int .i64) _ _ _ 0 [.int .i64 0] from rfl) (Reps.one (show Kd.M (Kd.int .i64) _ _ _ 1 [.int .i64 1] from rfl) (Reps.one (show Kd.M (Kd.int .i64) _ _ _ 1 [.int .i64 1] from rfl) (Reps.one (show Kd.M (Kd.int .i64) _ _ _ 2 [.int .i64 2] from rfl) (Reps.one (show Kd.M (Kd.int .i64) _ _ _ 2 [.int .i64 2] from rfl) (Reps.one (show Kd.M (Kd.int .i64) _ _ _ 3 [.int .i64 3] from rfl) (Reps.one (show Kd.M (Kd.int .i64) _ _ _ 4 [.int .i64 4] from rfl) (Reps.none _ _))))))))))
               intro v388 w14 ho15 hb hg_ hnew_
               clear hg_ hnew_
               (first | rw [← Ny387.out] at ho15 | (simp only [Int.reduceToNat] at ho15; rw [← Ny387.out] at ho15))
               have n0_ := Aside0.mk (Kd.R_lower ho15 (ksq (hkqa HK.out)))
               have n1_ := Aside0.mk (IsS73.below (IsS73.q HI0.out) hb)
               have n2_ := Aside0.mk (blk_below (bkq BK385.out) hb)
               have n3_ := Aside0.mk (blk_below (bkq BK386.out) hb)
               have n4_ := Aside0.mk (KeepBut.trans (hkqa HK.out) (KeepBut.of_below hb g none) (.inl rfl))
               have n5_ := Aside0.mk (below_step (hbqs HB.out (IsS73.ge HI0.out)) hb)
               clear HI0 BK385 BK386 HK HB
               revert n0_ n1_ n2_ n3_ n4_ n5_
               intro HO389 HI0 BK385 BK386 HK HB
               clear hb ho15
               obtain ⟨Ao16, co16, eo16⟩ := Kd.R_slice HO389.out
               subst eo16
               obtain ⟨ado16, fo16, _⟩ := Kd.at_int (Kd.R_reads' HO389.out).2.2 0 (by decide) (by rw [Ny387.out]; simp)
               cases fo16
               refine hK.out _ _ trivial (fun hHeld => ?_)
               clear hK K
               refine normq 6 ?_
               refine pureq (i := 3) (N := some 9) #[true, true, true, true, false, true, true, true, true, false, false, false, false] rfl rfl HT_.out ?_
               exact norm_ (by first | (simp only [putAll, Act.put, List.setIfInBounds_toArray, List.set_cons_zero, List.set_cons_succ]; done) | (simp only [putAll, Act.put, List.setIfInBounds_toArray, List.set_cons_zero, List.set_cons_succ]; rfl)) (hJ0_2_6 (.slice (some ado16) y387.length co16, ado16) _ ⟨(roq HO389.out), ⟨_, rfl⟩, (bkq BK385.out), (bkq BK386.out), (IsS73.q HI0.out), (hkqa HK.out), (hbqs HB.out (IsS73.ge HI0.out))⟩)
              ·skip
               refine box_step ?hg (N := 5) ?hd (cs := #[.int .i64 0, .int .i64 0, .int .i64 0]) (t := 81) ?hr ?_; (case hd => rfl); (case hg => rfl); (case hr => first | (go_simp; done) | (go_simp; rfl))
               intro gb395 hg w14 hbox hb
               have n0_ := Aside0.mk (IsS73.below (IsS73.q HI0.out) hb)
               have n1_ := Aside0.mk (blk_below (bkq BK385.out) hb)
               have n2_ := Aside0.mk (blk_below (bkq BK386.out) hb)
               have n3_ := Aside0.mk (KeepBut.trans (hkqa HK.out) (KeepBut.of_below hb g none) (.inl rfl))
               have n4_ := Aside0.mk (below_step (hbqs HB.out (IsS73.ge HI0.out)) hb)
               have n5_ := Aside0.mk (hbox)
               have n6_ := Aside0.mk ((by rw [hg]; exact (ksq (hkqa HK.out)) : w.heap.size ≤ gb395))
               have n7_ := Aside0.mk ((Nat.le_trans HW0.out (by rw [hg]; exact (ksq (hkqa HK.out)) : w.heap.size ≤ gb395) : w0.heap.size ≤ gb395))
               have n8_ := Aside0.mk ((by rw [hg]; exact Nat.ne_of_lt (blk_lt (bkq BK385.out)) : gb385 ≠ gb395))
               have n9_ := Aside0.mk ((by rw [hg]; exact Nat.ne_of_gt (blk_lt (bkq BK385.out)) : gb395 ≠ gb385))
               have n10_ := Aside0.mk ((by rw [hg]; exact Nat.ne_of_lt (blk_lt (bkq BK386.out)) : gb386 ≠ gb395))
               have n11_ := Aside0.mk ((by rw [hg]; exact Nat.ne_of_gt (blk_lt (bkq BK386.out)) : gb395 ≠ gb386))
               have n12_ := Aside0.mk ((by rw [hg]; exact Nat.ne_of_lt (IsS73.lt (show IsS73 w0 _ g s0_0 t394 from IsS73.q HI0.out)) : g ≠ gb395))
               have n13_ := Aside0.mk ((by rw [hg]; exact Nat.ne_of_gt (IsS73.lt (show IsS73 w0 _ g s0_0 t394 from IsS73.q HI0.out)) : gb395 ≠ g))
               clear HI0 BK385 BK386 HK HB
               revert n0_ n1_ n2_ n3_ n4_ n5_ n6_ n7_ n8_ n9_ n10_ n11_ n12_ n13_
               intro HI0 BK385 BK386 HK HB BK395 GW395 GE395 NB385_395 NB395_385 NB386_395 NB395_386 NB0_395 NB395_0
               clear hb hbox hg
               refine hK.out _ _ trivial (fun hHeld => ?_)
               clear hK K
               refine normq 5 ?_
               exact norm_ (by first | (simp only [putAll, Act.put, List.setIfInBounds_toArray, List.set_cons_zero, List.set_cons_succ]; done) | (simp only [putAll, Act.put, List.setIfInBounds_toArray, List.set_cons_zero, List.set_cons_succ]; rfl)) (hJ2_6_11 (gb395) _ ⟨(bkq BK385.out), (bkq BK386.out), (bkq BK395.out), GW395.out, GE395.out, NB0_395.out, NB395_0.out, NB385_395.out, NB395_385.out, NB386_395.out, NB395_386.out, (IsS73.q HI0.out), (hkqa HK.out), (hbqs HB.out (IsS73.ge HI0.out))⟩)
            ·skip
             rintro ⟨v388, adz_v388, gb395⟩ w15 ⟨h0_, h1_, h2_, h3_, h4_, h5_, h6_, h7_, h8_, h9_, h10_, h11_, h12_, h13_, h14_, h15_⟩
             have n0_ : Aside0 (Kd.R (Kd.int .i64) 3 w15 w.heap.size (fun _ => True) v388 y387) := ⟨h0_⟩
             have n1_ : Aside0 (∃ c_, (v388 : Value) = .slice (some adz_v388) y387.length c_) := ⟨h1_⟩
             have n2_ : Aside0 (w15.heap[gb385]? = some (.cells #[.slice A1_0 l1_0.length c1_0, .int .i64 a1_1, .slice A1_2 l1_2.length c1_2] 26 (0, 0))) := ⟨h2_⟩
             have n3_ : Aside0 (w15.heap[gb386]? = some (.cells #[.int .i64 0, .int .i64 0, .int .i64 0] 81 (0, 0))) := ⟨h3_⟩
             have n4_ : Aside0 (w15.heap[gb395]? = some (.cells #[.int .i64 0, .int .i64 0, .int .i64 0] 81 (0, 0))) := ⟨h4_⟩
             have n5_ : Aside0 (w.heap.size ≤ gb395) := ⟨h5_⟩
             have n6_ : Aside0 (w0.heap.size ≤ gb395) := ⟨h6_⟩
             have n7_ : Aside0 (g ≠ gb395) := ⟨h7_⟩
             have n8_ : Aside0 (gb395 ≠ g) := ⟨h8_⟩
             have n9_ : Aside0 (gb385 ≠ gb395) := ⟨h9_⟩
             have n10_ : Aside0 (gb395 ≠ gb385) := ⟨h10_⟩
             have n11_ : Aside0 (gb386 ≠ gb395) := ⟨h11_⟩
             have n12_ : Aside0 (gb395 ≠ gb386) := ⟨h12_⟩
             have n13_ : Aside0 (IsS73 w0 w15 g s0_0 s0_1) := ⟨h13_⟩
             have n14_ : Aside0 (KeepBut w w15 g none) := ⟨h14_⟩
             have n15_ : Aside0 (Below w0.heap.size w0 w15) := ⟨h15_⟩
             clear BK385
             clear BK386
             clear HI0
             clear HK
             clear HB
             clear h0_ h1_ h2_ h3_ h4_ h5_ h6_ h7_ h8_ h9_ h10_ h11_ h12_ h13_ h14_ h15_
             have HO389 := n0_
             have HA_HO389 := n1_
             have BK385 := n2_
             have BK386 := n3_
             have BK395 := n4_
             have GW395 := n5_
             have GE395 := n6_
             have NB0_395 := n7_
             have NB395_0 := n8_
             have NB385_395 := n9_
             have NB395_385 := n10_
             have NB386_395 := n11_
             have NB395_386 := n12_
             have HI0 := n13_
             have HK := n14_
             have HB := n15_
             clear n0_ n1_ n2_ n3_ n4_ n5_ n6_ n7_ n8_ n9_ n10_ n11_ n12_ n13_ n14_ n15_
             have hHeld := trivial
             obtain ⟨co16, eo16⟩ := HA_HO389.out
             clear HA_HO389
             subst eo16
             refine norm_ (a' := ?_) ?_ ?_
             rotate_left
             ·simp only [putAll, Act.put, List.setIfInBounds_toArray, List.set_cons_zero, List.set_cons_succ]
              rfl
             refine one_ (i := 2) (N := some 8) #[true, true, true, false, false, true, false, false, false, false, false, true, false] rfl rfl (one_of HT_.out (by kernel_rfl)) (by decide) (fun K hK => ?_)
             refine goes_ Try.func62 (by kernel_rfl) rfl #[.pointer (some ⟨g, 0, none⟩), .int .i64 8] (by rfl) rfl rfl mpq ?_
             with_reducible refine (spec_l20Rd_pick.calls k g s0_0 s0_1 8 t390 t391 w0 _ ?side1 ?side2 A3.out).mono ?_
             (case side1 => exact IsS73.q HI0.out)
             (case side2 => exact hbqs HB.out (IsS73.ge HI0.out))
             rintro e w17 ⟨rfl, hi, hb, hk⟩
             refine ⟨_, rfl, ?_⟩
             have n0_ := Aside0.mk (KeepBut.blk hk (bkq BK385.out) NB385_0.out (by simp))
             have n1_ := Aside0.mk (KeepBut.blk hk (bkq BK386.out) NB386_0.out (by simp))
             have n2_ := Aside0.mk (Kd.R_mono (Kd.R_keep (IsS73.apart (show IsS73 w0 _ g s0_0 s0_1 from IsS73.q HI0.out) (roq HO389.out) (by decide)) hk (fun _ h => h.2)) (fun _ h => h.1))
             have n3_ := Aside0.mk (KeepBut.blk hk (bkq BK395.out) NB395_0.out (by simp))
             have n4_ := Aside0.mk (KeepBut.trans (hkqa HK.out) hk (.inl rfl))
             have n5_ := Aside0.mk (hb)
             have n6_ := Aside0.mk (hi)
             clear BK385 BK386 HO389 BK395 HK HB HI0
             revert n0_ n1_ n2_ n3_ n4_ n5_ n6_
             intro BK385 BK386 HO389 BK395 HK HB HI0
             (try clear hb)
             (try clear hb2)
             (try clear hk)
             (try clear hi)
             refine hK.out _ _ trivial (fun hHeld => ?_)
             clear hK K
             refine normq 8 ?_
             refine pureq (i := 3) (N := some 9) #[true, true, true, true, false, true, false, false, false, false, false, true, false] rfl rfl HT_.out ?_
             exact norm_ (by first | (simp only [putAll, Act.put, List.setIfInBounds_toArray, List.set_cons_zero, List.set_cons_succ]; done) | (simp only [putAll, Act.put, List.setIfInBounds_toArray, List.set_cons_zero, List.set_cons_succ]; rfl)) (hJ0_2_11 (.slice (some adz_v388) y387.length co16, adz_v388, gb395) _ ⟨(roq HO389.out), ⟨_, rfl⟩, (bkq BK385.out), (bkq BK386.out), (bkq BK395.out), GW395.out, GE395.out, NB0_395.out, NB395_0.out, NB385_395.out, NB395_385.out, NB386_395.out, NB395_386.out, (IsS73.q HI0.out), (hkqa HK.out), (hbqs HB.out (IsS73.ge HI0.out))⟩)
           ·skip
            rintro ⟨v388, adz_v388⟩ w15 ⟨h0_, h1_, h2_, h3_, h4_, h5_, h6_⟩
            have n0_ : Aside0 (Kd.R (Kd.int .i64) 3 w15 w.heap.size (fun _ => True) v388 y387) := ⟨h0_⟩
            have n1_ : Aside0 (∃ c_, (v388 : Value) = .slice (some adz_v388) y387.length c_) := ⟨h1_⟩
            have n2_ : Aside0 (w15.heap[gb385]? = some (.cells #[.slice A1_0 l1_0.length c1_0, .int .i64 a1_1, .slice A1_2 l1_2.length c1_2] 26 (0, 0))) := ⟨h2_⟩
            have n3_ : Aside0 (w15.heap[gb386]? = some (.cells #[.int .i64 0, .int .i64 0, .int .i64 0] 81 (0, 0))) := ⟨h3_⟩
            have n4_ : Aside0 (IsS73 w0 w15 g s0_0 t391) := ⟨h4_⟩
            have n5_ : Aside0 (KeepBut w w15 g none) := ⟨h5_⟩
            have n6_ : Aside0 (Below w0.heap.size w0 w15) := ⟨h6_⟩
            clear BK385
            clear BK386
            clear HI0
            clear HK
            clear HB
            clear h0_ h1_ h2_ h3_ h4_ h5_ h6_
            have HO389 := n0_
            have HA_HO389 := n1_
            have BK385 := n2_
            have BK386 := n3_
            have HI0 := n4_
            have HK := n5_
            have HB := n6_
            clear n0_ n1_ n2_ n3_ n4_ n5_ n6_
            have hHeld := trivial
            obtain ⟨co16, eo16⟩ := HA_HO389.out
            clear HA_HO389
            subst eo16
            refine norm_ (a' := ?_) ?_ ?_
            rotate_left
            ·simp only [putAll, Act.put, List.setIfInBounds_toArray, List.set_cons_zero, List.set_cons_succ]
             rfl
            refine three_ (i := 4) (j := 6) (k := 11) (Ni := some 10) (Nj := some 12) (Nk := some 5) #[true, true, true, true, true, true, false, false, false, false, false, false, false] #[true, true, true, true, false, true, true, false, false, false, false, false, false] #[true, true, true, true, false, true, false, false, false, false, false, true, false] rfl rfl rfl rfl rfl rfl (three_of HT_.out (by kernel_rfl)) (by decide) (by decide) (by decide) (fun K hK => ?_) (fun K hK => ?_) (fun K hK => ?_)
            ·skip
             (have p392 : 0 ≤ (t390 : Int) := od; have q392 : t390 < (y387.length : Int) := od; obtain ⟨ad392, e392, hx392_0⟩ := Kd.at_int (Kd.R_reads' HO389.out).2.2 t390 p392 q392; obtain rfl : adz_v388 = ad392 := (by injection e392))
             refine value_ (w1 := ?_) (v := ?_) (by rfl) rfl ?_ ?_
             rotate_left 2
             ·go_simp
              constructor
              ·rfl
              ·rfl
             clear hx392_0
             refine hK.out _ _ trivial (fun hHeld => ?_)
             clear hK K
             refine normq 10 ?_
             exact norm_ (by first | (simp only [putAll, Act.put, List.setIfInBounds_toArray, List.set_cons_zero, List.set_cons_succ]; done) | (simp only [putAll, Act.put, List.setIfInBounds_toArray, List.set_cons_zero, List.set_cons_succ]; rfl)) (hJ0_2_4 (.slice (some adz_v388) y387.length co16, adz_v388) _ ⟨(roq HO389.out), ⟨_, rfl⟩, (bkq BK385.out), (bkq BK386.out), (IsS73.q HI0.out), (hkqa HK.out), (hbqs HB.out (IsS73.ge HI0.out))⟩)
            ·skip
             refine goes_ Try.func62 (by kernel_rfl) rfl #[.pointer (some ⟨g, 0, none⟩), .int .i64 60] (by rfl) rfl rfl mpq ?_
             with_reducible refine (spec_l20Rd_pick.calls k g s0_0 t391 60 t393 t394 w0 _ ?side1 ?side2 A6.out).mono ?_
             (case side1 => exact IsS73.q HI0.out)
             (case side2 => exact hbqs HB.out (IsS73.ge HI0.out))
             rintro e w17 ⟨rfl, hi, hb, hk⟩
             refine ⟨_, rfl, ?_⟩
             have n0_ := Aside0.mk (KeepBut.blk hk (bkq BK385.out) NB385_0.out (by simp))
             have n1_ := Aside0.mk (KeepBut.blk hk (bkq BK386.out) NB386_0.out (by simp))
             have n2_ := Aside0.mk (Kd.R_mono (Kd.R_keep (IsS73.apart (show IsS73 w0 _ g s0_0 t391 from IsS73.q HI0.out) (roq HO389.out) (by decide)) hk (fun _ h => h.2)) (fun _ h => h.1))
             have n3_ := Aside0.mk (KeepBut.trans (hkqa HK.out) hk (.inl rfl))
             have n4_ := Aside0.mk (hb)
             have n5_ := Aside0.mk (hi)
             clear BK385 BK386 HO389 HK HB HI0
             revert n0_ n1_ n2_ n3_ n4_ n5_
             intro BK385 BK386 HO389 HK HB HI0
             (try clear hb)
             (try clear hb2)
             (try clear hk)
             (try clear hi)
             refine hK.out _ _ trivial (fun hHeld => ?_)
             clear hK K
             refine normq 12 ?_
             refine pureq (i := 7) (N := some 13) #[true, true, true, true, false, true, true, true, false, false, false, false, false] rfl rfl HT_.out ?_
             refine pureq (i := 8) (N := some 14) #[true, true, true, true, false, true, true, true, true, false, false, false, false] rfl rfl HT_.out ?_
             exact norm_ (by first | (simp only [putAll, Act.put, List.setIfInBounds_toArray, List.set_cons_zero, List.set_cons_succ]; done) | (simp only [putAll, Act.put, List.setIfInBounds_toArray, List.set_cons_zero, List.set_cons_succ]; rfl)) (hJ0_2_6 (.slice (some adz_v388) y387.length co16, adz_v388) _ ⟨(roq HO389.out), ⟨_, rfl⟩, (bkq BK385.out), (bkq BK386.out), (IsS73.q HI0.out), (hkqa HK.out), (hbqs HB.out (IsS73.ge HI0.out))⟩)
            ·skip
             refine box_step ?hg (N := 5) ?hd (cs := #[.int .i64 0, .int .i64 0, .int .i64 0]) (t := 81) ?hr ?_; (case hd => rfl); (case hg => rfl); (case hr => first | (go_simp; done) | (go_simp; rfl))
             intro gb395 hg w17 hbox hb
             have n0_ := Aside0.mk (Kd.R_below (roq HO389.out) hb)
             have n1_ := Aside0.mk (IsS73.below (IsS73.q HI0.out) hb)
             have n2_ := Aside0.mk (blk_below (bkq BK385.out) hb)
             have n3_ := Aside0.mk (blk_below (bkq BK386.out) hb)
             have n4_ := Aside0.mk (KeepBut.trans (hkqa HK.out) (KeepBut.of_below hb g none) (.inl rfl))
             have n5_ := Aside0.mk (below_step (hbqs HB.out (IsS73.ge HI0.out)) hb)
             have n6_ := Aside0.mk (hbox)
             have n7_ := Aside0.mk ((by rw [hg]; exact (ksq (hkqa HK.out)) : w.heap.size ≤ gb395))
             have n8_ := Aside0.mk ((Nat.le_trans HW0.out (by rw [hg]; exact (ksq (hkqa HK.out)) : w.heap.size ≤ gb395) : w0.heap.size ≤ gb395))
             have n9_ := Aside0.mk ((by rw [hg]; exact Nat.ne_of_lt (blk_lt (bkq BK385.out)) : gb385 ≠ gb395))
             have n10_ := Aside0.mk ((by rw [hg]; exact Nat.ne_of_gt (blk_lt (bkq BK385.out)) : gb395 ≠ gb385))
             have n11_ := Aside0.mk ((by rw [hg]; exact Nat.ne_of_lt (blk_lt (bkq BK386.out)) : gb386 ≠ gb395))
             have n12_ := Aside0.mk ((by rw [hg]; exact Nat.ne_of_gt (blk_lt (bkq BK386.out)) : gb395 ≠ gb386))
             have n13_ := Aside0.mk ((by rw [hg]; exact Nat.ne_of_lt (IsS73.lt (show IsS73 w0 _ g s0_0 t391 from IsS73.q HI0.out)) : g ≠ gb395))
             have n14_ := Aside0.mk ((by rw [hg]; exact Nat.ne_of_gt (IsS73.lt (show IsS73 w0 _ g s0_0 t391 from IsS73.q HI0.out)) : gb395 ≠ g))
             clear HO389 HI0 BK385 BK386 HK HB
             revert n0_ n1_ n2_ n3_ n4_ n5_ n6_ n7_ n8_ n9_ n10_ n11_ n12_ n13_ n14_
             intro HO389 HI0 BK385 BK386 HK HB BK395 GW395 GE395 NB385_395 NB395_385 NB386_395 NB395_386 NB0_395 NB395_0
             clear hb hbox hg
             refine hK.out _ _ trivial (fun hHeld => ?_)
             clear hK K
             refine normq 5 ?_
             exact norm_ (by first | (simp only [putAll, Act.put, List.setIfInBounds_toArray, List.set_cons_zero, List.set_cons_succ]; done) | (simp only [putAll, Act.put, List.setIfInBounds_toArray, List.set_cons_zero, List.set_cons_succ]; rfl)) (hJ0_2_11 (.slice (some adz_v388) y387.length co16, adz_v388, gb395) _ ⟨(roq HO389.out), ⟨_, rfl⟩, (bkq BK385.out), (bkq BK386.out), (bkq BK395.out), GW395.out, GE395.out, NB0_395.out, NB395_0.out, NB385_395.out, NB395_385.out, NB386_395.out, NB395_386.out, (IsS73.q HI0.out), (hkqa HK.out), (hbqs HB.out (IsS73.ge HI0.out))⟩)
          ·skip
           rintro gb395 w14 ⟨h0_, h1_, h2_, h3_, h4_, h5_, h6_, h7_, h8_, h9_, h10_, h11_, h12_, h13_⟩
           have n0_ : Aside0 (w14.heap[gb385]? = some (.cells #[.slice A1_0 l1_0.length c1_0, .int .i64 a1_1, .slice A1_2 l1_2.length c1_2] 26 (0, 0))) := ⟨h0_⟩
           have n1_ : Aside0 (w14.heap[gb386]? = some (.cells #[.int .i64 0, .int .i64 0, .int .i64 0] 81 (0, 0))) := ⟨h1_⟩
           have n2_ : Aside0 (w14.heap[gb395]? = some (.cells #[.int .i64 0, .int .i64 0, .int .i64 0] 81 (0, 0))) := ⟨h2_⟩
           have n3_ : Aside0 (w.heap.size ≤ gb395) := ⟨h3_⟩
           have n4_ : Aside0 (w0.heap.size ≤ gb395) := ⟨h4_⟩
           have n5_ : Aside0 (g ≠ gb395) := ⟨h5_⟩
           have n6_ : Aside0 (gb395 ≠ g) := ⟨h6_⟩
           have n7_ : Aside0 (gb385 ≠ gb395) := ⟨h7_⟩
           have n8_ : Aside0 (gb395 ≠ gb385) := ⟨h8_⟩
           have n9_ : Aside0 (gb386 ≠ gb395) := ⟨h9_⟩
           have n10_ : Aside0 (gb395 ≠ gb386) := ⟨h10_⟩
           have n11_ : Aside0 (IsS73 w0 w14 g s0_0 t394) := ⟨h11_⟩
           have n12_ : Aside0 (KeepBut w w14 g none) := ⟨h12_⟩
           have n13_ : Aside0 (Below w0.heap.size w0 w14) := ⟨h13_⟩
           clear BK385
           clear BK386
           clear HI0
           clear HK
           clear HB
           clear h0_ h1_ h2_ h3_ h4_ h5_ h6_ h7_ h8_ h9_ h10_ h11_ h12_ h13_
           have BK385 := n0_
           have BK386 := n1_
           have BK395 := n2_
           have GW395 := n3_
           have GE395 := n4_
           have NB0_395 := n5_
           have NB395_0 := n6_
           have NB385_395 := n7_
           have NB395_385 := n8_
           have NB386_395 := n9_
           have NB395_386 := n10_
           have HI0 := n11_
           have HK := n12_
           have HB := n13_
           clear n0_ n1_ n2_ n3_ n4_ n5_ n6_ n7_ n8_ n9_ n10_ n11_ n12_ n13_
           have hHeld := trivial
           refine norm_ (a' := ?_) ?_ ?_
           rotate_left
           ·simp only [putAll, Act.put, List.setIfInBounds_toArray, List.set_cons_zero, List.set_cons_succ]
            rfl
           refine one_ (i := 0) (N := some 6) #[true, true, true, false, false, true, true, true, true, false, false, true, false] rfl rfl (one_of HT_.out (by kernel_rfl)) (by decide) (fun K hK => ?_)
           refine Kd.R_lit_step (Kd.int .i64) _ 3 ?hg (N := 6) ?hd (xs := ([0, 0, 1, 1, 2, 2, 3, 4] : List Int)) (inner := [.int .i64 0, .int .i64 0, .int .i64 1, .int .i64 1, .int .i64 2, .int .i64 2, .int .i64 3, .int .i64 4]) (ok := fun _ => True) (okp := fun _ => True) ?hr ?hp (fun _ hk => hk) trivial (Below.refl _ _) (Nat.le_refl _) (by simp) ?_; (case hd => rfl); (case hg => rfl); (case hr => first | (go_simp; done) | (go_simp; rfl)); (case hp => exact (Reps.one (show Kd.M (Kd.int .i64) _ _ _ 0 [.int .i64 0] from rfl) (Reps.one (show Kd.M (Kd.int .i64) _ _ _ 0 [.int .i64 0] from rfl) (Reps.one (show Kd.M (Kd.int .i64) _ _ _ 1 [.int .i64 1] from rfl) (Reps.one (show Kd.M (Kd.int .i64) _ _ _ 1 [.int .i64 1] from rfl) (Reps.one (show Kd.M (Kd.int .i64) _ _ _ 2 [.int .i64 2] from rfl) (Reps.one (show Kd.M (Kd.int .i64) _ _ _ 2 [.int .i64 2] from rfl) (Reps.one (show Kd.M (Kd.int .i64) _ _ _ 3 [.int .i64 3] from rfl) (Reps.one (show Kd.M (Kd.int .i64) _ _ _ 4 [.int .i64 4] from rfl) (Reps.none _ _))))))))))
           intro v388 w15 ho16 hb hg_ hnew_
           clear hg_ hnew_
           (first | rw [← Ny387.out] at ho16 | (simp only [Int.reduceToNat] at ho16; rw [← Ny387.out] at ho16))
           have n0_ := Aside0.mk (Kd.R_lower ho16 (ksq (hkqa HK.out)))
           have n1_ := Aside0.mk (IsS73.below (IsS73.q HI0.out) hb)
           have n2_ := Aside0.mk (blk_below (bkq BK385.out) hb)
           have n3_ := Aside0.mk (blk_below (bkq BK386.out) hb)
           have n4_ := Aside0.mk (blk_below (bkq BK395.out) hb)
           have n5_ := Aside0.mk (KeepBut.trans (hkqa HK.out) (KeepBut.of_below hb g none) (.inl rfl))
           have n6_ := Aside0.mk (below_step (hbqs HB.out (IsS73.ge HI0.out)) hb)
           clear HI0 BK385 BK386 BK395 HK HB
           revert n0_ n1_ n2_ n3_ n4_ n5_ n6_
           intro HO389 HI0 BK385 BK386 BK395 HK HB
           clear hb ho16
           obtain ⟨Ao17, co17, eo17⟩ := Kd.R_slice HO389.out
           subst eo17
           obtain ⟨ado17, fo17, _⟩ := Kd.at_int (Kd.R_reads' HO389.out).2.2 0 (by decide) (by rw [Ny387.out]; simp)
           cases fo17
           refine hK.out _ _ trivial (fun hHeld => ?_)
           clear hK K
           refine normq 6 ?_
           refine pureq (i := 3) (N := some 9) #[true, true, true, true, false, true, true, true, true, false, false, true, false] rfl rfl HT_.out ?_
           exact norm_ (by first | (simp only [putAll, Act.put, List.setIfInBounds_toArray, List.set_cons_zero, List.set_cons_succ]; done) | (simp only [putAll, Act.put, List.setIfInBounds_toArray, List.set_cons_zero, List.set_cons_succ]; rfl)) (hJ0_2_6_11 (.slice (some ado17) y387.length co17, ado17, gb395) _ ⟨(roq HO389.out), ⟨_, rfl⟩, (bkq BK385.out), (bkq BK386.out), (bkq BK395.out), GW395.out, GE395.out, NB0_395.out, NB395_0.out, NB385_395.out, NB395_385.out, NB386_395.out, NB395_386.out, (IsS73.q HI0.out), (hkqa HK.out), (hbqs HB.out (IsS73.ge HI0.out))⟩)
         ·skip
          rintro ⟨v388, adz_v388, gb395⟩ w16 ⟨h0_, h1_, h2_, h3_, h4_, h5_, h6_, h7_, h8_, h9_, h10_, h11_, h12_, h13_, h14_, h15_⟩
          have n0_ : Aside0 (Kd.R (Kd.int .i64) 3 w16 w.heap.size (fun _ => True) v388 y387) := ⟨h0_⟩
          have n1_ : Aside0 (∃ c_, (v388 : Value) = .slice (some adz_v388) y387.length c_) := ⟨h1_⟩
          have n2_ : Aside0 (w16.heap[gb385]? = some (.cells #[.slice A1_0 l1_0.length c1_0, .int .i64 a1_1, .slice A1_2 l1_2.length c1_2] 26 (0, 0))) := ⟨h2_⟩
          have n3_ : Aside0 (w16.heap[gb386]? = some (.cells #[.int .i64 0, .int .i64 0, .int .i64 0] 81 (0, 0))) := ⟨h3_⟩
          have n4_ : Aside0 (w16.heap[gb395]? = some (.cells #[.int .i64 0, .int .i64 0, .int .i64 0] 81 (0, 0))) := ⟨h4_⟩
          have n5_ : Aside0 (w.heap.size ≤ gb395) := ⟨h5_⟩
          have n6_ : Aside0 (w0.heap.size ≤ gb395) := ⟨h6_⟩
          have n7_ : Aside0 (g ≠ gb395) := ⟨h7_⟩
          have n8_ : Aside0 (gb395 ≠ g) := ⟨h8_⟩
          have n9_ : Aside0 (gb385 ≠ gb395) := ⟨h9_⟩
          have n10_ : Aside0 (gb395 ≠ gb385) := ⟨h10_⟩
          have n11_ : Aside0 (gb386 ≠ gb395) := ⟨h11_⟩
          have n12_ : Aside0 (gb395 ≠ gb386) := ⟨h12_⟩
          have n13_ : Aside0 (IsS73 w0 w16 g s0_0 t391) := ⟨h13_⟩
          have n14_ : Aside0 (KeepBut w w16 g none) := ⟨h14_⟩
          have n15_ : Aside0 (Below w0.heap.size w0 w16) := ⟨h15_⟩
          clear BK385
          clear BK386
          clear HI0
          clear HK
          clear HB
          clear h0_ h1_ h2_ h3_ h4_ h5_ h6_ h7_ h8_ h9_ h10_ h11_ h12_ h13_ h14_ h15_
          have HO389 := n0_
          have HA_HO389 := n1_
          have BK385 := n2_
          have BK386 := n3_
          have BK395 := n4_
          have GW395 := n5_
          have GE395 := n6_
          have NB0_395 := n7_
          have NB395_0 := n8_
          have NB385_395 := n9_
          have NB395_385 := n10_
          have NB386_395 := n11_
          have NB395_386 := n12_
          have HI0 := n13_
          have HK := n14_
          have HB := n15_
          clear n0_ n1_ n2_ n3_ n4_ n5_ n6_ n7_ n8_ n9_ n10_ n11_ n12_ n13_ n14_ n15_
          have hHeld := trivial
          obtain ⟨co17, eo17⟩ := HA_HO389.out
          clear HA_HO389
          subst eo17
          refine norm_ (a' := ?_) ?_ ?_
          rotate_left
          ·simp only [putAll, Act.put, List.setIfInBounds_toArray, List.set_cons_zero, List.set_cons_succ]
           rfl
          refine two_ (i := 4) (j := 6) (Ni := some 10) (Nj := some 12) #[true, true, true, true, true, true, false, false, false, false, false, true, false] #[true, true, true, true, false, true, true, false, false, false, false, true, false] rfl rfl rfl rfl (two_of HT_.out (by kernel_rfl)) (by decide) (by decide) (fun K hK => ?_) (fun K hK => ?_)
          ·skip
           (have p392 : 0 ≤ (t390 : Int) := od; have q392 : t390 < (y387.length : Int) := od; obtain ⟨ad392, e392, hx392_0⟩ := Kd.at_int (Kd.R_reads' HO389.out).2.2 t390 p392 q392; obtain rfl : adz_v388 = ad392 := (by injection e392))
           refine value_ (w1 := ?_) (v := ?_) (by rfl) rfl ?_ ?_
           rotate_left 2
           ·go_simp
            constructor
            ·rfl
            ·rfl
           clear hx392_0
           refine hK.out _ _ trivial (fun hHeld => ?_)
           clear hK K
           refine normq 10 ?_
           exact norm_ (by first | (simp only [putAll, Act.put, List.setIfInBounds_toArray, List.set_cons_zero, List.set_cons_succ]; done) | (simp only [putAll, Act.put, List.setIfInBounds_toArray, List.set_cons_zero, List.set_cons_succ]; rfl)) (hJ0_2_4_11 (.slice (some adz_v388) y387.length co17, adz_v388, gb395) _ ⟨(roq HO389.out), ⟨_, rfl⟩, (bkq BK385.out), (bkq BK386.out), (bkq BK395.out), GW395.out, GE395.out, NB0_395.out, NB395_0.out, NB385_395.out, NB395_385.out, NB386_395.out, NB395_386.out, (IsS73.q HI0.out), (hkqa HK.out), (hbqs HB.out (IsS73.ge HI0.out))⟩)
          ·skip
           refine goes_ Try.func62 (by kernel_rfl) rfl #[.pointer (some ⟨g, 0, none⟩), .int .i64 60] (by rfl) rfl rfl mpq ?_
           with_reducible refine (spec_l20Rd_pick.calls k g s0_0 t391 60 t393 t394 w0 _ ?side1 ?side2 A6.out).mono ?_
           (case side1 => exact IsS73.q HI0.out)
           (case side2 => exact hbqs HB.out (IsS73.ge HI0.out))
           rintro e w18 ⟨rfl, hi, hb, hk⟩
           refine ⟨_, rfl, ?_⟩
           have n0_ := Aside0.mk (KeepBut.blk hk (bkq BK385.out) NB385_0.out (by simp))
           have n1_ := Aside0.mk (KeepBut.blk hk (bkq BK386.out) NB386_0.out (by simp))
           have n2_ := Aside0.mk (Kd.R_mono (Kd.R_keep (IsS73.apart (show IsS73 w0 _ g s0_0 t391 from IsS73.q HI0.out) (roq HO389.out) (by decide)) hk (fun _ h => h.2)) (fun _ h => h.1))
           have n3_ := Aside0.mk (KeepBut.blk hk (bkq BK395.out) NB395_0.out (by simp))
           have n4_ := Aside0.mk (KeepBut.trans (hkqa HK.out) hk (.inl rfl))
           have n5_ := Aside0.mk (hb)
           have n6_ := Aside0.mk (hi)
           clear BK385 BK386 HO389 BK395 HK HB HI0
           revert n0_ n1_ n2_ n3_ n4_ n5_ n6_
           intro BK385 BK386 HO389 BK395 HK HB HI0
           (try clear hb)
           (try clear hb2)
           (try clear hk)
           (try clear hi)
           refine hK.out _ _ trivial (fun hHeld => ?_)
           clear hK K
           refine normq 12 ?_
           refine pureq (i := 7) (N := some 13) #[true, true, true, true, false, true, true, true, false, false, false, true, false] rfl rfl HT_.out ?_
           refine pureq (i := 8) (N := some 14) #[true, true, true, true, false, true, true, true, true, false, false, true, false] rfl rfl HT_.out ?_
           exact norm_ (by first | (simp only [putAll, Act.put, List.setIfInBounds_toArray, List.set_cons_zero, List.set_cons_succ]; done) | (simp only [putAll, Act.put, List.setIfInBounds_toArray, List.set_cons_zero, List.set_cons_succ]; rfl)) (hJ0_2_6_11 (.slice (some adz_v388) y387.length co17, adz_v388, gb395) _ ⟨(roq HO389.out), ⟨_, rfl⟩, (bkq BK385.out), (bkq BK386.out), (bkq BK395.out), GW395.out, GE395.out, NB0_395.out, NB395_0.out, NB385_395.out, NB395_385.out, NB386_395.out, NB395_386.out, (IsS73.q HI0.out), (hkqa HK.out), (hbqs HB.out (IsS73.ge HI0.out))⟩)
        ·skip
         rintro ⟨v388, adz_v388⟩ w16 ⟨h0_, h1_, h2_, h3_, h4_, h5_, h6_⟩
         have n0_ : Aside0 (Kd.R (Kd.int .i64) 3 w16 w.heap.size (fun _ => True) v388 y387) := ⟨h0_⟩
         have n1_ : Aside0 (∃ c_, (v388 : Value) = .slice (some adz_v388) y387.length c_) := ⟨h1_⟩
         have n2_ : Aside0 (w16.heap[gb385]? = some (.cells #[.slice A1_0 l1_0.length c1_0, .int .i64 a1_1, .slice A1_2 l1_2.length c1_2] 26 (0, 0))) := ⟨h2_⟩
         have n3_ : Aside0 (w16.heap[gb386]? = some (.cells #[.int .i64 0, .int .i64 0, .int .i64 0] 81 (0, 0))) := ⟨h3_⟩
         have n4_ : Aside0 (IsS73 w0 w16 g s0_0 t394) := ⟨h4_⟩
         have n5_ : Aside0 (KeepBut w w16 g none) := ⟨h5_⟩
         have n6_ : Aside0 (Below w0.heap.size w0 w16) := ⟨h6_⟩
         clear BK385
         clear BK386
         clear HI0
         clear HK
         clear HB
         clear h0_ h1_ h2_ h3_ h4_ h5_ h6_
         have HO389 := n0_
         have HA_HO389 := n1_
         have BK385 := n2_
         have BK386 := n3_
         have HI0 := n4_
         have HK := n5_
         have HB := n6_
         clear n0_ n1_ n2_ n3_ n4_ n5_ n6_
         have hHeld := trivial
         obtain ⟨co17, eo17⟩ := HA_HO389.out
         clear HA_HO389
         subst eo17
         refine norm_ (a' := ?_) ?_ ?_
         rotate_left
         ·simp only [putAll, Act.put, List.setIfInBounds_toArray, List.set_cons_zero, List.set_cons_succ]
          rfl
         refine two_ (i := 4) (j := 11) (Ni := some 10) (Nj := some 5) #[true, true, true, true, true, true, true, true, true, false, false, false, false] #[true, true, true, true, false, true, true, true, true, false, false, true, false] rfl rfl rfl rfl (two_of HT_.out (by kernel_rfl)) (by decide) (by decide) (fun K hK => ?_) (fun K hK => ?_)
         ·skip
          (have p392 : 0 ≤ (t390 : Int) := od; have q392 : t390 < (y387.length : Int) := od; obtain ⟨ad392, e392, hx392_0⟩ := Kd.at_int (Kd.R_reads' HO389.out).2.2 t390 p392 q392; obtain rfl : adz_v388 = ad392 := (by injection e392))
          refine value_ (w1 := ?_) (v := ?_) (by rfl) rfl ?_ ?_
          rotate_left 2
          ·go_simp
           constructor
           ·rfl
           ·rfl
          clear hx392_0
          refine hK.out _ _ trivial (fun hHeld => ?_)
          clear hK K
          refine normq 10 ?_
          refine pureq (i := 9) (N := some 15) #[true, true, true, true, true, true, true, true, true, true, false, false, false] rfl rfl HT_.out ?_
          refine pureq (i := 10) (N := some 16) #[true, true, true, true, true, true, true, true, true, true, true, false, false] rfl rfl HT_.out ?_
          exact norm_ (by first | (simp only [putAll, Act.put, List.setIfInBounds_toArray, List.set_cons_zero, List.set_cons_succ]; done) | (simp only [putAll, Act.put, List.setIfInBounds_toArray, List.set_cons_zero, List.set_cons_succ]; rfl)) (hJ0_2_4_6 (.slice (some adz_v388) y387.length co17, adz_v388) _ ⟨(roq HO389.out), ⟨_, rfl⟩, (bkq BK385.out), (bkq BK386.out), (IsS73.q HI0.out), (hkqa HK.out), (hbqs HB.out (IsS73.ge HI0.out))⟩)
         ·skip
          refine box_step ?hg (N := 5) ?hd (cs := #[.int .i64 0, .int .i64 0, .int .i64 0]) (t := 81) ?hr ?_; (case hd => rfl); (case hg => rfl); (case hr => first | (go_simp; done) | (go_simp; rfl))
          intro gb395 hg w18 hbox hb
          have n0_ := Aside0.mk (Kd.R_below (roq HO389.out) hb)
          have n1_ := Aside0.mk (IsS73.below (IsS73.q HI0.out) hb)
          have n2_ := Aside0.mk (blk_below (bkq BK385.out) hb)
          have n3_ := Aside0.mk (blk_below (bkq BK386.out) hb)
          have n4_ := Aside0.mk (KeepBut.trans (hkqa HK.out) (KeepBut.of_below hb g none) (.inl rfl))
          have n5_ := Aside0.mk (below_step (hbqs HB.out (IsS73.ge HI0.out)) hb)
          have n6_ := Aside0.mk (hbox)
          have n7_ := Aside0.mk ((by rw [hg]; exact (ksq (hkqa HK.out)) : w.heap.size ≤ gb395))
          have n8_ := Aside0.mk ((Nat.le_trans HW0.out (by rw [hg]; exact (ksq (hkqa HK.out)) : w.heap.size ≤ gb395) : w0.heap.size ≤ gb395))
          have n9_ := Aside0.mk ((by rw [hg]; exact Nat.ne_of_lt (blk_lt (bkq BK385.out)) : gb385 ≠ gb395))
          have n10_ := Aside0.mk ((by rw [hg]; exact Nat.ne_of_gt (blk_lt (bkq BK385.out)) : gb395 ≠ gb385))
          have n11_ := Aside0.mk ((by rw [hg]; exact Nat.ne_of_lt (blk_lt (bkq BK386.out)) : gb386 ≠ gb395))
          have n12_ := Aside0.mk ((by rw [hg]; exact Nat.ne_of_gt (blk_lt (bkq BK386.out)) : gb395 ≠ gb386))
          have n13_ := Aside0.mk ((by rw [hg]; exact Nat.ne_of_lt (IsS73.lt (show IsS73 w0 _ g s0_0 t394 from IsS73.q HI0.out)) : g ≠ gb395))
          have n14_ := Aside0.mk ((by rw [hg]; exact Nat.ne_of_gt (IsS73.lt (show IsS73 w0 _ g s0_0 t394 from IsS73.q HI0.out)) : gb395 ≠ g))
          clear HO389 HI0 BK385 BK386 HK HB
          revert n0_ n1_ n2_ n3_ n4_ n5_ n6_ n7_ n8_ n9_ n10_ n11_ n12_ n13_ n14_
          intro HO389 HI0 BK385 BK386 HK HB BK395 GW395 GE395 NB385_395 NB395_385 NB386_395 NB395_386 NB0_395 NB395_0
          clear hb hbox hg
          refine hK.out _ _ trivial (fun hHeld => ?_)
          clear hK K
          refine normq 5 ?_
          exact norm_ (by first | (simp only [putAll, Act.put, List.setIfInBounds_toArray, List.set_cons_zero, List.set_cons_succ]; done) | (simp only [putAll, Act.put, List.setIfInBounds_toArray, List.set_cons_zero, List.set_cons_succ]; rfl)) (hJ0_2_6_11 (.slice (some adz_v388) y387.length co17, adz_v388, gb395) _ ⟨(roq HO389.out), ⟨_, rfl⟩, (bkq BK385.out), (bkq BK386.out), (bkq BK395.out), GW395.out, GE395.out, NB0_395.out, NB395_0.out, NB385_395.out, NB395_385.out, NB386_395.out, NB395_386.out, (IsS73.q HI0.out), (hkqa HK.out), (hbqs HB.out (IsS73.ge HI0.out))⟩)
       ·skip
        rintro ⟨v388, adz_v388⟩ w15 ⟨h0_, h1_, h2_, h3_, h4_, h5_, h6_⟩
        have n0_ : Aside0 (Kd.R (Kd.int .i64) 3 w15 w.heap.size (fun _ => True) v388 y387) := ⟨h0_⟩
        have n1_ : Aside0 (∃ c_, (v388 : Value) = .slice (some adz_v388) y387.length c_) := ⟨h1_⟩
        have n2_ : Aside0 (w15.heap[gb385]? = some (.cells #[.slice A1_0 l1_0.length c1_0, .int .i64 a1_1, .slice A1_2 l1_2.length c1_2] 26 (0, 0))) := ⟨h2_⟩
        have n3_ : Aside0 (w15.heap[gb386]? = some (.cells #[.int .i64 0, .int .i64 0, .int .i64 0] 81 (0, 0))) := ⟨h3_⟩
        have n4_ : Aside0 (IsS73 w0 w15 g s0_0 t391) := ⟨h4_⟩
        have n5_ : Aside0 (KeepBut w w15 g none) := ⟨h5_⟩
        have n6_ : Aside0 (Below w0.heap.size w0 w15) := ⟨h6_⟩
        clear BK385
        clear BK386
        clear HI0
        clear HK
        clear HB
        clear h0_ h1_ h2_ h3_ h4_ h5_ h6_
        have HO389 := n0_
        have HA_HO389 := n1_
        have BK385 := n2_
        have BK386 := n3_
        have HI0 := n4_
        have HK := n5_
        have HB := n6_
        clear n0_ n1_ n2_ n3_ n4_ n5_ n6_
        have hHeld := trivial
        obtain ⟨co16, eo16⟩ := HA_HO389.out
        clear HA_HO389
        subst eo16
        refine norm_ (a' := ?_) ?_ ?_
        rotate_left
        ·simp only [putAll, Act.put, List.setIfInBounds_toArray, List.set_cons_zero, List.set_cons_succ]
         rfl
        refine two_ (i := 6) (j := 11) (Ni := some 12) (Nj := some 5) #[true, true, true, true, true, true, true, false, false, false, false, false, false] #[true, true, true, true, true, true, false, false, false, false, false, true, false] rfl rfl rfl rfl (two_of HT_.out (by kernel_rfl)) (by decide) (by decide) (fun K hK => ?_) (fun K hK => ?_)
        ·skip
         refine goes_ Try.func62 (by kernel_rfl) rfl #[.pointer (some ⟨g, 0, none⟩), .int .i64 60] (by rfl) rfl rfl mpq ?_
         with_reducible refine (spec_l20Rd_pick.calls k g s0_0 t391 60 t393 t394 w0 _ ?side1 ?side2 A6.out).mono ?_
         (case side1 => exact IsS73.q HI0.out)
         (case side2 => exact hbqs HB.out (IsS73.ge HI0.out))
         rintro e w17 ⟨rfl, hi, hb, hk⟩
         refine ⟨_, rfl, ?_⟩
         have n0_ := Aside0.mk (KeepBut.blk hk (bkq BK385.out) NB385_0.out (by simp))
         have n1_ := Aside0.mk (KeepBut.blk hk (bkq BK386.out) NB386_0.out (by simp))
         have n2_ := Aside0.mk (Kd.R_mono (Kd.R_keep (IsS73.apart (show IsS73 w0 _ g s0_0 t391 from IsS73.q HI0.out) (roq HO389.out) (by decide)) hk (fun _ h => h.2)) (fun _ h => h.1))
         have n3_ := Aside0.mk (KeepBut.trans (hkqa HK.out) hk (.inl rfl))
         have n4_ := Aside0.mk (hb)
         have n5_ := Aside0.mk (hi)
         clear BK385 BK386 HO389 HK HB HI0
         revert n0_ n1_ n2_ n3_ n4_ n5_
         intro BK385 BK386 HO389 HK HB HI0
         (try clear hb)
         (try clear hb2)
         (try clear hk)
         (try clear hi)
         refine hK.out _ _ trivial (fun hHeld => ?_)
         clear hK K
         refine normq 12 ?_
         refine pureq (i := 7) (N := some 13) #[true, true, true, true, true, true, true, true, false, false, false, false, false] rfl rfl HT_.out ?_
         refine pureq (i := 8) (N := some 14) #[true, true, true, true, true, true, true, true, true, false, false, false, false] rfl rfl HT_.out ?_
         refine pureq (i := 9) (N := some 15) #[true, true, true, true, true, true, true, true, true, true, false, false, false] rfl rfl HT_.out ?_
         refine pureq (i := 10) (N := some 16) #[true, true, true, true, true, true, true, true, true, true, true, false, false] rfl rfl HT_.out ?_
         exact norm_ (by first | (simp only [putAll, Act.put, List.setIfInBounds_toArray, List.set_cons_zero, List.set_cons_succ]; done) | (simp only [putAll, Act.put, List.setIfInBounds_toArray, List.set_cons_zero, List.set_cons_succ]; rfl)) (hJ0_2_4_6 (.slice (some adz_v388) y387.length co16, adz_v388) _ ⟨(roq HO389.out), ⟨_, rfl⟩, (bkq BK385.out), (bkq BK386.out), (IsS73.q HI0.out), (hkqa HK.out), (hbqs HB.out (IsS73.ge HI0.out))⟩)
        ·skip
         refine box_step ?hg (N := 5) ?hd (cs := #[.int .i64 0, .int .i64 0, .int .i64 0]) (t := 81) ?hr ?_; (case hd => rfl); (case hg => rfl); (case hr => first | (go_simp; done) | (go_simp; rfl))
         intro gb395 hg w17 hbox hb
         have n0_ := Aside0.mk (Kd.R_below (roq HO389.out) hb)
         have n1_ := Aside0.mk (IsS73.below (IsS73.q HI0.out) hb)
         have n2_ := Aside0.mk (blk_below (bkq BK385.out) hb)
         have n3_ := Aside0.mk (blk_below (bkq BK386.out) hb)
         have n4_ := Aside0.mk (KeepBut.trans (hkqa HK.out) (KeepBut.of_below hb g none) (.inl rfl))
         have n5_ := Aside0.mk (below_step (hbqs HB.out (IsS73.ge HI0.out)) hb)
         have n6_ := Aside0.mk (hbox)
         have n7_ := Aside0.mk ((by rw [hg]; exact (ksq (hkqa HK.out)) : w.heap.size ≤ gb395))
         have n8_ := Aside0.mk ((Nat.le_trans HW0.out (by rw [hg]; exact (ksq (hkqa HK.out)) : w.heap.size ≤ gb395) : w0.heap.size ≤ gb395))
         have n9_ := Aside0.mk ((by rw [hg]; exact Nat.ne_of_lt (blk_lt (bkq BK385.out)) : gb385 ≠ gb395))
         have n10_ := Aside0.mk ((by rw [hg]; exact Nat.ne_of_gt (blk_lt (bkq BK385.out)) : gb395 ≠ gb385))
         have n11_ := Aside0.mk ((by rw [hg]; exact Nat.ne_of_lt (blk_lt (bkq BK386.out)) : gb386 ≠ gb395))
         have n12_ := Aside0.mk ((by rw [hg]; exact Nat.ne_of_gt (blk_lt (bkq BK386.out)) : gb395 ≠ gb386))
         have n13_ := Aside0.mk ((by rw [hg]; exact Nat.ne_of_lt (IsS73.lt (show IsS73 w0 _ g s0_0 t391 from IsS73.q HI0.out)) : g ≠ gb395))
         have n14_ := Aside0.mk ((by rw [hg]; exact Nat.ne_of_gt (IsS73.lt (show IsS73 w0 _ g s0_0 t391 from IsS73.q HI0.out)) : gb395 ≠ g))
         clear HO389 HI0 BK385 BK386 HK HB
         revert n0_ n1_ n2_ n3_ n4_ n5_ n6_ n7_ n8_ n9_ n10_ n11_ n12_ n13_ n14_
         intro HO389 HI0 BK385 BK386 HK HB BK395 GW395 GE395 NB385_395 NB395_385 NB386_395 NB395_386 NB0_395 NB395_0
         clear hb hbox hg
         refine hK.out _ _ trivial (fun hHeld => ?_)
         clear hK K
         refine normq 5 ?_
         exact norm_ (by first | (simp only [putAll, Act.put, List.setIfInBounds_toArray, List.set_cons_zero, List.set_cons_succ]; done) | (simp only [putAll, Act.put, List.setIfInBounds_toArray, List.set_cons_zero, List.set_cons_succ]; rfl)) (hJ0_2_4_11 (.slice (some adz_v388) y387.length co16, adz_v388, gb395) _ ⟨(roq HO389.out), ⟨_, rfl⟩, (bkq BK385.out), (bkq BK386.out), (bkq BK395.out), GW395.out, GE395.out, NB0_395.out, NB395_0.out, NB385_395.out, NB395_385.out, NB386_395.out, NB395_386.out, (IsS73.q HI0.out), (hkqa HK.out), (hbqs HB.out (IsS73.ge HI0.out))⟩)
      ·skip
       rintro ⟨v388, adz_v388, gb395⟩ w17 ⟨h0_, h1_, h2_, h3_, h4_, h5_, h6_, h7_, h8_, h9_, h10_, h11_, h12_, h13_, h14_, h15_⟩
       have n0_ : Aside0 (Kd.R (Kd.int .i64) 3 w17 w.heap.size (fun _ => True) v388 y387) := ⟨h0_⟩
       have n1_ : Aside0 (∃ c_, (v388 : Value) = .slice (some adz_v388) y387.length c_) := ⟨h1_⟩
       have n2_ : Aside0 (w17.heap[gb385]? = some (.cells #[.slice A1_0 l1_0.length c1_0, .int .i64 a1_1, .slice A1_2 l1_2.length c1_2] 26 (0, 0))) := ⟨h2_⟩
       have n3_ : Aside0 (w17.heap[gb386]? = some (.cells #[.int .i64 0, .int .i64 0, .int .i64 0] 81 (0, 0))) := ⟨h3_⟩
       have n4_ : Aside0 (w17.heap[gb395]? = some (.cells #[.int .i64 0, .int .i64 0, .int .i64 0] 81 (0, 0))) := ⟨h4_⟩
       have n5_ : Aside0 (w.heap.size ≤ gb395) := ⟨h5_⟩
       have n6_ : Aside0 (w0.heap.size ≤ gb395) := ⟨h6_⟩
       have n7_ : Aside0 (g ≠ gb395) := ⟨h7_⟩
       have n8_ : Aside0 (gb395 ≠ g) := ⟨h8_⟩
       have n9_ : Aside0 (gb385 ≠ gb395) := ⟨h9_⟩
       have n10_ : Aside0 (gb395 ≠ gb385) := ⟨h10_⟩
       have n11_ : Aside0 (gb386 ≠ gb395) := ⟨h11_⟩
       have n12_ : Aside0 (gb395 ≠ gb386) := ⟨h12_⟩
       have n13_ : Aside0 (IsS73 w0 w17 g s0_0 t394) := ⟨h13_⟩
       have n14_ : Aside0 (KeepBut w w17 g none) := ⟨h14_⟩
       have n15_ : Aside0 (Below w0.heap.size w0 w17) := ⟨h15_⟩
       clear BK385
       clear BK386
       clear HI0
       clear HK
       clear HB
       clear h0_ h1_ h2_ h3_ h4_ h5_ h6_ h7_ h8_ h9_ h10_ h11_ h12_ h13_ h14_ h15_
       have HO389 := n0_
       have HA_HO389 := n1_
       have BK385 := n2_
       have BK386 := n3_
       have BK395 := n4_
       have GW395 := n5_
       have GE395 := n6_
       have NB0_395 := n7_
       have NB395_0 := n8_
       have NB385_395 := n9_
       have NB395_385 := n10_
       have NB386_395 := n11_
       have NB395_386 := n12_
       have HI0 := n13_
       have HK := n14_
       have HB := n15_
       clear n0_ n1_ n2_ n3_ n4_ n5_ n6_ n7_ n8_ n9_ n10_ n11_ n12_ n13_ n14_ n15_
       have hHeld := trivial
       obtain ⟨co18, eo18⟩ := HA_HO389.out
       clear HA_HO389
       subst eo18
       refine norm_ (a' := ?_) ?_ ?_
       rotate_left
       ·simp only [putAll, Act.put, List.setIfInBounds_toArray, List.set_cons_zero, List.set_cons_succ]
        rfl
       refine one_ (i := 4) (N := some 10) #[true, true, true, true, true, true, true, true, true, false, false, true, false] rfl rfl (one_of HT_.out (by kernel_rfl)) (by decide) (fun K hK => ?_)
       (have p392 : 0 ≤ (t390 : Int) := od; have q392 : t390 < (y387.length : Int) := od; obtain ⟨ad392, e392, hx392_0⟩ := Kd.at_int (Kd.R_reads' HO389.out).2.2 t390 p392 q392; obtain rfl : adz_v388 = ad392 := (by injection e392))
       refine value_ (w1 := ?_) (v := ?_) (by rfl) rfl ?_ ?_
       rotate_left 2
       ·go_simp
        constructor
        ·rfl
        ·rfl
       clear hx392_0
       refine hK.out _ _ trivial (fun hHeld => ?_)
       clear hK K
       refine normq 10 ?_
       refine pureq (i := 9) (N := some 15) #[true, true, true, true, true, true, true, true, true, true, false, true, false] rfl rfl HT_.out ?_
       refine pureq (i := 10) (N := some 16) #[true, true, true, true, true, true, true, true, true, true, true, true, false] rfl rfl HT_.out ?_
       exact norm_ (by first | (simp only [putAll, Act.put, List.setIfInBounds_toArray, List.set_cons_zero, List.set_cons_succ]; done) | (simp only [putAll, Act.put, List.setIfInBounds_toArray, List.set_cons_zero, List.set_cons_succ]; rfl)) (hJ0_2_4_6_11 (.slice (some adz_v388) y387.length co18, adz_v388, gb395) _ ⟨(roq HO389.out), ⟨_, rfl⟩, (bkq BK385.out), (bkq BK386.out), (bkq BK395.out), GW395.out, GE395.out, NB0_395.out, NB395_0.out, NB385_395.out, NB395_385.out, NB386_395.out, NB395_386.out, (IsS73.q HI0.out), (hkqa HK.out), (hbqs HB.out (IsS73.ge HI0.out))⟩)
     ·skip
      rintro ⟨v388, adz_v388, gb395⟩ w16 ⟨h0_, h1_, h2_, h3_, h4_, h5_, h6_, h7_, h8_, h9_, h10_, h11_, h12_, h13_, h14_, h15_⟩
      have n0_ : Aside0 (Kd.R (Kd.int .i64) 3 w16 w.heap.size (fun _ => True) v388 y387) := ⟨h0_⟩
      have n1_ : Aside0 (∃ c_, (v388 : Value) = .slice (some adz_v388) y387.length c_) := ⟨h1_⟩
      have n2_ : Aside0 (w16.heap[gb385]? = some (.cells #[.slice A1_0 l1_0.length c1_0, .int .i64 a1_1, .slice A1_2 l1_2.length c1_2] 26 (0, 0))) := ⟨h2_⟩
      have n3_ : Aside0 (w16.heap[gb386]? = some (.cells #[.int .i64 0, .int .i64 0, .int .i64 0] 81 (0, 0))) := ⟨h3_⟩
      have n4_ : Aside0 (w16.heap[gb395]? = some (.cells #[.int .i64 0, .int .i64 0, .int .i64 0] 81 (0, 0))) := ⟨h4_⟩
      have n5_ : Aside0 (w.heap.size ≤ gb395) := ⟨h5_⟩
      have n6_ : Aside0 (w0.heap.size ≤ gb395) := ⟨h6_⟩
      have n7_ : Aside0 (g ≠ gb395) := ⟨h7_⟩
      have n8_ : Aside0 (gb395 ≠ g) := ⟨h8_⟩
      have n9_ : Aside0 (gb385 ≠ gb395) := ⟨h9_⟩
      have n10_ : Aside0 (gb395 ≠ gb385) := ⟨h10_⟩
      have n11_ : Aside0 (gb386 ≠ gb395) := ⟨h11_⟩
      have n12_ : Aside0 (gb395 ≠ gb386) := ⟨h12_⟩
      have n13_ : Aside0 (IsS73 w0 w16 g s0_0 t391) := ⟨h13_⟩
      have n14_ : Aside0 (KeepBut w w16 g none) := ⟨h14_⟩
      have n15_ : Aside0 (Below w0.heap.size w0 w16) := ⟨h15_⟩
      clear BK385
      clear BK386
      clear HI0
      clear HK
      clear HB
      clear h0_ h1_ h2_ h3_ h4_ h5_ h6_ h7_ h8_ h9_ h10_ h11_ h12_ h13_ h14_ h15_
      have HO389 := n0_
      have HA_HO389 := n1_
      have BK385 := n2_
      have BK386 := n3_
      have BK395 := n4_
      have GW395 := n5_
      have GE395 := n6_
      have NB0_395 := n7_
      have NB395_0 := n8_
      have NB385_395 := n9_
      have NB395_385 := n10_
      have NB386_395 := n11_
      have NB395_386 := n12_
      have HI0 := n13_
      have HK := n14_
      have HB := n15_
      clear n0_ n1_ n2_ n3_ n4_ n5_ n6_ n7_ n8_ n9_ n10_ n11_ n12_ n13_ n14_ n15_
      have hHeld := trivial
      obtain ⟨co17, eo17⟩ := HA_HO389.out
      clear HA_HO389
      subst eo17
      refine norm_ (a' := ?_) ?_ ?_
      rotate_left
      ·simp only [putAll, Act.put, List.setIfInBounds_toArray, List.set_cons_zero, List.set_cons_succ]
       rfl
      refine one_ (i := 6) (N := some 12) #[true, true, true, true, true, true, true, false, false, false, false, true, false] rfl rfl (one_of HT_.out (by kernel_rfl)) (by decide) (fun K hK => ?_)
      refine goes_ Try.func62 (by kernel_rfl) rfl #[.pointer (some ⟨g, 0, none⟩), .int .i64 60] (by rfl) rfl rfl mpq ?_
      with_reducible refine (spec_l20Rd_pick.calls k g s0_0 t391 60 t393 t394 w0 _ ?side1 ?side2 A6.out).mono ?_
      (case side1 => exact IsS73.q HI0.out)
      (case side2 => exact hbqs HB.out (IsS73.ge HI0.out))
      rintro e w18 ⟨rfl, hi, hb, hk⟩
      refine ⟨_, rfl, ?_⟩
      have n0_ := Aside0.mk (KeepBut.blk hk (bkq BK385.out) NB385_0.out (by simp))
      have n1_ := Aside0.mk (KeepBut.blk hk (bkq BK386.out) NB386_0.out (by simp))
      have n2_ := Aside0.mk (Kd.R_mono (Kd.R_keep (IsS73.apart (show IsS73 w0 _ g s0_0 t391 from IsS73.q HI0.out) (roq HO389.out) (by decide)) hk (fun _ h => h.2)) (fun _ h => h.1))
      have n3_ := Aside0.mk (KeepBut.blk hk (bkq BK395.out) NB395_0.out (by simp))
      have n4_ := Aside0.mk (KeepBut.trans (hkqa HK.out) hk (.inl rfl))
      have n5_ := Aside0.mk (hb)
      have n6_ := Aside0.mk (hi)
      clear BK385 BK386 HO389 BK395 HK HB HI0
      revert n0_ n1_ n2_ n3_ n4_ n5_ n6_
      intro BK385 BK386 HO389 BK395 HK HB HI0
      (try clear hb)
      (try clear hb2)
      (try clear hk)
      (try clear hi)
      refine hK.out _ _ trivial (fun hHeld => ?_)
      clear hK K
      refine normq 12 ?_
      refine pureq (i := 7) (N := some 13) #[true, true, true, true, true, true, true, true, false, false, false, true, false] rfl rfl HT_.out ?_
      refine pureq (i := 8) (N := some 14) #[true, true, true, true, true, true, true, true, true, false, false, true, false] rfl rfl HT_.out ?_
      refine pureq (i := 9) (N := some 15) #[true, true, true, true, true, true, true, true, true, true, false, true, false] rfl rfl HT_.out ?_
      refine pureq (i := 10) (N := some 16) #[true, true, true, true, true, true, true, true, true, true, true, true, false] rfl rfl HT_.out ?_
      exact norm_ (by first | (simp only [putAll, Act.put, List.setIfInBounds_toArray, List.set_cons_zero, List.set_cons_succ]; done) | (simp only [putAll, Act.put, List.setIfInBounds_toArray, List.set_cons_zero, List.set_cons_succ]; rfl)) (hJ0_2_4_6_11 (.slice (some adz_v388) y387.length co17, adz_v388, gb395) _ ⟨(roq HO389.out), ⟨_, rfl⟩, (bkq BK385.out), (bkq BK386.out), (bkq BK395.out), GW395.out, GE395.out, NB0_395.out, NB395_0.out, NB385_395.out, NB395_385.out, NB386_395.out, NB395_386.out, (IsS73.q HI0.out), (hkqa HK.out), (hbqs HB.out (IsS73.ge HI0.out))⟩)
    ·skip
     rintro ⟨v388, adz_v388⟩ w16 ⟨h0_, h1_, h2_, h3_, h4_, h5_, h6_⟩
     have n0_ : Aside0 (Kd.R (Kd.int .i64) 3 w16 w.heap.size (fun _ => True) v388 y387) := ⟨h0_⟩
     have n1_ : Aside0 (∃ c_, (v388 : Value) = .slice (some adz_v388) y387.length c_) := ⟨h1_⟩
     have n2_ : Aside0 (w16.heap[gb385]? = some (.cells #[.slice A1_0 l1_0.length c1_0, .int .i64 a1_1, .slice A1_2 l1_2.length c1_2] 26 (0, 0))) := ⟨h2_⟩
     have n3_ : Aside0 (w16.heap[gb386]? = some (.cells #[.int .i64 0, .int .i64 0, .int .i64 0] 81 (0, 0))) := ⟨h3_⟩
     have n4_ : Aside0 (IsS73 w0 w16 g s0_0 t394) := ⟨h4_⟩
     have n5_ : Aside0 (KeepBut w w16 g none) := ⟨h5_⟩
     have n6_ : Aside0 (Below w0.heap.size w0 w16) := ⟨h6_⟩
     clear BK385
     clear BK386
     clear HI0
     clear HK
     clear HB
     clear h0_ h1_ h2_ h3_ h4_ h5_ h6_
     have HO389 := n0_
     have HA_HO389 := n1_
     have BK385 := n2_
     have BK386 := n3_
     have HI0 := n4_
     have HK := n5_
     have HB := n6_
     clear n0_ n1_ n2_ n3_ n4_ n5_ n6_
     have hHeld := trivial
     obtain ⟨co17, eo17⟩ := HA_HO389.out
     clear HA_HO389
     subst eo17
     refine norm_ (a' := ?_) ?_ ?_
     rotate_left
     ·simp only [putAll, Act.put, List.setIfInBounds_toArray, List.set_cons_zero, List.set_cons_succ]
      rfl
     refine one_ (i := 11) (N := some 5) #[true, true, true, true, true, true, true, true, true, true, true, true, false] rfl rfl (one_of HT_.out (by kernel_rfl)) (by decide) (fun K hK => ?_)
     refine box_step ?hg (N := 5) ?hd (cs := #[.int .i64 0, .int .i64 0, .int .i64 0]) (t := 81) ?hr ?_; (case hd => rfl); (case hg => rfl); (case hr => first | (go_simp; done) | (go_simp; rfl))
     intro gb395 hg w18 hbox hb
     have n0_ := Aside0.mk (Kd.R_below (roq HO389.out) hb)
     have n1_ := Aside0.mk (IsS73.below (IsS73.q HI0.out) hb)
     have n2_ := Aside0.mk (blk_below (bkq BK385.out) hb)
     have n3_ := Aside0.mk (blk_below (bkq BK386.out) hb)
     have n4_ := Aside0.mk (KeepBut.trans (hkqa HK.out) (KeepBut.of_below hb g none) (.inl rfl))
     have n5_ := Aside0.mk (below_step (hbqs HB.out (IsS73.ge HI0.out)) hb)
     have n6_ := Aside0.mk (hbox)
     have n7_ := Aside0.mk ((by rw [hg]; exact (ksq (hkqa HK.out)) : w.heap.size ≤ gb395))
     have n8_ := Aside0.mk ((Nat.le_trans HW0.out (by rw [hg]; exact (ksq (hkqa HK.out)) : w.heap.size ≤ gb395) : w0.heap.size ≤ gb395))
     have n9_ := Aside0.mk ((by rw [hg]; exact Nat.ne_of_lt (blk_lt (bkq BK385.out)) : gb385 ≠ gb395))
     have n10_ := Aside0.mk ((by rw [hg]; exact Nat.ne_of_gt (blk_lt (bkq BK385.out)) : gb395 ≠ gb385))
     have n11_ := Aside0.mk ((by rw [hg]; exact Nat.ne_of_lt (blk_lt (bkq BK386.out)) : gb386 ≠ gb395))
     have n12_ := Aside0.mk ((by rw [hg]; exact Nat.ne_of_gt (blk_lt (bkq BK386.out)) : gb395 ≠ gb386))
     have n13_ := Aside0.mk ((by rw [hg]; exact Nat.ne_of_lt (IsS73.lt (show IsS73 w0 _ g s0_0 t394 from IsS73.q HI0.out)) : g ≠ gb395))
     have n14_ := Aside0.mk ((by rw [hg]; exact Nat.ne_of_gt (IsS73.lt (show IsS73 w0 _ g s0_0 t394 from IsS73.q HI0.out)) : gb395 ≠ g))
     clear HO389 HI0 BK385 BK386 HK HB
     revert n0_ n1_ n2_ n3_ n4_ n5_ n6_ n7_ n8_ n9_ n10_ n11_ n12_ n13_ n14_
     intro HO389 HI0 BK385 BK386 HK HB BK395 GW395 GE395 NB385_395 NB395_385 NB386_395 NB395_386 NB0_395 NB395_0
     clear hb hbox hg
     refine hK.out _ _ trivial (fun hHeld => ?_)
     clear hK K
     refine normq 5 ?_
     exact norm_ (by first | (simp only [putAll, Act.put, List.setIfInBounds_toArray, List.set_cons_zero, List.set_cons_succ]; done) | (simp only [putAll, Act.put, List.setIfInBounds_toArray, List.set_cons_zero, List.set_cons_succ]; rfl)) (hJ0_2_4_6_11 (.slice (some adz_v388) y387.length co17, adz_v388, gb395) _ ⟨(roq HO389.out), ⟨_, rfl⟩, (bkq BK385.out), (bkq BK386.out), (bkq BK395.out), GW395.out, GE395.out, NB0_395.out, NB395_0.out, NB385_395.out, NB395_385.out, NB386_395.out, NB395_386.out, (IsS73.q HI0.out), (hkqa HK.out), (hbqs HB.out (IsS73.ge HI0.out))⟩)
   rintro ⟨v388, adz_v388, gb395⟩ w17 ⟨h0_, h1_, h2_, h3_, h4_, h5_, h6_, h7_, h8_, h9_, h10_, h11_, h12_, h13_, h14_, h15_⟩
   have n0_ : Aside0 (Kd.R (Kd.int .i64) 3 w17 w.heap.size (fun _ => True) v388 y387) := ⟨h0_⟩
   have n1_ : Aside0 (∃ c_, (v388 : Value) = .slice (some adz_v388) y387.length c_) := ⟨h1_⟩
   have n2_ : Aside0 (w17.heap[gb385]? = some (.cells #[.slice A1_0 l1_0.length c1_0, .int .i64 a1_1, .slice A1_2 l1_2.length c1_2] 26 (0, 0))) := ⟨h2_⟩
   have n3_ : Aside0 (w17.heap[gb386]? = some (.cells #[.int .i64 0, .int .i64 0, .int .i64 0] 81 (0, 0))) := ⟨h3_⟩
   have n4_ : Aside0 (w17.heap[gb395]? = some (.cells #[.int .i64 0, .int .i64 0, .int .i64 0] 81 (0, 0))) := ⟨h4_⟩
   have n5_ : Aside0 (w.heap.size ≤ gb395) := ⟨h5_⟩
   have n6_ : Aside0 (w0.heap.size ≤ gb395) := ⟨h6_⟩
   have n7_ : Aside0 (g ≠ gb395) := ⟨h7_⟩
   have n8_ : Aside0 (gb395 ≠ g) := ⟨h8_⟩
   have n9_ : Aside0 (gb385 ≠ gb395) := ⟨h9_⟩
   have n10_ : Aside0 (gb395 ≠ gb385) := ⟨h10_⟩
   have n11_ : Aside0 (gb386 ≠ gb395) := ⟨h11_⟩
   have n12_ : Aside0 (gb395 ≠ gb386) := ⟨h12_⟩
   have n13_ : Aside0 (IsS73 w0 w17 g s0_0 t394) := ⟨h13_⟩
   have n14_ : Aside0 (KeepBut w w17 g none) := ⟨h14_⟩
   have n15_ : Aside0 (Below w0.heap.size w0 w17) := ⟨h15_⟩
   clear BK385
   clear BK386
   clear HI0
   clear HK
   clear HB
   clear h0_ h1_ h2_ h3_ h4_ h5_ h6_ h7_ h8_ h9_ h10_ h11_ h12_ h13_ h14_ h15_
   have HO389 := n0_
   have HA_HO389 := n1_
   have BK385 := n2_
   have BK386 := n3_
   have BK395 := n4_
   have GW395 := n5_
   have GE395 := n6_
   have NB0_395 := n7_
   have NB395_0 := n8_
   have NB385_395 := n9_
   have NB395_385 := n10_
   have NB386_395 := n11_
   have NB395_386 := n12_
   have HI0 := n13_
   have HK := n14_
   have HB := n15_
   clear n0_ n1_ n2_ n3_ n4_ n5_ n6_ n7_ n8_ n9_ n10_ n11_ n12_ n13_ n14_ n15_
   have hHeld := trivial
   obtain ⟨co18, eo18⟩ := HA_HO389.out
   clear HA_HO389
   subst eo18
   refine norm_ (a' := ?_) ?_ ?_
   rotate_left
   ·simp only [putAll, Act.put, List.setIfInBounds_toArray, List.set_cons_zero, List.set_cons_succ]
    rfl
   refine one_ (i := 12) (N := none) #[true, true, true, true, true, true, true, true, true, true, true, true, true] rfl rfl (one_of HT_.out (by kernel_rfl)) (by decide) (fun K hK => ?_)
   have hs19 : w17.cell? ⟨gb395, 0, none⟩ = some (.int .i64 0) := (blk_cell BK395.out 0).trans rfl
   have hfs19 := blk_frozen BK395.out 0
   have hns19_0 := NB385_395.out
   have hns19_1 := NB386_395.out
   have hms19_0 := NB395_385.out
   have hms19_1 := NB395_386.out
   have hs20 : w17.cell? ⟨gb395, 1, none⟩ = some (.int .i64 0) := (blk_cell BK395.out 1).trans rfl
   have hfs20 := blk_frozen BK395.out 1
   have hns20_0 := NB385_395.out
   have hns20_1 := NB386_395.out
   have hms20_0 := NB395_385.out
   have hms20_1 := NB395_386.out
   have hs21 : w17.cell? ⟨gb395, 2, none⟩ = some (.int .i64 0) := (blk_cell BK395.out 2).trans rfl
   have hfs21 := blk_frozen BK395.out 2
   have hns21_0 := NB385_395.out
   have hns21_1 := NB386_395.out
   have hms21_0 := NB395_385.out
   have hms21_1 := NB395_386.out
   refine skip_ (w1 := ?_) (by rfl) rfl ?_ ?_
   rotate_left
   ·go_simp
    rfl
   refine hK.out _ _ trivial (fun hHeld => ?_)
   clear hK K
   refine done_ (done_of HT_.out (by kernel_rfl)) ?_
   have hnb22 := NB395_385.out
   have hnc22 := NB385_395.out
   have hnb23 := NB395_386.out
   have hnc23 := NB386_395.out
   have hnb24 := NB395_0.out
   have hnc24 := NB0_395.out
   have hcz25_0 : w17.cell? ⟨gb395, 0, none⟩ = some (.int .i64 0) := (blk_cell BK395.out 0).trans rfl
   have hcz25_1 : w17.cell? ⟨gb395, 1, none⟩ = some (.int .i64 0) := (blk_cell BK395.out 1).trans rfl
   have hcz25_2 : w17.cell? ⟨gb395, 2, none⟩ = some (.int .i64 0) := (blk_cell BK395.out 2).trans rfl
   have hfz25_0 := blk_frozen BK395.out 0
   have hfz25_1 := blk_frozen BK395.out 1
   have hfz25_2 := blk_frozen BK395.out 2
   go_upto_block 0 with (fail)
   go_cut [] (fun wc => ∃ (kq : Nat) (x1001_6 : Int) (x396001_6 : Int) (x396002_6 : Int), Aside0 (spec_l20Deed.j0 kq s0_0 x1001_6 (wrap64 ((rd y387 t390) + (wrap64 ((wrap64 (Int.tdiv t393 59)) * 5)))) x396001_6 x396002_6 = some (r1, r2, r3, r4)) ∧ Aside0 (kq ≤ k) ∧ Aside0 (wc.heap[gb385]? = some (.cells #[(.slice A1_0 l1_0.length c1_0), .int .i64 a1_1, (.slice A1_2 l1_2.length c1_2)] 26 (0, 0))) ∧ Aside0 (wc.heap[gb386]? = some (.cells #[.int .i64 0, .int .i64 0, .int .i64 0] 81 (0, 0))) ∧ Aside0 (wc.heap[gb395]? = some (.cells #[.int .i64 (wrap64 ((rd y387 t390) + (wrap64 ((wrap64 (Int.tdiv t393 59)) * 5)))), .int .i64 x396001_6, .int .i64 x396002_6] 81 (0, 0))) ∧ Aside0 (IsS73 w0 wc g s0_0 x1001_6) ∧ Aside0 (KeepBut w wc g none) ∧ Aside0 (Below w0.heap.size w0 wc))
   case first =>
    have H := HC7.out
    clear HC7
    by_cases c26 : (wrap64 ((rd y387 t390) + (wrap64 ((wrap64 (Int.tdiv t393 59)) * 5)))) = 0
    ·rw [if_pos c26] at H
     have c26b0 : ((wrap64 ((rd y387 t390) + (wrap64 ((wrap64 (Int.tdiv t393 59)) * 5)))) == 0) = true := beq_iff_eq.mpr c26
     have c26b1 : ((wrap64 ((rd y387 t390) + (wrap64 ((wrap64 (Int.tdiv t393 59)) * 5)))) != 0) = false := bne_eq_false_iff_eq.mpr c26
     clear c26
     (first | rw [c26b0] | (simp only [i64_w, i32_w]; rw [c26b0]) | skip)
     obtain ⟨ji27, hji27⟩ : ∃ j_ : Int, (mx (l1_0.length : Int) 1) = j_ := ⟨_, rfl⟩
     replace H : ((spec_l20Rd_pick.f k s0_0 t394 (ji27)).bind fun bt396 => ((spec_l20Rd_pick.f k s0_0 bt396.2 (ji27)).bind fun bt398 => (spec_l20Deed.j0 k s0_0 bt398.2 (wrap64 ((rd y387 t390) + (wrap64 ((wrap64 (Int.tdiv t393 59)) * 5)))) bt396.1 bt398.1))) = some (r1, r2, r3, r4) := by first | (rw [hji27] at H; exact H) | (simp only [hji27] at H ⊢; exact H)
     (try (have hji27l : 1 ≤ ji27 := by (rw [← hji27]; unfold mx; (repeat' split) <;> omega)))
     (try (have hji27m : 0 ≤ ji27 := by omega))
     have hji27_ : (if (l1_0.length : Int) < 1 then 1 else (l1_0.length : Int)) = ji27 := hji27
     replace H := Option.bind_eq_some_iff.mp H
     obtain ⟨⟨t396, t397⟩, A280, H⟩ := H
     replace H : ((spec_l20Rd_pick.f k s0_0 t397 (ji27)).bind fun bt398 => (spec_l20Deed.j0 k s0_0 bt398.2 (wrap64 ((rd y387 t390) + (wrap64 ((wrap64 (Int.tdiv t393 59)) * 5)))) t396 bt398.1)) = some (r1, r2, r3, r4) := H
     have A28 := Aside0.mk A280
     clear A280
     replace H := Option.bind_eq_some_iff.mp H
     obtain ⟨⟨t398, t399⟩, A300, H⟩ := H
     replace H : (spec_l20Deed.j0 k s0_0 t399 (wrap64 ((rd y387 t390) + (wrap64 ((wrap64 (Int.tdiv t393 59)) * 5)))) t396 t398) = some (r1, r2, r3, r4) := H
     have A30 := Aside0.mk A300
     clear A300
     have H' := Aside0.mk H
     clear H
     have hnb31 := NB385_386.out
     have hnc31 := NB386_385.out
     have hnb32 := NB385_395.out
     have hnc32 := NB395_385.out
     have hnb33 := NB385_0.out
     have hnc33 := NB0_385.out
     have hcz34_0 : w17.cell? ⟨gb385, 0, none⟩ = some (.slice A1_0 l1_0.length c1_0) := (blk_cell BK385.out 0).trans rfl
     have hcz34_1 : w17.cell? ⟨gb385, 1, none⟩ = some (.int .i64 a1_1) := (blk_cell BK385.out 1).trans rfl
     have hcz34_2 : w17.cell? ⟨gb385, 2, none⟩ = some (.slice A1_2 l1_2.length c1_2) := (blk_cell BK385.out 2).trans rfl
     have hfz34_0 := blk_frozen BK385.out 0
     have hfz34_1 := blk_frozen BK385.out 1
     have hfz34_2 := blk_frozen BK385.out 2
     go_wp2_with (first | ((with_reducible refine gate_callee (f := 62) rfl ?_); refine goesL_ (some 26) rfl rfl Try.func62 (by kernel_rfl) rfl #[.pointer (some ⟨g, 0, none⟩), .int .i64 ji27] rfl (by (try simp only [List.map_toArray, List.map_cons, List.map_nil]); first | done | (simp only [hji27]; rfl) | rfl | (simp only [List.length_drop, List.length_take]; rfl)) ?_; (with_reducible refine (spec_l20Rd_pick.calls k g s0_0 t394 ji27 t396 t397 w0 _ ?side1 ?side2 A28.out).mono ?_); (case side1 => exact IsS73.q HI0.out); (case side2 => exact hbqs HB.out (IsS73.ge HI0.out)); rintro e w35 ⟨rfl, hi, hb, hk⟩; refine ⟨_, rfl, ?_⟩; have n0_ := Aside0.mk (KeepBut.blk hk (g' := gb385) (o := .cells #[.slice A1_0 l1_0.length c1_0, .int .i64 a1_1, .slice A1_2 l1_2.length c1_2] 26 (0, 0)) (by refine bkq ?_; refine blk_far ?_ NB385_395.out _; refine bkq ?_; refine blk_far ?_ NB385_395.out _; refine bkq ?_; refine blk_far ?_ NB385_395.out _; refine bkq ?_; exact BK385.out) NB385_0.out (by simp)); have n1_ := Aside0.mk (KeepBut.blk hk (g' := gb386) (o := .cells #[.int .i64 0, .int .i64 0, .int .i64 0] 81 (0, 0)) (by refine bkq ?_; refine blk_far ?_ NB386_395.out _; refine bkq ?_; refine blk_far ?_ NB386_395.out _; refine bkq ?_; refine blk_far ?_ NB386_395.out _; refine bkq ?_; exact BK386.out) NB386_0.out (by simp)); have n2_ := Aside0.mk (Kd.R_mono (Kd.R_keep (IsS73.apart (show IsS73 w0 _ g s0_0 t394 from IsS73.q HI0.out) (roq (Kd.R_mono (Kd.R_far (p := ⟨gb395, 2, none⟩) (Kd.R_far (p := ⟨gb395, 1, none⟩) (Kd.R_far (p := ⟨gb395, 0, none⟩) (Kd.R_types HO389.out BK395.out (by decide)) (fun _ hk => hk.2) (.int .i64 (wrap64 ((rd y387 t390) + (wrap64 ((wrap64 (Int.tdiv t393 59)) * 5)))))) (fun _ hk => hk.2) (.int .i64 0)) (fun _ hk => hk.2) (.int .i64 0)) (fun _ h_ => h_.1))) (by decide)) hk (fun _ h => h.2)) (fun _ h => h.1)); have n3_ := Aside0.mk (KeepBut.blk hk (g' := gb395) (o := .cells #[.int .i64 (wrap64 ((rd y387 t390) + (wrap64 ((wrap64 (Int.tdiv t393 59)) * 5)))), .int .i64 0, .int .i64 0] 81 (0, 0)) (by refine bkq ?_; refine blk_put (cs := #[.int .i64 (wrap64 ((rd y387 t390) + (wrap64 ((wrap64 (Int.tdiv t393 59)) * 5)))), .int .i64 0, .int .i64 0]) ?_ 2 _ rfl; refine bkq ?_; refine blk_put (cs := #[.int .i64 (wrap64 ((rd y387 t390) + (wrap64 ((wrap64 (Int.tdiv t393 59)) * 5)))), .int .i64 0, .int .i64 0]) ?_ 1 _ rfl; refine bkq ?_; refine blk_put (cs := #[.int .i64 0, .int .i64 0, .int .i64 0]) ?_ 0 _ rfl; refine bkq ?_; exact BK395.out) NB395_0.out (by simp)); have n4_ := Aside0.mk (KeepBut.trans (hkqa HK.out) hk (.inl rfl)); have n5_ := Aside0.mk (hb); have n6_ := Aside0.mk (hi); clear BK385 BK386 HO389 BK395 HK HB HI0; revert n0_ n1_ n2_ n3_ n4_ n5_ n6_; intro BK385 BK386 HO389 BK395 HK HB HI0; (try clear hb); (try clear hb2); (try clear hk); (try clear hi); have hnb36 := NB395_386.out; have hnc36 := NB386_395.out; have hnb37 := NB395_0.out; have hnc37 := NB0_395.out; have hcz38_0 : w35.cell? ⟨gb395, 0, none⟩ = some (.int .i64 (wrap64 ((rd y387 t390) + (wrap64 ((wrap64 (Int.tdiv t393 59)) * 5))))) := (blk_cell BK395.out 0).trans rfl; have hcz38_1 : w35.cell? ⟨gb395, 1, none⟩ = some (.int .i64 0) := (blk_cell BK395.out 1).trans rfl; have hcz38_2 : w35.cell? ⟨gb395, 2, none⟩ = some (.int .i64 0) := (blk_cell BK395.out 2).trans rfl; have hfz38_0 := blk_frozen BK395.out 0; have hfz38_1 := blk_frozen BK395.out 1; have hfz38_2 := blk_frozen BK395.out 2; have hcz39_0 : w35.cell? ⟨gb385, 0, none⟩ = some (.slice A1_0 l1_0.length c1_0) := (blk_cell BK385.out 0).trans rfl; have hcz39_1 : w35.cell? ⟨gb385, 1, none⟩ = some (.int .i64 a1_1) := (blk_cell BK385.out 1).trans rfl; have hcz39_2 : w35.cell? ⟨gb385, 2, none⟩ = some (.slice A1_2 l1_2.length c1_2) := (blk_cell BK385.out 2).trans rfl; have hfz39_0 := blk_frozen BK385.out 0; have hfz39_1 := blk_frozen BK385.out 1; have hfz39_2 := blk_frozen BK385.out 2) | ((with_reducible refine gate_callee (f := 62) rfl ?_); refine goesL_ (some 33) rfl rfl Try.func62 (by kernel_rfl) rfl #[.pointer (some ⟨g, 0, none⟩), .int .i64 ji27] rfl (by (try simp only [List.map_toArray, List.map_cons, List.map_nil]); first | done | (simp only [hji27]; rfl) | rfl | (simp only [List.length_drop, List.length_take]; rfl)) ?_; (with_reducible refine (spec_l20Rd_pick.calls k g s0_0 t397 ji27 t398 t399 w0 _ ?side1 ?side2 A30.out).mono ?_); (case side1 => exact IsS73.q HI0.out); (case side2 => exact hbqs HB.out (IsS73.ge HI0.out)); rintro e w40 ⟨rfl, hi, hb, hk⟩; refine ⟨_, rfl, ?_⟩; have n0_ := Aside0.mk (KeepBut.blk hk (g' := gb385) (o := .cells #[.slice A1_0 l1_0.length c1_0, .int .i64 a1_1, .slice A1_2 l1_2.length c1_2] 26 (0, 0)) (by refine bkq ?_; refine blk_far ?_ NB385_395.out _; refine bkq ?_; exact BK385.out) NB385_0.out (by simp)); have n1_ := Aside0.mk (KeepBut.blk hk (g' := gb386) (o := .cells #[.int .i64 0, .int .i64 0, .int .i64 0] 81 (0, 0)) (by refine bkq ?_; refine blk_far ?_ NB386_395.out _; refine bkq ?_; exact BK386.out) NB386_0.out (by simp)); have n2_ := Aside0.mk (Kd.R_mono (Kd.R_keep (IsS73.apart (show IsS73 w0 _ g s0_0 t397 from IsS73.q HI0.out) (roq (Kd.R_mono (Kd.R_far (p := ⟨gb395, 1, none⟩) (Kd.R_types HO389.out BK395.out (by decide)) (fun _ hk => hk.2) (.int .i64 t396)) (fun _ h_ => h_.1))) (by decide)) hk (fun _ h => h.2)) (fun _ h => h.1)); have n3_ := Aside0.mk (KeepBut.blk hk (g' := gb395) (o := .cells #[.int .i64 (wrap64 ((rd y387 t390) + (wrap64 ((wrap64 (Int.tdiv t393 59)) * 5)))), .int .i64 t396, .int .i64 0] 81 (0, 0)) (by refine bkq ?_; refine blk_put (cs := #[.int .i64 (wrap64 ((rd y387 t390) + (wrap64 ((wrap64 (Int.tdiv t393 59)) * 5)))), .int .i64 0, .int .i64 0]) ?_ 1 _ rfl; refine bkq ?_; exact BK395.out) NB395_0.out (by simp)); have n4_ := Aside0.mk (KeepBut.trans (hkqa HK.out) hk (.inl rfl)); have n5_ := Aside0.mk (hb); have n6_ := Aside0.mk (hi); clear BK385 BK386 HO389 BK395 HK HB HI0; revert n0_ n1_ n2_ n3_ n4_ n5_ n6_; intro BK385 BK386 HO389 BK395 HK HB HI0; (try clear hb); (try clear hb2); (try clear hk); (try clear hi); have hcz41_0 : w40.cell? ⟨gb395, 0, none⟩ = some (.int .i64 (wrap64 ((rd y387 t390) + (wrap64 ((wrap64 (Int.tdiv t393 59)) * 5))))) := (blk_cell BK395.out 0).trans rfl; have hcz41_1 : w40.cell? ⟨gb395, 1, none⟩ = some (.int .i64 t396) := (blk_cell BK395.out 1).trans rfl; have hcz41_2 : w40.cell? ⟨gb395, 2, none⟩ = some (.int .i64 0) := (blk_cell BK395.out 2).trans rfl; have hfz41_0 := blk_frozen BK395.out 0; have hfz41_1 := blk_frozen BK395.out 1; have hfz41_2 := blk_frozen BK395.out 2))
     go_meet
     case rel => exact ⟨_, (t399), (t396), (t398), H', ⟨by first | omega | exact Nat.le_refl _⟩, ⟨by refine bkq ?_; refine blk_far ?_ NB385_395.out _; refine bkq ?_; exact BK385.out⟩, ⟨by refine bkq ?_; refine blk_far ?_ NB386_395.out _; refine bkq ?_; exact BK386.out⟩, ⟨by refine bkq ?_; refine blk_put (cs := #[.int .i64 (wrap64 ((rd y387 t390) + (wrap64 ((wrap64 (Int.tdiv t393 59)) * 5)))), .int .i64 t396, .int .i64 0]) ?_ 2 _ rfl; refine bkq ?_; exact BK395.out⟩, ⟨IsS73.q HI0.out⟩, ⟨hkqa HK.out⟩, ⟨hbqs HB.out (IsS73.ge HI0.out)⟩⟩
    ·rw [if_neg c26] at H
     have c26b0 : ((wrap64 ((rd y387 t390) + (wrap64 ((wrap64 (Int.tdiv t393 59)) * 5)))) == 0) = false := beq_eq_false_iff_ne.mpr c26
     have c26b1 : ((wrap64 ((rd y387 t390) + (wrap64 ((wrap64 (Int.tdiv t393 59)) * 5)))) != 0) = true := bne_iff_ne.mpr c26
     (first | rw [c26b0] | (simp only [i64_w, i32_w]; rw [c26b0]) | skip)
     by_cases c42 : (wrap64 ((rd y387 t390) + (wrap64 ((wrap64 (Int.tdiv t393 59)) * 5)))) = 1
     ·rw [if_pos c42] at H
      have c42b0 : ((wrap64 ((rd y387 t390) + (wrap64 ((wrap64 (Int.tdiv t393 59)) * 5)))) == 1) = true := beq_iff_eq.mpr c42
      have c42b1 : ((wrap64 ((rd y387 t390) + (wrap64 ((wrap64 (Int.tdiv t393 59)) * 5)))) != 1) = false := bne_eq_false_iff_eq.mpr c42
      clear c42
      obtain ⟨ji43, hji43⟩ : ∃ j_ : Int, (mx (l1_0.length : Int) 1) = j_ := ⟨_, rfl⟩
      replace H : ((spec_l20Rd_pick.f k s0_0 t394 (ji43)).bind fun bt400 => (spec_l20Deed.j0 k s0_0 bt400.2 (wrap64 ((rd y387 t390) + (wrap64 ((wrap64 (Int.tdiv t393 59)) * 5)))) bt400.1 0)) = some (r1, r2, r3, r4) := by first | (rw [hji43] at H; exact H) | (simp only [hji43] at H ⊢; exact H)
      (try (have hji43l : 1 ≤ ji43 := by (rw [← hji43]; unfold mx; (repeat' split) <;> omega)))
      (try (have hji43m : 0 ≤ ji43 := by omega))
      have hji43_ : (if (l1_0.length : Int) < 1 then 1 else (l1_0.length : Int)) = ji43 := hji43
      replace H := Option.bind_eq_some_iff.mp H
      obtain ⟨⟨t400, t401⟩, A440, H⟩ := H
      replace H : (spec_l20Deed.j0 k s0_0 t401 (wrap64 ((rd y387 t390) + (wrap64 ((wrap64 (Int.tdiv t393 59)) * 5)))) t400 0) = some (r1, r2, r3, r4) := H
      have A44 := Aside0.mk A440
      clear A440
      have H' := Aside0.mk H
      clear H
      have hnb45 := NB385_386.out
      have hnc45 := NB386_385.out
      have hnb46 := NB385_395.out
      have hnc46 := NB395_385.out
      have hnb47 := NB385_0.out
      have hnc47 := NB0_385.out
      have hcz48_0 : w17.cell? ⟨gb385, 0, none⟩ = some (.slice A1_0 l1_0.length c1_0) := (blk_cell BK385.out 0).trans rfl
      have hcz48_1 : w17.cell? ⟨gb385, 1, none⟩ = some (.int .i64 a1_1) := (blk_cell BK385.out 1).trans rfl
      have hcz48_2 : w17.cell? ⟨gb385, 2, none⟩ = some (.slice A1_2 l1_2.length c1_2) := (blk_cell BK385.out 2).trans rfl
      have hfz48_0 := blk_frozen BK385.out 0
      have hfz48_1 := blk_frozen BK385.out 1
      have hfz48_2 := blk_frozen BK385.out 2
      go_wp2_with (first | ((with_reducible refine gate_callee (f := 62) rfl ?_); refine goesL_ (some 42) rfl rfl Try.func62 (by kernel_rfl) rfl #[.pointer (some ⟨g, 0, none⟩), .int .i64 ji43] rfl (by (try simp only [List.map_toArray, List.map_cons, List.map_nil]); first | done | (simp only [hji43]; rfl) | rfl | (simp only [List.length_drop, List.length_take]; rfl)) ?_; (with_reducible refine (spec_l20Rd_pick.calls k g s0_0 t394 ji43 t400 t401 w0 _ ?side1 ?side2 A44.out).mono ?_); (case side1 => exact IsS73.q HI0.out); (case side2 => exact hbqs HB.out (IsS73.ge HI0.out)); rintro e w49 ⟨rfl, hi, hb, hk⟩; refine ⟨_, rfl, ?_⟩; have n0_ := Aside0.mk (KeepBut.blk hk (g' := gb385) (o := .cells #[.slice A1_0 l1_0.length c1_0, .int .i64 a1_1, .slice A1_2 l1_2.length c1_2] 26 (0, 0)) (by refine bkq ?_; refine blk_far ?_ NB385_395.out _; refine bkq ?_; refine blk_far ?_ NB385_395.out _; refine bkq ?_; refine blk_far ?_ NB385_395.out _; refine bkq ?_; exact BK385.out) NB385_0.out (by simp)); have n1_ := Aside0.mk (KeepBut.blk hk (g' := gb386) (o := .cells #[.int .i64 0, .int .i64 0, .int .i64 0] 81 (0, 0)) (by refine bkq ?_; refine blk_far ?_ NB386_395.out _; refine bkq ?_; refine blk_far ?_ NB386_395.out _; refine bkq ?_; refine blk_far ?_ NB386_395.out _; refine bkq ?_; exact BK386.out) NB386_0.out (by simp)); have n2_ := Aside0.mk (Kd.R_mono (Kd.R_keep (IsS73.apart (show IsS73 w0 _ g s0_0 t394 from IsS73.q HI0.out) (roq (Kd.R_mono (Kd.R_far (p := ⟨gb395, 2, none⟩) (Kd.R_far (p := ⟨gb395, 1, none⟩) (Kd.R_far (p := ⟨gb395, 0, none⟩) (Kd.R_types HO389.out BK395.out (by decide)) (fun _ hk => hk.2) (.int .i64 (wrap64 ((rd y387 t390) + (wrap64 ((wrap64 (Int.tdiv t393 59)) * 5)))))) (fun _ hk => hk.2) (.int .i64 0)) (fun _ hk => hk.2) (.int .i64 0)) (fun _ h_ => h_.1))) (by decide)) hk (fun _ h => h.2)) (fun _ h => h.1)); have n3_ := Aside0.mk (KeepBut.blk hk (g' := gb395) (o := .cells #[.int .i64 (wrap64 ((rd y387 t390) + (wrap64 ((wrap64 (Int.tdiv t393 59)) * 5)))), .int .i64 0, .int .i64 0] 81 (0, 0)) (by refine bkq ?_; refine blk_put (cs := #[.int .i64 (wrap64 ((rd y387 t390) + (wrap64 ((wrap64 (Int.tdiv t393 59)) * 5)))), .int .i64 0, .int .i64 0]) ?_ 2 _ rfl; refine bkq ?_; refine blk_put (cs := #[.int .i64 (wrap64 ((rd y387 t390) + (wrap64 ((wrap64 (Int.tdiv t393 59)) * 5)))), .int .i64 0, .int .i64 0]) ?_ 1 _ rfl; refine bkq ?_; refine blk_put (cs := #[.int .i64 0, .int .i64 0, .int .i64 0]) ?_ 0 _ rfl; refine bkq ?_; exact BK395.out) NB395_0.out (by simp)); have n4_ := Aside0.mk (KeepBut.trans (hkqa HK.out) hk (.inl rfl)); have n5_ := Aside0.mk (hb); have n6_ := Aside0.mk (hi); clear BK385 BK386 HO389 BK395 HK HB HI0; revert n0_ n1_ n2_ n3_ n4_ n5_ n6_; intro BK385 BK386 HO389 BK395 HK HB HI0; (try clear hb); (try clear hb2); (try clear hk); (try clear hi); have hnb50 := NB395_386.out; have hnc50 := NB386_395.out; have hnb51 := NB395_0.out; have hnc51 := NB0_395.out; have hcz52_0 : w49.cell? ⟨gb395, 0, none⟩ = some (.int .i64 (wrap64 ((rd y387 t390) + (wrap64 ((wrap64 (Int.tdiv t393 59)) * 5))))) := (blk_cell BK395.out 0).trans rfl; have hcz52_1 : w49.cell? ⟨gb395, 1, none⟩ = some (.int .i64 0) := (blk_cell BK395.out 1).trans rfl; have hcz52_2 : w49.cell? ⟨gb395, 2, none⟩ = some (.int .i64 0) := (blk_cell BK395.out 2).trans rfl; have hfz52_0 := blk_frozen BK395.out 0; have hfz52_1 := blk_frozen BK395.out 1; have hfz52_2 := blk_frozen BK395.out 2))
      go_meet
      case rel => exact ⟨_, (t401), (t400), (0), H', ⟨by first | omega | exact Nat.le_refl _⟩, ⟨by refine bkq ?_; refine blk_far ?_ NB385_395.out _; refine bkq ?_; exact BK385.out⟩, ⟨by refine bkq ?_; refine blk_far ?_ NB386_395.out _; refine bkq ?_; exact BK386.out⟩, ⟨by refine bkq ?_; refine blk_put (cs := #[.int .i64 (wrap64 ((rd y387 t390) + (wrap64 ((wrap64 (Int.tdiv t393 59)) * 5)))), .int .i64 0, .int .i64 0]) ?_ 1 _ rfl; refine bkq ?_; exact BK395.out⟩, ⟨IsS73.q HI0.out⟩, ⟨hkqa HK.out⟩, ⟨hbqs HB.out (IsS73.ge HI0.out)⟩⟩
     ·rw [if_neg c42] at H
      have c42b0 : ((wrap64 ((rd y387 t390) + (wrap64 ((wrap64 (Int.tdiv t393 59)) * 5)))) == 1) = false := beq_eq_false_iff_ne.mpr c42
      have c42b1 : ((wrap64 ((rd y387 t390) + (wrap64 ((wrap64 (Int.tdiv t393 59)) * 5)))) != 1) = true := bne_iff_ne.mpr c42
      by_cases c53 : (wrap64 ((rd y387 t390) + (wrap64 ((wrap64 (Int.tdiv t393 59)) * 5)))) = 3
      ·rw [if_pos c53] at H
       have c53b0 : ((wrap64 ((rd y387 t390) + (wrap64 ((wrap64 (Int.tdiv t393 59)) * 5)))) == 3) = true := beq_iff_eq.mpr c53
       have c53b1 : ((wrap64 ((rd y387 t390) + (wrap64 ((wrap64 (Int.tdiv t393 59)) * 5)))) != 3) = false := bne_eq_false_iff_eq.mpr c53
       clear c53
       replace H := Option.bind_eq_some_iff.mp H
       obtain ⟨⟨t402, t403⟩, A540, H⟩ := H
       replace H : (spec_l20Deed.j0 k s0_0 t403 (wrap64 ((rd y387 t390) + (wrap64 ((wrap64 (Int.tdiv t393 59)) * 5)))) (wrap64 (3 + t402)) 0) = some (r1, r2, r3, r4) := H
       have A54 := Aside0.mk A540
       clear A540
       have H' := Aside0.mk H
       clear H
       go_wp2_with (first | ((with_reducible refine gate_callee (f := 62) rfl ?_); refine goesL_ (some 47) rfl rfl Try.func62 (by kernel_rfl) rfl #[.pointer (some ⟨g, 0, none⟩), .int .i64 3] rfl mpq ?_; (with_reducible refine (spec_l20Rd_pick.calls k g s0_0 t394 3 t402 t403 w0 _ ?side1 ?side2 A54.out).mono ?_); (case side1 => exact IsS73.q HI0.out); (case side2 => exact hbqs HB.out (IsS73.ge HI0.out)); rintro e w55 ⟨rfl, hi, hb, hk⟩; refine ⟨_, rfl, ?_⟩; have n0_ := Aside0.mk (KeepBut.blk hk (g' := gb385) (o := .cells #[.slice A1_0 l1_0.length c1_0, .int .i64 a1_1, .slice A1_2 l1_2.length c1_2] 26 (0, 0)) (by refine bkq ?_; refine blk_far ?_ NB385_395.out _; refine bkq ?_; refine blk_far ?_ NB385_395.out _; refine bkq ?_; refine blk_far ?_ NB385_395.out _; refine bkq ?_; exact BK385.out) NB385_0.out (by simp)); have n1_ := Aside0.mk (KeepBut.blk hk (g' := gb386) (o := .cells #[.int .i64 0, .int .i64 0, .int .i64 0] 81 (0, 0)) (by refine bkq ?_; refine blk_far ?_ NB386_395.out _; refine bkq ?_; refine blk_far ?_ NB386_395.out _; refine bkq ?_; refine blk_far ?_ NB386_395.out _; refine bkq ?_; exact BK386.out) NB386_0.out (by simp)); have n2_ := Aside0.mk (Kd.R_mono (Kd.R_keep (IsS73.apart (show IsS73 w0 _ g s0_0 t394 from IsS73.q HI0.out) (roq (Kd.R_mono (Kd.R_far (p := ⟨gb395, 2, none⟩) (Kd.R_far (p := ⟨gb395, 1, none⟩) (Kd.R_far (p := ⟨gb395, 0, none⟩) (Kd.R_types HO389.out BK395.out (by decide)) (fun _ hk => hk.2) (.int .i64 (wrap64 ((rd y387 t390) + (wrap64 ((wrap64 (Int.tdiv t393 59)) * 5)))))) (fun _ hk => hk.2) (.int .i64 0)) (fun _ hk => hk.2) (.int .i64 0)) (fun _ h_ => h_.1))) (by decide)) hk (fun _ h => h.2)) (fun _ h => h.1)); have n3_ := Aside0.mk (KeepBut.blk hk (g' := gb395) (o := .cells #[.int .i64 (wrap64 ((rd y387 t390) + (wrap64 ((wrap64 (Int.tdiv t393 59)) * 5)))), .int .i64 0, .int .i64 0] 81 (0, 0)) (by refine bkq ?_; refine blk_put (cs := #[.int .i64 (wrap64 ((rd y387 t390) + (wrap64 ((wrap64 (Int.tdiv t393 59)) * 5)))), .int .i64 0, .int .i64 0]) ?_ 2 _ rfl; refine bkq ?_; refine blk_put (cs := #[.int .i64 (wrap64 ((rd y387 t390) + (wrap64 ((wrap64 (Int.tdiv t393 59)) * 5)))), .int .i64 0, .int .i64 0]) ?_ 1 _ rfl; refine bkq ?_; refine blk_put (cs := #[.int .i64 0, .int .i64 0, .int .i64 0]) ?_ 0 _ rfl; refine bkq ?_; exact BK395.out) NB395_0.out (by simp)); have n4_ := Aside0.mk (KeepBut.trans (hkqa HK.out) hk (.inl rfl)); have n5_ := Aside0.mk (hb); have n6_ := Aside0.mk (hi); clear BK385 BK386 HO389 BK395 HK HB HI0; revert n0_ n1_ n2_ n3_ n4_ n5_ n6_; intro BK385 BK386 HO389 BK395 HK HB HI0; (try clear hb); (try clear hb2); (try clear hk); (try clear hi); have hnb56 := NB395_385.out; have hnc56 := NB385_395.out; have hnb57 := NB395_386.out; have hnc57 := NB386_395.out; have hnb58 := NB395_0.out; have hnc58 := NB0_395.out; have hcz59_0 : w55.cell? ⟨gb395, 0, none⟩ = some (.int .i64 (wrap64 ((rd y387 t390) + (wrap64 ((wrap64 (Int.tdiv t393 59)) * 5))))) := (blk_cell BK395.out 0).trans rfl; have hcz59_1 : w55.cell? ⟨gb395, 1, none⟩ = some (.int .i64 0) := (blk_cell BK395.out 1).trans rfl; have hcz59_2 : w55.cell? ⟨gb395, 2, none⟩ = some (.int .i64 0) := (blk_cell BK395.out 2).trans rfl; have hfz59_0 := blk_frozen BK395.out 0; have hfz59_1 := blk_frozen BK395.out 1; have hfz59_2 := blk_frozen BK395.out 2))
       go_meet
       case rel => exact ⟨_, (t403), (wrap64 (3 + t402)), (0), H', ⟨by first | omega | exact Nat.le_refl _⟩, ⟨by refine bkq ?_; refine blk_far ?_ NB385_395.out _; refine bkq ?_; exact BK385.out⟩, ⟨by refine bkq ?_; refine blk_far ?_ NB386_395.out _; refine bkq ?_; exact BK386.out⟩, ⟨by refine bkq ?_; refine blk_put (cs := #[.int .i64 (wrap64 ((rd y387 t390) + (wrap64 ((wrap64 (Int.tdiv t393 59)) * 5)))), .int .i64 0, .int .i64 0]) ?_ 1 _ rfl; refine bkq ?_; exact BK395.out⟩, ⟨IsS73.q HI0.out⟩, ⟨hkqa HK.out⟩, ⟨hbqs HB.out (IsS73.ge HI0.out)⟩⟩
      ·rw [if_neg c53] at H
       have c53b0 : ((wrap64 ((rd y387 t390) + (wrap64 ((wrap64 (Int.tdiv t393 59)) * 5)))) == 3) = false := beq_eq_false_iff_ne.mpr c53
       have c53b1 : ((wrap64 ((rd y387 t390) + (wrap64 ((wrap64 (Int.tdiv t393 59)) * 5)))) != 3) = true := bne_iff_ne.mpr c53
       have H' := Aside0.mk H
       clear H
       go_wp2
       go_meet
       case rel => exact ⟨_, (t394), (0), (0), H', ⟨by first | omega | exact Nat.le_refl _⟩, ⟨by refine bkq ?_; refine blk_far ?_ NB385_395.out _; refine bkq ?_; refine blk_far ?_ NB385_395.out _; refine bkq ?_; refine blk_far ?_ NB385_395.out _; refine bkq ?_; exact BK385.out⟩, ⟨by refine bkq ?_; refine blk_far ?_ NB386_395.out _; refine bkq ?_; refine blk_far ?_ NB386_395.out _; refine bkq ?_; refine blk_far ?_ NB386_395.out _; refine bkq ?_; exact BK386.out⟩, ⟨by refine bkq ?_; refine blk_put (cs := #[.int .i64 (wrap64 ((rd y387 t390) + (wrap64 ((wrap64 (Int.tdiv t393 59)) * 5)))), .int .i64 0, .int .i64 0]) ?_ 2 _ rfl; refine bkq ?_; refine blk_put (cs := #[.int .i64 (wrap64 ((rd y387 t390) + (wrap64 ((wrap64 (Int.tdiv t393 59)) * 5)))), .int .i64 0, .int .i64 0]) ?_ 1 _ rfl; refine bkq ?_; refine blk_put (cs := #[.int .i64 0, .int .i64 0, .int .i64 0]) ?_ 0 _ rfl; refine bkq ?_; exact BK395.out⟩, ⟨IsS73.q HI0.out⟩, ⟨hkqa HK.out⟩, ⟨hbqs HB.out (IsS73.ge HI0.out)⟩⟩
   case rest =>
    clear HC7
    try clear c1
    try clear c2
    try clear p2
    try clear c3
    try clear p3
    try clear q3
    try clear hx3
    try clear c4
    try clear c5
    try clear c6
    try clear p6
    try clear c22
    try clear c23
    try clear c24
    try clear c26
    try clear c26b0
    try clear c26b1
    try clear c29
    try clear c29b0
    try clear c31
    try clear c32
    try clear c33
    try clear c36
    try clear c37
    try clear p39
    try clear q39
    try clear hx39
    try clear c42
    try clear c42b0
    try clear c42b1
    try clear c45
    try clear c46
    try clear c47
    try clear c50
    try clear c51
    try clear c53
    try clear c53b0
    try clear c53b1
    try clear c56
    try clear c57
    try clear c58
    try clear hcz25_0
    try clear hcz25_1
    try clear hcz25_2
    try clear hcz34_0
    try clear hcz34_1
    try clear hcz34_2
    try clear hcz38_0
    try clear hcz38_1
    try clear hcz38_2
    try clear hcz39_0
    try clear hcz39_1
    try clear hcz39_2
    try clear hcz41_0
    try clear hcz41_1
    try clear hcz41_2
    try clear hcz48_0
    try clear hcz48_1
    try clear hcz48_2
    try clear hcz52_0
    try clear hcz52_1
    try clear hcz52_2
    try clear hcz59_0
    try clear hcz59_1
    try clear hcz59_2
    try clear hfz25_0
    try clear hfz25_1
    try clear hfz25_2
    try clear hfz34_0
    try clear hfz34_1
    try clear hfz34_2
    try clear hfz38_0
    try clear hfz38_1
    try clear hfz38_2
    try clear hfz39_0
    try clear hfz39_1
    try clear hfz39_2
    try clear hfz41_0
    try clear hfz41_1
    try clear hfz41_2
    try clear hfz48_0
    try clear hfz48_1
    try clear hfz48_2
    try clear hfz52_0
    try clear hfz52_1
    try clear hfz52_2
    try clear hfz59_0
    try clear hfz59_1
    try clear hfz59_2
    try clear hx392_0
    try clear p392
    try clear q392
    obtain ⟨kq, x1001_6, x396001_6, x396002_6, HA, HJ6, BK385, BK386, BK395, HI0, HK, HB⟩ := hcut
    cases kq with
    | zero => exact absurd HA.out (by simp [spec_l20Deed.j0])
    | succ kj6 =>
     have H := HA.out
     clear HA
     simp only [spec_l20Deed.j0] at H
     replace H := Option.bind_eq_some_iff.mp H
     obtain ⟨⟨t404, t405⟩, A600, H⟩ := H
     replace H : (if t404 = true then ((spec_l20Rd_pick.f kj6 s0_0 t405 2).bind fun bt406 => (if bt406.1 = 0 then ((some (([(-1), 100] : List Int) : List Int)).bind fun y408 => ((spec_l20Rd_pick.f kj6 s0_0 bt406.2 2).bind fun bt411 => (if 0 ≤ bt411.1 then (if bt411.1 < (y408.length : Int) then (some ((wrap64 ((rd y387 t390) + (wrap64 ((wrap64 (Int.tdiv t393 59)) * 5)))), rd y408 bt411.1, x396002_6, bt411.2)) else (none)) else (none)))) else (some ((wrap64 ((rd y387 t390) + (wrap64 ((wrap64 (Int.tdiv t393 59)) * 5)))), x396001_6, 99, bt406.2)))) else (some ((wrap64 ((rd y387 t390) + (wrap64 ((wrap64 (Int.tdiv t393 59)) * 5)))), x396001_6, x396002_6, t405))) = some (r1, r2, r3, r4) := H
     have A60 := Aside0.mk A600
     clear A600
     by_cases c61 : t404 = true
     ·subst c61
      have H1 : ((spec_l20Rd_pick.f kj6 s0_0 t405 2).bind fun bt406 => (if bt406.1 = 0 then ((some (([(-1), 100] : List Int) : List Int)).bind fun y408 => ((spec_l20Rd_pick.f kj6 s0_0 bt406.2 2).bind fun bt411 => (if 0 ≤ bt411.1 then (if bt411.1 < (y408.length : Int) then (some ((wrap64 ((rd y387 t390) + (wrap64 ((wrap64 (Int.tdiv t393 59)) * 5)))), rd y408 bt411.1, x396002_6, bt411.2)) else (none)) else (none)))) else (some ((wrap64 ((rd y387 t390) + (wrap64 ((wrap64 (Int.tdiv t393 59)) * 5)))), x396001_6, 99, bt406.2)))) = some (r1, r2, r3, r4) := by rw [if_pos rfl] at H; exact H
      clear H
      have H := H1
      clear H1
      replace H := Option.bind_eq_some_iff.mp H
      obtain ⟨⟨t406, t407⟩, A620, H⟩ := H
      replace H : (if t406 = 0 then ((some (([(-1), 100] : List Int) : List Int)).bind fun y408 => ((spec_l20Rd_pick.f kj6 s0_0 t407 2).bind fun bt411 => (if 0 ≤ bt411.1 then (if bt411.1 < (y408.length : Int) then (some ((wrap64 ((rd y387 t390) + (wrap64 ((wrap64 (Int.tdiv t393 59)) * 5)))), rd y408 bt411.1, x396002_6, bt411.2)) else (none)) else (none)))) else (some ((wrap64 ((rd y387 t390) + (wrap64 ((wrap64 (Int.tdiv t393 59)) * 5)))), x396001_6, 99, t407))) = some (r1, r2, r3, r4) := H
      have A62 := Aside0.mk A620
      clear A620
      by_cases c63 : t406 = 0
      ·rw [if_pos c63] at H
       have c63b0 : (t406 == 0) = true := beq_iff_eq.mpr c63
       have c63b1 : (t406 != 0) = false := bne_eq_false_iff_eq.mpr c63
       clear c63
       obtain ⟨y408, hy408⟩ : ∃ y_ : List Int, y_ = (([(-1), 100] : List Int)) := ⟨_, rfl⟩
       replace H : ((spec_l20Rd_pick.f kj6 s0_0 t407 2).bind fun bt411 => (if 0 ≤ bt411.1 then (if bt411.1 < (y408.length : Int) then (some ((wrap64 ((rd y387 t390) + (wrap64 ((wrap64 (Int.tdiv t393 59)) * 5)))), rd y408 bt411.1, x396002_6, bt411.2)) else (none)) else (none))) = some (r1, r2, r3, r4) := by first | (rw [hy408]; with_reducible exact H) | (have H2_ := (Option.bind_some _ _).symm.trans H; rw [hy408]; with_reducible exact H2_) | (have H2_ := (Option.bind_some _ _).symm.trans H; with_reducible exact H2_) | with_reducible exact H | (rw [hy408]; exact H) | exact H
       have Ny408 := Aside0.mk hy408
       clear hy408
       replace H := Option.bind_eq_some_iff.mp H
       obtain ⟨⟨t411, t412⟩, A640, H⟩ := H
       replace H : (if 0 ≤ t411 then (if t411 < (y408.length : Int) then (some ((wrap64 ((rd y387 t390) + (wrap64 ((wrap64 (Int.tdiv t393 59)) * 5)))), rd y408 t411, x396002_6, t412)) else (none)) else (none)) = some (r1, r2, r3, r4) := H
       have A64 := Aside0.mk A640
       clear A640
       by_cases c65 : 0 ≤ t411
       ·rw [if_pos c65] at H
        have c65b0 : decide (0 ≤ t411) = true := decide_eq_true c65
        clear c65
        by_cases c66 : t411 < (y408.length : Int)
        ·rw [if_pos c66] at H
         have c66b0 : decide (t411 < (y408.length : Int)) = true := decide_eq_true c66
         clear c66
         simp only [Option.some.injEq, Prod.mk.injEq] at H
         obtain ⟨rfl, rfl, rfl, rfl⟩ := H
         go_wp2_with (first | ((with_reducible refine gate_callee (f := 63) rfl ?_); refine goesL_ (some 51) rfl rfl Try.func63 (by kernel_rfl) rfl #[.pointer (some ⟨g, 0, none⟩), .int .i64 40] rfl mpq ?_; (with_reducible refine (spec_l20Rd_odd.calls kj6 g s0_0 x1001_6 40 true t405 w0 _ ?side1 ?side2 A60.out).mono ?_); (case side1 => exact IsS73.q HI0.out); (case side2 => exact hbqs HB.out (IsS73.ge HI0.out)); rintro e w67 ⟨rfl, hi, hb, hk⟩; refine ⟨_, rfl, ?_⟩; have n0_ := Aside0.mk (KeepBut.blk hk (bkq BK385.out) NB385_0.out (by simp)); have n1_ := Aside0.mk (KeepBut.blk hk (bkq BK386.out) NB386_0.out (by simp)); have n2_ := Aside0.mk (KeepBut.blk hk (bkq BK395.out) NB395_0.out (by simp)); have n3_ := Aside0.mk (KeepBut.trans (hkqa HK.out) hk (.inl rfl)); have n4_ := Aside0.mk (hb); have n5_ := Aside0.mk (hi); clear BK385 BK386 BK395 HK HB HI0; revert n0_ n1_ n2_ n3_ n4_ n5_; intro BK385 BK386 BK395 HK HB HI0; (try clear hb); (try clear hb2); (try clear hk); (try clear hi)) | ((with_reducible refine gate_callee (f := 62) rfl ?_); refine goesL_ (some 53) rfl rfl Try.func62 (by kernel_rfl) rfl #[.pointer (some ⟨g, 0, none⟩), .int .i64 2] rfl mpq ?_; (with_reducible refine (spec_l20Rd_pick.calls kj6 g s0_0 t405 2 t406 t407 w0 _ ?side1 ?side2 A62.out).mono ?_); (case side1 => exact IsS73.q HI0.out); (case side2 => exact hbqs HB.out (IsS73.ge HI0.out)); rintro e w68 ⟨rfl, hi, hb, hk⟩; refine ⟨_, rfl, ?_⟩; have n0_ := Aside0.mk (KeepBut.blk hk (bkq BK385.out) NB385_0.out (by simp)); have n1_ := Aside0.mk (KeepBut.blk hk (bkq BK386.out) NB386_0.out (by simp)); have n2_ := Aside0.mk (KeepBut.blk hk (bkq BK395.out) NB395_0.out (by simp)); have n3_ := Aside0.mk (KeepBut.trans (hkqa HK.out) hk (.inl rfl)); have n4_ := Aside0.mk (hb); have n5_ := Aside0.mk (hi); clear BK385 BK386 BK395 HK HB HI0; revert n0_ n1_ n2_ n3_ n4_ n5_; intro BK385 BK386 BK395 HK HB HI0; (try clear hb); (try clear hb2); (try clear hk); (try clear hi)) | ((with_reducible refine gate_dst (N := 57) rfl ?_); refine Kd.R_lit (Kd.int .i64) _ 3 ?hg (N := 57) ?hd (xs := ([(-1), 100] : List Int)) (inner := [.int .i64 (-1), .int .i64 100]) (ok := fun _ => True) (okp := fun _ => True) ?hr ?hp (fun _ hk => hk) trivial (Below.refl _ _) (Nat.le_refl _) (by simp) ?_; (case hd => rfl); (case hg => rfl); (case hr => first | (go_simp; done) | (go_simp; rfl)); (case hp => exact (Reps.one (show Kd.M (Kd.int .i64) _ _ _ (-1) [.int .i64 (-1)] from rfl) (Reps.one (show Kd.M (Kd.int .i64) _ _ _ 100 [.int .i64 100] from rfl) (Reps.none _ _)))); intro v409 w69 ho70 hb hg_ hnew_; clear hg_ hnew_; (first | rw [← Ny408.out] at ho70 | (simp only [Int.reduceToNat] at ho70; rw [← Ny408.out] at ho70)); have n0_ := Aside0.mk (Kd.R_lower ho70 (ksq (hkqa HK.out))); have n1_ := Aside0.mk (blk_below (bkq BK385.out) hb); have n2_ := Aside0.mk (blk_below (bkq BK386.out) hb); have n3_ := Aside0.mk (blk_below (bkq BK395.out) hb); have n4_ := Aside0.mk (IsS73.below (IsS73.q HI0.out) hb); have n5_ := Aside0.mk (KeepBut.trans (hkqa HK.out) (KeepBut.of_below hb g none) (.inl rfl)); have n6_ := Aside0.mk (below_step (hbqs HB.out (IsS73.ge HI0.out)) hb); clear BK385 BK386 BK395 HI0 HK HB; revert n0_ n1_ n2_ n3_ n4_ n5_ n6_; intro HO410 BK385 BK386 BK395 HI0 HK HB; clear hb ho70) | ((with_reducible refine gate_callee (f := 62) rfl ?_); refine goesL_ (some 59) rfl rfl Try.func62 (by kernel_rfl) rfl #[.pointer (some ⟨g, 0, none⟩), .int .i64 2] rfl mpq ?_; (with_reducible refine (spec_l20Rd_pick.calls kj6 g s0_0 t407 2 t411 t412 w0 _ ?side1 ?side2 A64.out).mono ?_); (case side1 => exact IsS73.q HI0.out); (case side2 => exact hbqs HB.out (IsS73.ge HI0.out)); rintro e w71 ⟨rfl, hi, hb, hk⟩; refine ⟨_, rfl, ?_⟩; have n0_ := Aside0.mk (KeepBut.blk hk (bkq BK385.out) NB385_0.out (by simp)); have n1_ := Aside0.mk (KeepBut.blk hk (bkq BK386.out) NB386_0.out (by simp)); have n2_ := Aside0.mk (KeepBut.blk hk (bkq BK395.out) NB395_0.out (by simp)); have n3_ := Aside0.mk (Kd.R_mono (Kd.R_keep (IsS73.apart (show IsS73 w0 _ g s0_0 t407 from IsS73.q HI0.out) (roq HO410.out) (by decide)) hk (fun _ h => h.2)) (fun _ h => h.1)); have n4_ := Aside0.mk (KeepBut.trans (hkqa HK.out) hk (.inl rfl)); have n5_ := Aside0.mk (hb); have n6_ := Aside0.mk (hi); clear BK385 BK386 BK395 HO410 HK HB HI0; revert n0_ n1_ n2_ n3_ n4_ n5_ n6_; intro BK385 BK386 BK395 HO410 HK HB HI0; (try clear hb); (try clear hb2); (try clear hk); (try clear hi); obtain ⟨Ao72, co72, eo72⟩ := Kd.R_slice HO410.out; subst eo72; have p413 : 0 ≤ (t411 : Int) := od; have q413 : t411 < (y408.length : Int) := od; obtain ⟨ad413, e413, hx413_0⟩ := Kd.at_int (Kd.R_reads' HO410.out).2.2 t411 p413 q413; cases e413; replace p413 := eq_true p413; replace q413 := eq_true q413; have hnb73 := NB395_385.out; have hnc73 := NB385_395.out; have hnb74 := NB395_386.out; have hnc74 := NB386_395.out; have hnb75 := NB395_0.out; have hnc75 := NB0_395.out; have hcz76_0 : w71.cell? ⟨gb395, 0, none⟩ = some (.int .i64 (wrap64 ((rd y387 t390) + (wrap64 ((wrap64 (Int.tdiv t393 59)) * 5))))) := (blk_cell BK395.out 0).trans rfl; have hcz76_1 : w71.cell? ⟨gb395, 1, none⟩ = some (.int .i64 x396001_6) := (blk_cell BK395.out 1).trans rfl; have hcz76_2 : w71.cell? ⟨gb395, 2, none⟩ = some (.int .i64 x396002_6) := (blk_cell BK395.out 2).trans rfl; have hfz76_0 := blk_frozen BK395.out 0; have hfz76_1 := blk_frozen BK395.out 1; have hfz76_2 := blk_frozen BK395.out 2; have hnb77 := NB386_385.out; have hnc77 := NB385_386.out; have hnb78 := NB386_0.out; have hnc78 := NB0_386.out; have hcz79_0 : w71.cell? ⟨gb386, 0, none⟩ = some (.int .i64 0) := (blk_cell BK386.out 0).trans rfl; have hcz79_1 : w71.cell? ⟨gb386, 1, none⟩ = some (.int .i64 0) := (blk_cell BK386.out 1).trans rfl; have hcz79_2 : w71.cell? ⟨gb386, 2, none⟩ = some (.int .i64 0) := (blk_cell BK386.out 2).trans rfl; have hfz79_0 := blk_frozen BK386.out 0; have hfz79_1 := blk_frozen BK386.out 1; have hfz79_2 := blk_frozen BK386.out 2))
         refine bodyPost_ret (results_cell_row rfl _ _ gb386 81 #[.int .i64 (wrap64 ((rd y387 t390) + (wrap64 ((wrap64 (Int.tdiv t393 59)) * 5)))), .int .i64 (rd y408 t411), .int .i64 x396002_6] (0, 0) _ rfl (by refine bkq ?_; refine blk_put (cs := #[.int .i64 (wrap64 ((rd y387 t390) + (wrap64 ((wrap64 (Int.tdiv t393 59)) * 5)))), .int .i64 (rd y408 t411), .int .i64 0]) ?_ 2 _ rfl; refine bkq ?_; refine blk_put (cs := #[.int .i64 (wrap64 ((rd y387 t390) + (wrap64 ((wrap64 (Int.tdiv t393 59)) * 5)))), .int .i64 0, .int .i64 0]) ?_ 1 _ rfl; refine bkq ?_; refine blk_put (cs := #[.int .i64 0, .int .i64 0, .int .i64 0]) ?_ 0 _ rfl; refine bkq ?_; refine blk_far ?_ NB386_395.out _; refine bkq ?_; exact BK386.out) Try.underlying81 rfl (by kernel_rfl)) rfl ?_
         exact ⟨by first | rfl | (simp [errW_none, errW_some] <;> rfl) | (simp [*, errW_none, errW_some] <;> rfl), IsS73.q HI0.out, hbqs HB.out (IsS73.ge HI0.out), hkqa HK.out⟩
        ·rw [if_neg c66] at H
         exact absurd H (by simp)
       ·rw [if_neg c65] at H
        exact absurd H (by simp)
      ·rw [if_neg c63] at H
       have c63b0 : (t406 == 0) = false := beq_eq_false_iff_ne.mpr c63
       have c63b1 : (t406 != 0) = true := bne_iff_ne.mpr c63
       simp only [Option.some.injEq, Prod.mk.injEq] at H
       obtain ⟨rfl, rfl, rfl, rfl⟩ := H
       go_wp2_with (first | ((with_reducible refine gate_callee (f := 63) rfl ?_); refine goesL_ (some 51) rfl rfl Try.func63 (by kernel_rfl) rfl #[.pointer (some ⟨g, 0, none⟩), .int .i64 40] rfl mpq ?_; (with_reducible refine (spec_l20Rd_odd.calls kj6 g s0_0 x1001_6 40 true t405 w0 _ ?side1 ?side2 A60.out).mono ?_); (case side1 => exact IsS73.q HI0.out); (case side2 => exact hbqs HB.out (IsS73.ge HI0.out)); rintro e w80 ⟨rfl, hi, hb, hk⟩; refine ⟨_, rfl, ?_⟩; have n0_ := Aside0.mk (KeepBut.blk hk (bkq BK385.out) NB385_0.out (by simp)); have n1_ := Aside0.mk (KeepBut.blk hk (bkq BK386.out) NB386_0.out (by simp)); have n2_ := Aside0.mk (KeepBut.blk hk (bkq BK395.out) NB395_0.out (by simp)); have n3_ := Aside0.mk (KeepBut.trans (hkqa HK.out) hk (.inl rfl)); have n4_ := Aside0.mk (hb); have n5_ := Aside0.mk (hi); clear BK385 BK386 BK395 HK HB HI0; revert n0_ n1_ n2_ n3_ n4_ n5_; intro BK385 BK386 BK395 HK HB HI0; (try clear hb); (try clear hb2); (try clear hk); (try clear hi)) | ((with_reducible refine gate_callee (f := 62) rfl ?_); refine goesL_ (some 53) rfl rfl Try.func62 (by kernel_rfl) rfl #[.pointer (some ⟨g, 0, none⟩), .int .i64 2] rfl mpq ?_; (with_reducible refine (spec_l20Rd_pick.calls kj6 g s0_0 t405 2 t406 t407 w0 _ ?side1 ?side2 A62.out).mono ?_); (case side1 => exact IsS73.q HI0.out); (case side2 => exact hbqs HB.out (IsS73.ge HI0.out)); rintro e w81 ⟨rfl, hi, hb, hk⟩; refine ⟨_, rfl, ?_⟩; have n0_ := Aside0.mk (KeepBut.blk hk (bkq BK385.out) NB385_0.out (by simp)); have n1_ := Aside0.mk (KeepBut.blk hk (bkq BK386.out) NB386_0.out (by simp)); have n2_ := Aside0.mk (KeepBut.blk hk (bkq BK395.out) NB395_0.out (by simp)); have n3_ := Aside0.mk (KeepBut.trans (hkqa HK.out) hk (.inl rfl)); have n4_ := Aside0.mk (hb); have n5_ := Aside0.mk (hi); clear BK385 BK386 BK395 HK HB HI0; revert n0_ n1_ n2_ n3_ n4_ n5_; intro BK385 BK386 BK395 HK HB HI0; (try clear hb); (try clear hb2); (try clear hk); (try clear hi); have hnb82 := NB395_385.out; have hnc82 := NB385_395.out; have hnb83 := NB395_386.out; have hnc83 := NB386_395.out; have hnb84 := NB395_0.out; have hnc84 := NB0_395.out; have hcz85_0 : w81.cell? ⟨gb395, 0, none⟩ = some (.int .i64 (wrap64 ((rd y387 t390) + (wrap64 ((wrap64 (Int.tdiv t393 59)) * 5))))) := (blk_cell BK395.out 0).trans rfl; have hcz85_1 : w81.cell? ⟨gb395, 1, none⟩ = some (.int .i64 x396001_6) := (blk_cell BK395.out 1).trans rfl; have hcz85_2 : w81.cell? ⟨gb395, 2, none⟩ = some (.int .i64 x396002_6) := (blk_cell BK395.out 2).trans rfl; have hfz85_0 := blk_frozen BK395.out 0; have hfz85_1 := blk_frozen BK395.out 1; have hfz85_2 := blk_frozen BK395.out 2; have hnb86 := NB386_385.out; have hnc86 := NB385_386.out; have hnb87 := NB386_0.out; have hnc87 := NB0_386.out; have hcz88_0 : w81.cell? ⟨gb386, 0, none⟩ = some (.int .i64 0) := (blk_cell BK386.out 0).trans rfl; have hcz88_1 : w81.cell? ⟨gb386, 1, none⟩ = some (.int .i64 0) := (blk_cell BK386.out 1).trans rfl; have hcz88_2 : w81.cell? ⟨gb386, 2, none⟩ = some (.int .i64 0) := (blk_cell BK386.out 2).trans rfl; have hfz88_0 := blk_frozen BK386.out 0; have hfz88_1 := blk_frozen BK386.out 1; have hfz88_2 := blk_frozen BK386.out 2))
       refine bodyPost_ret (results_cell_row rfl _ _ gb386 81 #[.int .i64 (wrap64 ((rd y387 t390) + (wrap64 ((wrap64 (Int.tdiv t393 59)) * 5)))), .int .i64 x396001_6, .int .i64 99] (0, 0) _ rfl (by refine bkq ?_; refine blk_put (cs := #[.int .i64 (wrap64 ((rd y387 t390) + (wrap64 ((wrap64 (Int.tdiv t393 59)) * 5)))), .int .i64 x396001_6, .int .i64 0]) ?_ 2 _ rfl; refine bkq ?_; refine blk_put (cs := #[.int .i64 (wrap64 ((rd y387 t390) + (wrap64 ((wrap64 (Int.tdiv t393 59)) * 5)))), .int .i64 0, .int .i64 0]) ?_ 1 _ rfl; refine bkq ?_; refine blk_put (cs := #[.int .i64 0, .int .i64 0, .int .i64 0]) ?_ 0 _ rfl; refine bkq ?_; refine blk_far ?_ NB386_395.out _; refine bkq ?_; exact BK386.out) Try.underlying81 rfl (by kernel_rfl)) rfl ?_
       exact ⟨by first | rfl | (simp [errW_none, errW_some] <;> rfl) | (simp [*, errW_none, errW_some] <;> rfl), IsS73.q HI0.out, hbqs HB.out (IsS73.ge HI0.out), hkqa HK.out⟩
     ·replace c61 := Bool.eq_false_iff.mpr c61
      subst c61
      have H1 : (some ((wrap64 ((rd y387 t390) + (wrap64 ((wrap64 (Int.tdiv t393 59)) * 5)))), x396001_6, x396002_6, t405)) = some (r1, r2, r3, r4) := by rw [if_neg (show ¬ (false = true) by decide)] at H; exact H
      clear H
      have H := H1
      clear H1
      simp only [Option.some.injEq, Prod.mk.injEq] at H
      obtain ⟨rfl, rfl, rfl, rfl⟩ := H
      go_wp2_with (first | ((with_reducible refine gate_callee (f := 63) rfl ?_); refine goesL_ (some 51) rfl rfl Try.func63 (by kernel_rfl) rfl #[.pointer (some ⟨g, 0, none⟩), .int .i64 40] rfl mpq ?_; (with_reducible refine (spec_l20Rd_odd.calls kj6 g s0_0 x1001_6 40 false t405 w0 _ ?side1 ?side2 A60.out).mono ?_); (case side1 => exact IsS73.q HI0.out); (case side2 => exact hbqs HB.out (IsS73.ge HI0.out)); rintro e w89 ⟨rfl, hi, hb, hk⟩; refine ⟨_, rfl, ?_⟩; have n0_ := Aside0.mk (KeepBut.blk hk (bkq BK385.out) NB385_0.out (by simp)); have n1_ := Aside0.mk (KeepBut.blk hk (bkq BK386.out) NB386_0.out (by simp)); have n2_ := Aside0.mk (KeepBut.blk hk (bkq BK395.out) NB395_0.out (by simp)); have n3_ := Aside0.mk (KeepBut.trans (hkqa HK.out) hk (.inl rfl)); have n4_ := Aside0.mk (hb); have n5_ := Aside0.mk (hi); clear BK385 BK386 BK395 HK HB HI0; revert n0_ n1_ n2_ n3_ n4_ n5_; intro BK385 BK386 BK395 HK HB HI0; (try clear hb); (try clear hb2); (try clear hk); (try clear hi); have hnb90 := NB395_385.out; have hnc90 := NB385_395.out; have hnb91 := NB395_386.out; have hnc91 := NB386_395.out; have hnb92 := NB395_0.out; have hnc92 := NB0_395.out; have hcz93_0 : w89.cell? ⟨gb395, 0, none⟩ = some (.int .i64 (wrap64 ((rd y387 t390) + (wrap64 ((wrap64 (Int.tdiv t393 59)) * 5))))) := (blk_cell BK395.out 0).trans rfl; have hcz93_1 : w89.cell? ⟨gb395, 1, none⟩ = some (.int .i64 x396001_6) := (blk_cell BK395.out 1).trans rfl; have hcz93_2 : w89.cell? ⟨gb395, 2, none⟩ = some (.int .i64 x396002_6) := (blk_cell BK395.out 2).trans rfl; have hfz93_0 := blk_frozen BK395.out 0; have hfz93_1 := blk_frozen BK395.out 1; have hfz93_2 := blk_frozen BK395.out 2; have hnb94 := NB386_385.out; have hnc94 := NB385_386.out; have hnb95 := NB386_0.out; have hnc95 := NB0_386.out; have hcz96_0 : w89.cell? ⟨gb386, 0, none⟩ = some (.int .i64 0) := (blk_cell BK386.out 0).trans rfl; have hcz96_1 : w89.cell? ⟨gb386, 1, none⟩ = some (.int .i64 0) := (blk_cell BK386.out 1).trans rfl; have hcz96_2 : w89.cell? ⟨gb386, 2, none⟩ = some (.int .i64 0) := (blk_cell BK386.out 2).trans rfl; have hfz96_0 := blk_frozen BK386.out 0; have hfz96_1 := blk_frozen BK386.out 1; have hfz96_2 := blk_frozen BK386.out 2))
      refine bodyPost_ret (results_cell_row rfl _ _ gb386 81 #[.int .i64 (wrap64 ((rd y387 t390) + (wrap64 ((wrap64 (Int.tdiv t393 59)) * 5)))), .int .i64 x396001_6, .int .i64 x396002_6] (0, 0) _ rfl (by refine bkq ?_; refine blk_put (cs := #[.int .i64 (wrap64 ((rd y387 t390) + (wrap64 ((wrap64 (Int.tdiv t393 59)) * 5)))), .int .i64 x396001_6, .int .i64 0]) ?_ 2 _ rfl; refine bkq ?_; refine blk_put (cs := #[.int .i64 (wrap64 ((rd y387 t390) + (wrap64 ((wrap64 (Int.tdiv t393 59)) * 5)))), .int .i64 0, .int .i64 0]) ?_ 1 _ rfl; refine bkq ?_; refine blk_put (cs := #[.int .i64 0, .int .i64 0, .int .i64 0]) ?_ 0 _ rfl; refine bkq ?_; exact BK386.out) Try.underlying81 rfl (by kernel_rfl)) rfl ?_
      exact ⟨by first | rfl | (simp [errW_none, errW_some] <;> rfl) | (simp [*, errW_none, errW_some] <;> rfl), IsS73.q HI0.out, hbqs HB.out (IsS73.ge HI0.out), hkqa HK.out⟩
  ·rw [if_neg c5] at H
   exact absurd H (by simp)
 ·rw [if_neg c4] at H
  exact absurd H (by simp)

end Go.Proofs.Ytnhgiincboocaaa.PFnDeskOk
