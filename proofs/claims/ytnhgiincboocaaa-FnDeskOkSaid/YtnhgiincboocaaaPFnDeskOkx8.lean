-- written by wip/tools/pstub.py (my own program, over the kit's print)
import Derived.Test.YtnhgiincboocaaaPFnDeskOkx0
import Derived.Test.YtnhgiincboocaaaPFnDeskOkx1
import Derived.Test.YtnhgiincboocaaaPFnDeskOkx2
import Derived.Test.YtnhgiincboocaaaPFnDeskOkx4
import Derived.Test.YtnhgiincboocaaaPFnDeskOkx7
namespace Go.Proofs.Ytnhgiincboocaaa.PFnDeskOk
open Go.RowKit Go.Proofs.YtnhgiincboocaaaW.PrintWords Go.Proofs.YtnhgiincboocaaaW.PrintLast Go.Proofs.YtnhgiincboocaaaW.PrintMore
attribute [local go_sem] max2_int min2_int max_two min_two max_three min_three max_four min_four   -- for this text's walks alone
set_option linter.unusedVariables false
set_option linter.unusedSimpArgs false

attribute [local go_sem high] eqA81
/-! ### spec_l15Made: function 74 -/
mutual
def spec_l15Made.j0 : Nat → Int → Bool → List Int → Int → List Int → Int → Int → Int → List Int → Int → List Int → Option (List Int × Int × List Int)
 | 0, _, _, _, _, _, _, _, _, _, _, _ => none
 | k + 1, x6, x13, x311000, x311001, x311002, x312000, x312001, x312002, x321000, x321001, x321002 => if x13 = true then (if 0 ≤ x312001 then (if x312001 < (x321000.length : Int) then (if 0 ≤ x312002 then ((some (x321000.set (x312001 : Int).toNat (Go.bits .xor .i64 (rd x321000 x312001) (shl .i64 1 x312002)) : List Int)).bind fun y324 => (if x312002 < (x321000.length : Int) then (some ((y324.set (x312002 : Int).toNat (Go.bits .xor .i64 (rd y324 x312002) (shl .i64 1 x312001))), x321001, x321002)) else (none))) else (none)) else (none)) else (none)) else (if (x312000 == 1 && (x312002 == 0)) = true then ((spec_l1In.f x312001 0 x6).bind fun t327 => (if t327 = true then (if 0 ≤ x312001 then (if x312001 < (x311002.length : Int) then (spec_l15Made.j1 k ((rd x311002 x312001) == 0) x311000 x311001 x311002 x312000 x312001 x312002 x321000 x321001 x321002) else (none)) else (none)) else (spec_l15Made.j1 k false x311000 x311001 x311002 x312000 x312001 x312002 x321000 x321001 x321002))) else (spec_l15Made.j1 k false x311000 x311001 x311002 x312000 x312001 x312002 x321000 x321001 x321002))
def spec_l15Made.j1 : Nat → Bool → List Int → Int → List Int → Int → Int → Int → List Int → Int → List Int → Option (List Int × Int × List Int)
 | 0, _, _, _, _, _, _, _, _, _, _ => none
 | k + 1, x71, x311000, x311001, x311002, x312000, x312001, x312002, x321000, x321001, x321002 => if x71 = true then (if 0 ≤ x312001 then (if x312001 < (x321002.length : Int) then (some (x321000, x321001, (x321002.set (x312001 : Int).toNat 1))) else (none)) else (none)) else (if (x312000 == 2 && (x312001 == 0 && (x312002 == 0))) = true then ((spec_l3Step.f k x311000 x311001 x311002).bind fun t330 => (some (x321000, x321001, t330))) else (if (x312000 == 3 && (x312002 == 0)) = true then (some (x321000, x312001, x321002)) else (some (([] : List Int), 0, ([] : List Int)))))
end
def spec_l15Made.f (k : Nat) (l0_0 : List Int) (a0_1 : Int) (l0_2 : List Int) (a1_0 : Int) (a1_1 : Int) (a1_2 : Int) : Option (List Int × Int × List Int) := (spec_l15Place.f l0_0 a0_1 l0_2).bind fun bt313 => (if (a1_0 == 0) = true then ((spec_l1In.f a1_1 0 (wrap64 ((l0_0.length : Int) - 1))).bind fun t321 => (if t321 = true then ((spec_l1In.f a1_2 0 (wrap64 ((l0_0.length : Int) - 1))).bind fun t322 => (if t322 = true then (spec_l15Made.j0 k (wrap64 ((l0_0.length : Int) - 1)) (a1_1 != a1_2) l0_0 a0_1 l0_2 a1_0 a1_1 a1_2 bt313.1 bt313.2.1 bt313.2.2) else (spec_l15Made.j0 k (wrap64 ((l0_0.length : Int) - 1)) false l0_0 a0_1 l0_2 a1_0 a1_1 a1_2 bt313.1 bt313.2.1 bt313.2.2))) else (spec_l15Made.j0 k (wrap64 ((l0_0.length : Int) - 1)) false l0_0 a0_1 l0_2 a1_0 a1_1 a1_2 bt313.1 bt313.2.1 bt313.2.2))) else (spec_l15Made.j0 k (wrap64 ((l0_0.length : Int) - 1)) false l0_0 a0_1 l0_2 a1_0 a1_1 a1_2 bt313.1 bt313.2.1 bt313.2.2))
theorem spec_l15Made.mono_l : ∀ k, (∀ y0 y1 y2 y3 y4 y5 y6 y7 y8 y9 y10, LeO (spec_l15Made.j0 k y0 y1 y2 y3 y4 y5 y6 y7 y8 y9 y10) (spec_l15Made.j0 (k + 1) y0 y1 y2 y3 y4 y5 y6 y7 y8 y9 y10)) ∧ (∀ y0 y1 y2 y3 y4 y5 y6 y7 y8 y9, LeO (spec_l15Made.j1 k y0 y1 y2 y3 y4 y5 y6 y7 y8 y9) (spec_l15Made.j1 (k + 1) y0 y1 y2 y3 y4 y5 y6 y7 y8 y9))
 | 0 => ⟨fun _ _ _ _ _ _ _ _ _ _ _ r h => by simp [spec_l15Made.j0] at h, fun _ _ _ _ _ _ _ _ _ _ r h => by simp [spec_l15Made.j1] at h⟩
 | k + 1 => by
  obtain ⟨ih0, ih1⟩ := spec_l15Made.mono_l k
  refine ⟨?_, ?_⟩
  ·intro y0 y1 y2 y3 y4 y5 y6 y7 y8 y9 y10
   unfold spec_l15Made.j0
   repeat' first | (with_reducible first | exact ih0 _ _ _ _ _ _ _ _ _ _ _ | exact ih1 _ _ _ _ _ _ _ _ _ _ | exact spec_l3Step.mono _ _ _ _ | exact LeO.refl _ | exact LeO.none _ | refine LeO.ite ?_ ?_ | refine LeO.bind ?_ (fun _ => ?_)) | exact LeO.none _ | refine LeO.ite ?_ ?_ | refine LeO.bind ?_ (fun _ => ?_)
  ·intro y0 y1 y2 y3 y4 y5 y6 y7 y8 y9
   unfold spec_l15Made.j1
   repeat' first | (with_reducible first | exact ih0 _ _ _ _ _ _ _ _ _ _ _ | exact ih1 _ _ _ _ _ _ _ _ _ _ | exact spec_l3Step.mono _ _ _ _ | exact LeO.refl _ | exact LeO.none _ | refine LeO.ite ?_ ?_ | refine LeO.bind ?_ (fun _ => ?_)) | exact LeO.none _ | refine LeO.ite ?_ ?_ | refine LeO.bind ?_ (fun _ => ?_)
theorem spec_l15Made.mono : ∀ a0 a1 a2 a3 a4 a5 k, LeO (spec_l15Made.f k a0 a1 a2 a3 a4 a5) (spec_l15Made.f (k + 1) a0 a1 a2 a3 a4 a5) := by
 intro a0 a1 a2 a3 a4 a5 k
 obtain ⟨ih0, ih1⟩ := spec_l15Made.mono_l k
 unfold spec_l15Made.f
 repeat' first
   | (with_reducible exact ih0 _ _ _ _ _ _ _ _ _ _ _)
   | (with_reducible exact ih1 _ _ _ _ _ _ _ _ _ _)
   | (with_reducible exact spec_l3Step.mono _ _ _ _)
   | (with_reducible exact LeO.refl _)
   | (with_reducible exact LeO.none _)
   | (with_reducible refine LeO.ite ?_ ?_)
   | (with_reducible refine LeO.bind ?_ (fun _ => ?_))
   | exact ih0 _ _ _ _ _ _ _ _ _ _ _
   | exact ih1 _ _ _ _ _ _ _ _ _ _
   | exact spec_l3Step.mono _ _ _ _
   | exact LeO.none _
   | refine LeO.ite ?_ ?_
   | refine LeO.bind ?_ (fun _ => ?_)
def spec_l15Made.T4 : Bool × List (List Nat × List Nat) := (true, [([], []), ([0], [0]), ([], []), ([2], [2]), ([], []), ([4], [4]), ([], []), ([6], [6]), ([5, 7], [5, 7]), ([8], [8]), ([], []), ([10], [10]), ([11], [11]), ([9, 12], [9, 12]), ([1, 3, 0, 1, 2, 3, 4, 5, 6, 7, 8, 9, 10, 11, 12, 13], [1, 3]), ([14, 13, 0, 1, 2, 3, 4, 5, 6, 7, 8, 9, 10, 11, 12, 13], [13, 14])])
def spec_l15Made.B4 : List Nat := [0, 1, 0, 4, 0, 16, 0, 64, 240, 496, 0, 1024, 3072, 8176, 16383, 32767]
theorem spec_l15Made.tab4 : rtab .any (opsOf Try.f74 4) = spec_l15Made.T4 := by kernel_rfl
theorem spec_l15Made.bits4 : waitsOk spec_l15Made.T4.2 spec_l15Made.B4 = true := by kernel_rfl
def spec_l15Made.T5 : Bool × List (List Nat × List Nat) := (true, [([], []), ([0], [0]), ([], []), ([2], [2]), ([], []), ([4], [4]), ([], []), ([6], [6]), ([5, 7], [5, 7]), ([8], [8]), ([], []), ([10], [10]), ([11], [11]), ([9, 12], [9, 12]), ([1, 3, 0, 1, 2, 3, 4, 5, 6, 7, 8, 9, 10, 11, 12, 13], [1, 3]), ([14, 13, 0, 1, 2, 3, 4, 5, 6, 7, 8, 9, 10, 11, 12, 13], [13, 14])])
def spec_l15Made.B5 : List Nat := [0, 1, 0, 4, 0, 16, 0, 64, 240, 496, 0, 1024, 3072, 8176, 16383, 32767]
theorem spec_l15Made.tab5 : rtab .any (opsOf Try.f74 5) = spec_l15Made.T5 := by kernel_rfl
theorem spec_l15Made.bits5 : waitsOk spec_l15Made.T5.2 spec_l15Made.B5 = true := by kernel_rfl
set_option maxHeartbeats 8000000 in
set_option maxRecDepth 100000 in
theorem spec_l15Made.calls (k : Nat) (A0_0 : Option Addr) (c0_0 : Nat) (l0_0 : List Int) (a0_1 : Int) (A0_2 : Option Addr) (c0_2 : Nat) (l0_2 : List Int) (a1_0 : Int) (a1_1 : Int) (a1_2 : Int) (r1 : List Int) (r2 : Int) (r3 : List Int) (w : World) (hr0_0 : Kd.C (Kd.int .i64) w A0_0 l0_0.length l0_0) (hc0_0 : l0_0.length ≤ c0_0) (hr0_2 : Kd.C (Kd.int .i64) w A0_2 l0_2.length l0_2) (hc0_2 : l0_2.length ≤ c0_2) (h : spec_l15Made.f k l0_0 a0_1 l0_2 a1_0 a1_1 a1_2 = some (r1, r2, r3)) :
  Calls Try.prog 74 #[.agg #[.slice A0_0 l0_0.length c0_0, .int .i64 a0_1, .slice A0_2 l0_2.length c0_2], .agg #[.int .i64 a1_0, .int .i64 a1_1, .int .i64 a1_2]] w fun e w' => ∃ v0_ v2_ : Value, e = .returned (.agg #[v0_, .int .i64 r2, v2_]) ∧ Kd.R (Kd.int .i64) 3 w' w.heap.size (fun k_ => some k_ ≠ (v2_ : Value).ownBlock) v0_ r1 ∧ Kd.R (Kd.int .i64) 3 w' w.heap.size (fun k_ => some k_ ≠ (v0_ : Value).ownBlock) v2_ r3 ∧ Below w.heap.size w w' := by
 have hu26 := Try.underlying26
 have hu81 := Try.underlying81
 have HR0_0 := Aside0.mk hr0_0
 have HC0_0 := Aside0.mk hc0_0
 clear hr0_0 hc0_0
 have HR0_2 := Aside0.mk hr0_2
 have HC0_2 := Aside0.mk hc0_2
 clear hr0_2 hc0_2
 have HB := Aside0.mk (Below.refl w.heap.size w)
 have H : ((spec_l15Place.f l0_0 a0_1 l0_2).bind fun bt313 => (if (a1_0 == 0) = true then ((spec_l1In.f a1_1 0 (wrap64 ((l0_0.length : Int) - 1))).bind fun t321 => (if t321 = true then ((spec_l1In.f a1_2 0 (wrap64 ((l0_0.length : Int) - 1))).bind fun t322 => (if t322 = true then (spec_l15Made.j0 k (wrap64 ((l0_0.length : Int) - 1)) (a1_1 != a1_2) l0_0 a0_1 l0_2 a1_0 a1_1 a1_2 bt313.1 bt313.2.1 bt313.2.2) else (spec_l15Made.j0 k (wrap64 ((l0_0.length : Int) - 1)) false l0_0 a0_1 l0_2 a1_0 a1_1 a1_2 bt313.1 bt313.2.1 bt313.2.2))) else (spec_l15Made.j0 k (wrap64 ((l0_0.length : Int) - 1)) false l0_0 a0_1 l0_2 a1_0 a1_1 a1_2 bt313.1 bt313.2.1 bt313.2.2))) else (spec_l15Made.j0 k (wrap64 ((l0_0.length : Int) - 1)) false l0_0 a0_1 l0_2 a1_0 a1_1 a1_2 bt313.1 bt313.2.1 bt313.2.2))) = some (r1, r2, r3) := h
 clear h
 replace H := Option.bind_eq_some_iff.mp H
 obtain ⟨⟨t313, t316, t317⟩, A30, H⟩ := H
 replace H : (if (a1_0 == 0) = true then ((spec_l1In.f a1_1 0 (wrap64 ((l0_0.length : Int) - 1))).bind fun t321 => (if t321 = true then ((spec_l1In.f a1_2 0 (wrap64 ((l0_0.length : Int) - 1))).bind fun t322 => (if t322 = true then (spec_l15Made.j0 k (wrap64 ((l0_0.length : Int) - 1)) (a1_1 != a1_2) l0_0 a0_1 l0_2 a1_0 a1_1 a1_2 t313 t316 t317) else (spec_l15Made.j0 k (wrap64 ((l0_0.length : Int) - 1)) false l0_0 a0_1 l0_2 a1_0 a1_1 a1_2 t313 t316 t317))) else (spec_l15Made.j0 k (wrap64 ((l0_0.length : Int) - 1)) false l0_0 a0_1 l0_2 a1_0 a1_1 a1_2 t313 t316 t317))) else (spec_l15Made.j0 k (wrap64 ((l0_0.length : Int) - 1)) false l0_0 a0_1 l0_2 a1_0 a1_1 a1_2 t313 t316 t317)) = some (r1, r2, r3) := H
 have A3 := Aside0.mk A30
 clear A30
 have HC4 := Aside0.mk H
 clear H
 go_enter Try.func74, Try.ntmps74
 go_upto_region 3 with (first | ((with_reducible refine gate_dst (N := 2) rfl ?_); refine box_event ?hg (N := 2) ?hd (cs := #[.slice A0_0 l0_0.length c0_0, .int .i64 a0_1, .slice A0_2 l0_2.length c0_2]) (t := 26) ?hr ?_; (case hd => rfl); (case hg => rfl); (case hr => first | (go_simp; done) | (go_simp; rfl)); intro gb310 hg w5 hbox hb; have n0_ := Aside0.mk (below_step (hbq HB.out) hb); have n1_ := Aside0.mk (hbox); have n2_ := Aside0.mk ((by rw [hg]; exact (below_size (hbq HB.out)) : w.heap.size ≤ gb310)); have n3_ := Aside0.mk ((by rw [hg]; exact (below_size (hbq HB.out)) : w.heap.size ≤ gb310)); clear HB; revert n0_ n1_ n2_ n3_; intro HB BK310 GW310 GE310; clear hb hbox hg) | ((with_reducible refine gate_dst (N := 3) rfl ?_); refine box_event ?hg (N := 3) ?hd (cs := #[.int .i64 a1_0, .int .i64 a1_1, .int .i64 a1_2]) (t := 81) ?hr ?_; (case hd => rfl); (case hg => rfl); (case hr => first | (go_simp; done) | (go_simp; rfl)); intro gb311 hg w6 hbox hb; have n0_ := Aside0.mk (blk_below (bkq BK310.out) hb); have n1_ := Aside0.mk (below_step (hbqa HB.out) hb); have n2_ := Aside0.mk (hbox); have n3_ := Aside0.mk ((by rw [hg]; exact (below_size (hbqa HB.out)) : w.heap.size ≤ gb311)); have n4_ := Aside0.mk ((by rw [hg]; exact (below_size (hbqa HB.out)) : w.heap.size ≤ gb311)); have n5_ := Aside0.mk ((by rw [hg]; exact Nat.ne_of_lt (blk_lt (bkq BK310.out)) : gb310 ≠ gb311)); have n6_ := Aside0.mk ((by rw [hg]; exact Nat.ne_of_gt (blk_lt (bkq BK310.out)) : gb311 ≠ gb310)); clear BK310 HB; revert n0_ n1_ n2_ n3_ n4_ n5_ n6_; intro BK310 HB BK311 GW311 GE311 NB310_311 NB311_310; clear hb hbox hg) | ((with_reducible refine gate_dst (N := 4) rfl ?_); refine box_event ?hg (N := 4) ?hd (cs := #[.slice none 0 0, .int .i64 0, .slice none 0 0]) (t := 26) ?hr ?_; (case hd => rfl); (case hg => rfl); (case hr => first | (go_simp; done) | (go_simp; rfl)); intro gb312 hg w7 hbox hb; have n0_ := Aside0.mk (blk_below (bkq BK310.out) hb); have n1_ := Aside0.mk (blk_below (bkq BK311.out) hb); have n2_ := Aside0.mk (below_step (hbqa HB.out) hb); have n3_ := Aside0.mk (hbox); have n4_ := Aside0.mk ((by rw [hg]; exact (below_size (hbqa HB.out)) : w.heap.size ≤ gb312)); have n5_ := Aside0.mk ((by rw [hg]; exact (below_size (hbqa HB.out)) : w.heap.size ≤ gb312)); have n6_ := Aside0.mk ((by rw [hg]; exact Nat.ne_of_lt (blk_lt (bkq BK310.out)) : gb310 ≠ gb312)); have n7_ := Aside0.mk ((by rw [hg]; exact Nat.ne_of_gt (blk_lt (bkq BK310.out)) : gb312 ≠ gb310)); have n8_ := Aside0.mk ((by rw [hg]; exact Nat.ne_of_lt (blk_lt (bkq BK311.out)) : gb311 ≠ gb312)); have n9_ := Aside0.mk ((by rw [hg]; exact Nat.ne_of_gt (blk_lt (bkq BK311.out)) : gb312 ≠ gb311)); clear BK310 BK311 HB; revert n0_ n1_ n2_ n3_ n4_ n5_ n6_ n7_ n8_ n9_; intro BK310 BK311 HB BK312 GW312 GE312 NB310_312 NB312_310 NB311_312 NB312_311; clear hb hbox hg; have hnb8 := NB310_311.out; have hnc8 := NB311_310.out; have hnb9 := NB310_312.out; have hnc9 := NB312_310.out; have hcz10_0 : w7.cell? ⟨gb310, 0, none⟩ = some (.slice A0_0 l0_0.length c0_0) := (blk_cell BK310.out 0).trans rfl; have hcz10_1 : w7.cell? ⟨gb310, 1, none⟩ = some (.int .i64 a0_1) := (blk_cell BK310.out 1).trans rfl; have hcz10_2 : w7.cell? ⟨gb310, 2, none⟩ = some (.slice A0_2 l0_2.length c0_2) := (blk_cell BK310.out 2).trans rfl; have hfz10_0 := blk_frozen BK310.out 0; have hfz10_1 := blk_frozen BK310.out 1; have hfz10_2 := blk_frozen BK310.out 2) | ((with_reducible refine gate_callee (f := 34) rfl ?_); refine goesL_ (some 8) rfl rfl Try.func34 (by kernel_rfl) rfl #[.agg #[.slice A0_0 l0_0.length c0_0, .int .i64 a0_1, .slice A0_2 l0_2.length c0_2]] rfl mpq ?_; (with_reducible refine (spec_l15Place.calls _ _ l0_0 a0_1 _ _ l0_2 t313 t316 t317 _ ?side1 ?side2 ?side3 ?side4 A3.out).mono ?_); (case side1 => exact coq (Kd.C_below HR0_0.out HB.out)); (case side2 => exact HC0_0.out); (case side3 => exact coq (Kd.C_below HR0_2.out HB.out)); (case side4 => exact HC0_2.out); rintro e w11 ⟨v314, v318, rfl, ho0, ho1, hb⟩; refine ⟨_, rfl, ?_⟩; have n0_ := Aside0.mk (Kd.R_lower ho0 (below_size (hbqa HB.out))); have n1_ := Aside0.mk (Kd.R_lower ho1 (below_size (hbqa HB.out))); have n2_ := Aside0.mk (blk_below (bkq BK310.out) hb); have n3_ := Aside0.mk (blk_below (bkq BK311.out) hb); have n4_ := Aside0.mk (blk_below (bkq BK312.out) hb); have n5_ := Aside0.mk (below_step (hbqa HB.out) hb); clear BK310 BK311 BK312 HB; revert n0_ n1_ n2_ n3_ n4_ n5_; intro HO315 HO319 BK310 BK311 BK312 HB; (try clear hb); (try clear hb2); (try clear hk); (try clear hi); (try clear ho0); (try clear ho1)) | ((with_reducible refine gate_dst (N := 5) rfl ?_); refine box_event ?hg (N := 5) ?hd (cs := #[.slice none 0 0, .int .i64 0, .slice none 0 0]) (t := 26) ?hr ?_; (case hd => rfl); (case hg => rfl); (case hr => first | (go_simp; done) | (go_simp; rfl)); intro gb320 hg w12 hbox hb; have n0_ := Aside0.mk (Kd.R_below (roq HO315.out) hb); have n1_ := Aside0.mk (Kd.R_below (roq HO319.out) hb); have n2_ := Aside0.mk (blk_below (bkq BK310.out) hb); have n3_ := Aside0.mk (blk_below (bkq BK311.out) hb); have n4_ := Aside0.mk (blk_below (bkq BK312.out) hb); have n5_ := Aside0.mk (below_step (hbqa HB.out) hb); have n6_ := Aside0.mk (hbox); have n7_ := Aside0.mk ((by rw [hg]; exact (below_size (hbqa HB.out)) : w.heap.size ≤ gb320)); have n8_ := Aside0.mk ((by rw [hg]; exact (below_size (hbqa HB.out)) : w.heap.size ≤ gb320)); have n9_ := Aside0.mk ((by rw [hg]; exact Nat.ne_of_lt (blk_lt (bkq BK310.out)) : gb310 ≠ gb320)); have n10_ := Aside0.mk ((by rw [hg]; exact Nat.ne_of_gt (blk_lt (bkq BK310.out)) : gb320 ≠ gb310)); have n11_ := Aside0.mk ((by rw [hg]; exact Nat.ne_of_lt (blk_lt (bkq BK311.out)) : gb311 ≠ gb320)); have n12_ := Aside0.mk ((by rw [hg]; exact Nat.ne_of_gt (blk_lt (bkq BK311.out)) : gb320 ≠ gb311)); have n13_ := Aside0.mk ((by rw [hg]; exact Nat.ne_of_lt (blk_lt (bkq BK312.out)) : gb312 ≠ gb320)); have n14_ := Aside0.mk ((by rw [hg]; exact Nat.ne_of_gt (blk_lt (bkq BK312.out)) : gb320 ≠ gb312)); clear HO315 HO319 BK310 BK311 BK312 HB; revert n0_ n1_ n2_ n3_ n4_ n5_ n6_ n7_ n8_ n9_ n10_ n11_ n12_ n13_ n14_; intro HO315 HO319 BK310 BK311 BK312 HB BK320 GW320 GE320 NB310_320 NB320_310 NB311_320 NB320_311 NB312_320 NB320_312; clear hb hbox hg; obtain ⟨Ao13, co13, eo13⟩ := Kd.R_slice HO315.out; subst eo13; have hnb14 := NB320_310.out; have hnc14 := NB310_320.out; have hnb15 := NB320_311.out; have hnc15 := NB311_320.out; have hnb16 := NB320_312.out; have hnc16 := NB312_320.out; have hcz17_0 : w12.cell? ⟨gb320, 0, none⟩ = some (.slice none 0 0) := (blk_cell BK320.out 0).trans rfl; have hcz17_1 : w12.cell? ⟨gb320, 1, none⟩ = some (.int .i64 0) := (blk_cell BK320.out 1).trans rfl; have hcz17_2 : w12.cell? ⟨gb320, 2, none⟩ = some (.slice none 0 0) := (blk_cell BK320.out 2).trans rfl; have hfz17_0 := blk_frozen BK320.out 0; have hfz17_1 := blk_frozen BK320.out 1; have hfz17_2 := blk_frozen BK320.out 2; obtain ⟨Ao18, co18, eo18⟩ := Kd.R_slice HO319.out; subst eo18; have hcz19_0 : w12.cell? ⟨gb310, 0, none⟩ = some (.slice A0_0 l0_0.length c0_0) := (blk_cell BK310.out 0).trans rfl; have hcz19_1 : w12.cell? ⟨gb310, 1, none⟩ = some (.int .i64 a0_1) := (blk_cell BK310.out 1).trans rfl; have hcz19_2 : w12.cell? ⟨gb310, 2, none⟩ = some (.slice A0_2 l0_2.length c0_2) := (blk_cell BK310.out 2).trans rfl; have hfz19_0 := blk_frozen BK310.out 0; have hfz19_1 := blk_frozen BK310.out 1; have hfz19_2 := blk_frozen BK310.out 2))
 (try simp only [Act.put, List.setIfInBounds_toArray, List.set_cons_zero, List.set_cons_succ])
 go_cut [13] (fun v13 wc => ∃ (kq : Nat) (x13_3 : Bool), v13 = .bool x13_3 ∧ Aside0 (spec_l15Made.j0 kq (wrap64 ((l0_0.length : Int) - 1)) x13_3 l0_0 a0_1 l0_2 a1_0 a1_1 a1_2 t313 t316 t317 = some (r1, r2, r3)) ∧ Aside0 (kq ≤ k) ∧ Aside0 (Kd.R (Kd.int .i64) 3 wc w.heap.size (fun k_ => some k_ ≠ ((.slice Ao18 t317.length co18) : Value).ownBlock) (.slice Ao13 t313.length co13) t313) ∧ Aside0 (Kd.R (Kd.int .i64) 3 wc w.heap.size (fun k_ => some k_ ≠ ((.slice Ao13 t313.length co13) : Value).ownBlock) (.slice Ao18 t317.length co18) t317) ∧ Aside0 (wc.heap[gb310]? = some (.cells #[(.slice A0_0 l0_0.length c0_0), .int .i64 a0_1, (.slice A0_2 l0_2.length c0_2)] 26 (0, 0))) ∧ Aside0 (wc.heap[gb311]? = some (.cells #[.int .i64 a1_0, .int .i64 a1_1, .int .i64 a1_2] 81 (0, 0))) ∧ Aside0 (wc.heap[gb312]? = some (.cells #[(.slice none 0 0), .int .i64 0, (.slice none 0 0)] 26 (0, 0))) ∧ Aside0 (wc.heap[gb320]? = some (.cells #[(.slice Ao13 t313.length co13), .int .i64 t316, (.slice Ao18 t317.length co18)] 26 (0, 0))) ∧ Aside0 (Below w.heap.size w wc))
 case first =>
  have H := HC4.out
  clear HC4
  by_cases c20 : (a1_0 == 0) = true
  ·rw [if_pos c20] at H
   have c20b0 : (a1_0 == 0) = true := c20
   (try (have c20b1 : decide (a1_0 = 0) = true := by simpa using c20))
   (try (have c20b2 : (a1_0 == 0) = true := by simpa using c20))
   clear c20
   (first | rw [c20b0] | (simp only [i64_w, i32_w]; rw [c20b0]) | skip)
   replace H := Option.bind_eq_some_iff.mp H
   obtain ⟨t321, A210, H⟩ := H
   replace H : (if t321 = true then ((spec_l1In.f a1_2 0 (wrap64 ((l0_0.length : Int) - 1))).bind fun t322 => (if t322 = true then (spec_l15Made.j0 k (wrap64 ((l0_0.length : Int) - 1)) (a1_1 != a1_2) l0_0 a0_1 l0_2 a1_0 a1_1 a1_2 t313 t316 t317) else (spec_l15Made.j0 k (wrap64 ((l0_0.length : Int) - 1)) false l0_0 a0_1 l0_2 a1_0 a1_1 a1_2 t313 t316 t317))) else (spec_l15Made.j0 k (wrap64 ((l0_0.length : Int) - 1)) false l0_0 a0_1 l0_2 a1_0 a1_1 a1_2 t313 t316 t317)) = some (r1, r2, r3) := H
   have A21 := Aside0.mk A210
   clear A210
   by_cases c22 : t321 = true
   ·subst c22
    have H1 : ((spec_l1In.f a1_2 0 (wrap64 ((l0_0.length : Int) - 1))).bind fun t322 => (if t322 = true then (spec_l15Made.j0 k (wrap64 ((l0_0.length : Int) - 1)) (a1_1 != a1_2) l0_0 a0_1 l0_2 a1_0 a1_1 a1_2 t313 t316 t317) else (spec_l15Made.j0 k (wrap64 ((l0_0.length : Int) - 1)) false l0_0 a0_1 l0_2 a1_0 a1_1 a1_2 t313 t316 t317))) = some (r1, r2, r3) := by rw [if_pos rfl] at H; exact H
    clear H
    have H := H1
    clear H1
    replace H := Option.bind_eq_some_iff.mp H
    obtain ⟨t322, A230, H⟩ := H
    replace H : (if t322 = true then (spec_l15Made.j0 k (wrap64 ((l0_0.length : Int) - 1)) (a1_1 != a1_2) l0_0 a0_1 l0_2 a1_0 a1_1 a1_2 t313 t316 t317) else (spec_l15Made.j0 k (wrap64 ((l0_0.length : Int) - 1)) false l0_0 a0_1 l0_2 a1_0 a1_1 a1_2 t313 t316 t317)) = some (r1, r2, r3) := H
    have A23 := Aside0.mk A230
    clear A230
    by_cases c24 : t322 = true
    ·subst c24
     have H1 : (spec_l15Made.j0 k (wrap64 ((l0_0.length : Int) - 1)) (a1_1 != a1_2) l0_0 a0_1 l0_2 a1_0 a1_1 a1_2 t313 t316 t317) = some (r1, r2, r3) := by rw [if_pos rfl] at H; exact H
     clear H
     have H := H1
     clear H1
     have H' := Aside0.mk H
     clear H
     have hnb25 := NB311_310.out
     have hnc25 := NB310_311.out
     have hnb26 := NB311_312.out
     have hnc26 := NB312_311.out
     have hnb27 := NB311_320.out
     have hnc27 := NB320_311.out
     have hcz28_0 : w12.cell? ⟨gb311, 0, none⟩ = some (.int .i64 a1_0) := (blk_cell BK311.out 0).trans rfl
     have hcz28_1 : w12.cell? ⟨gb311, 1, none⟩ = some (.int .i64 a1_1) := (blk_cell BK311.out 1).trans rfl
     have hcz28_2 : w12.cell? ⟨gb311, 2, none⟩ = some (.int .i64 a1_2) := (blk_cell BK311.out 2).trans rfl
     have hfz28_0 := blk_frozen BK311.out 0
     have hfz28_1 := blk_frozen BK311.out 1
     have hfz28_2 := blk_frozen BK311.out 2
     go_wp2_with (first | (go_at_call 69; (with_reducible refine (spec_l1In.calls a1_1 0 (wrap64 ((l0_0.length : Int) - 1)) true _ A21.out).mono ?_); rintro e w' ⟨rfl, ⟨nd, rfl⟩⟩) | (go_at_call 69; (with_reducible refine (spec_l1In.calls a1_2 0 (wrap64 ((l0_0.length : Int) - 1)) true _ A23.out).mono ?_); rintro e w' ⟨rfl, ⟨nd, rfl⟩⟩))
     go_meet
     case rel => exact ⟨_, ((a1_1 != a1_2)), rfq, H', ⟨by first | omega | exact Nat.le_refl _⟩, ⟨by refine roq ?_; exact Kd.R_mono (Kd.R_far (p := ⟨gb320, 2, none⟩) (Kd.R_far (p := ⟨gb320, 1, none⟩) (Kd.R_far (p := ⟨gb320, 0, none⟩) (Kd.R_types HO315.out BK320.out (by decide)) (fun _ hk => hk.2) (.slice Ao13 t313.length co13)) (fun _ hk => hk.2) (.int .i64 t316)) (fun _ hk => hk.2) (.slice Ao18 t317.length co18)) (fun _ hk => hk.1)⟩, ⟨by refine roq ?_; exact Kd.R_mono (Kd.R_far (p := ⟨gb320, 2, none⟩) (Kd.R_far (p := ⟨gb320, 1, none⟩) (Kd.R_far (p := ⟨gb320, 0, none⟩) (Kd.R_types HO319.out BK320.out (by decide)) (fun _ hk => hk.2) (.slice Ao13 t313.length co13)) (fun _ hk => hk.2) (.int .i64 t316)) (fun _ hk => hk.2) (.slice Ao18 t317.length co18)) (fun _ hk => hk.1)⟩, ⟨by refine bkq ?_; refine blk_far ?_ NB310_320.out _; refine bkq ?_; refine blk_far ?_ NB310_320.out _; refine bkq ?_; refine blk_far ?_ NB310_320.out _; refine bkq ?_; exact BK310.out⟩, ⟨by refine bkq ?_; refine blk_far ?_ NB311_320.out _; refine bkq ?_; refine blk_far ?_ NB311_320.out _; refine bkq ?_; refine blk_far ?_ NB311_320.out _; refine bkq ?_; exact BK311.out⟩, ⟨by refine bkq ?_; refine blk_far ?_ NB312_320.out _; refine bkq ?_; refine blk_far ?_ NB312_320.out _; refine bkq ?_; refine blk_far ?_ NB312_320.out _; refine bkq ?_; exact BK312.out⟩, ⟨by refine bkq ?_; refine blk_put (cs := #[.slice Ao13 t313.length co13, .int .i64 t316, .slice none 0 0]) ?_ 2 _ rfl; refine bkq ?_; refine blk_put (cs := #[.slice Ao13 t313.length co13, .int .i64 0, .slice none 0 0]) ?_ 1 _ rfl; refine bkq ?_; refine blk_put (cs := #[.slice none 0 0, .int .i64 0, .slice none 0 0]) ?_ 0 _ rfl; refine bkq ?_; exact BK320.out⟩, ⟨hbqa HB.out⟩⟩
    ·replace c24 := Bool.eq_false_iff.mpr c24
     subst c24
     have H1 : (spec_l15Made.j0 k (wrap64 ((l0_0.length : Int) - 1)) false l0_0 a0_1 l0_2 a1_0 a1_1 a1_2 t313 t316 t317) = some (r1, r2, r3) := by rw [if_neg (show ¬ (false = true) by decide)] at H; exact H
     clear H
     have H := H1
     clear H1
     have H' := Aside0.mk H
     clear H
     have hnb29 := NB311_310.out
     have hnc29 := NB310_311.out
     have hnb30 := NB311_312.out
     have hnc30 := NB312_311.out
     have hnb31 := NB311_320.out
     have hnc31 := NB320_311.out
     have hcz32_0 : w12.cell? ⟨gb311, 0, none⟩ = some (.int .i64 a1_0) := (blk_cell BK311.out 0).trans rfl
     have hcz32_1 : w12.cell? ⟨gb311, 1, none⟩ = some (.int .i64 a1_1) := (blk_cell BK311.out 1).trans rfl
     have hcz32_2 : w12.cell? ⟨gb311, 2, none⟩ = some (.int .i64 a1_2) := (blk_cell BK311.out 2).trans rfl
     have hfz32_0 := blk_frozen BK311.out 0
     have hfz32_1 := blk_frozen BK311.out 1
     have hfz32_2 := blk_frozen BK311.out 2
     go_wp2_with (first | (go_at_call 69; (with_reducible refine (spec_l1In.calls a1_1 0 (wrap64 ((l0_0.length : Int) - 1)) true _ A21.out).mono ?_); rintro e w' ⟨rfl, ⟨nd, rfl⟩⟩) | (go_at_call 69; (with_reducible refine (spec_l1In.calls a1_2 0 (wrap64 ((l0_0.length : Int) - 1)) false _ A23.out).mono ?_); rintro e w' ⟨rfl, ⟨nd, rfl⟩⟩))
     go_meet
     case rel => exact ⟨_, (false), rfq, H', ⟨by first | omega | exact Nat.le_refl _⟩, ⟨by refine roq ?_; exact Kd.R_mono (Kd.R_far (p := ⟨gb320, 2, none⟩) (Kd.R_far (p := ⟨gb320, 1, none⟩) (Kd.R_far (p := ⟨gb320, 0, none⟩) (Kd.R_types HO315.out BK320.out (by decide)) (fun _ hk => hk.2) (.slice Ao13 t313.length co13)) (fun _ hk => hk.2) (.int .i64 t316)) (fun _ hk => hk.2) (.slice Ao18 t317.length co18)) (fun _ hk => hk.1)⟩, ⟨by refine roq ?_; exact Kd.R_mono (Kd.R_far (p := ⟨gb320, 2, none⟩) (Kd.R_far (p := ⟨gb320, 1, none⟩) (Kd.R_far (p := ⟨gb320, 0, none⟩) (Kd.R_types HO319.out BK320.out (by decide)) (fun _ hk => hk.2) (.slice Ao13 t313.length co13)) (fun _ hk => hk.2) (.int .i64 t316)) (fun _ hk => hk.2) (.slice Ao18 t317.length co18)) (fun _ hk => hk.1)⟩, ⟨by refine bkq ?_; refine blk_far ?_ NB310_320.out _; refine bkq ?_; refine blk_far ?_ NB310_320.out _; refine bkq ?_; refine blk_far ?_ NB310_320.out _; refine bkq ?_; exact BK310.out⟩, ⟨by refine bkq ?_; refine blk_far ?_ NB311_320.out _; refine bkq ?_; refine blk_far ?_ NB311_320.out _; refine bkq ?_; refine blk_far ?_ NB311_320.out _; refine bkq ?_; exact BK311.out⟩, ⟨by refine bkq ?_; refine blk_far ?_ NB312_320.out _; refine bkq ?_; refine blk_far ?_ NB312_320.out _; refine bkq ?_; refine blk_far ?_ NB312_320.out _; refine bkq ?_; exact BK312.out⟩, ⟨by refine bkq ?_; refine blk_put (cs := #[.slice Ao13 t313.length co13, .int .i64 t316, .slice none 0 0]) ?_ 2 _ rfl; refine bkq ?_; refine blk_put (cs := #[.slice Ao13 t313.length co13, .int .i64 0, .slice none 0 0]) ?_ 1 _ rfl; refine bkq ?_; refine blk_put (cs := #[.slice none 0 0, .int .i64 0, .slice none 0 0]) ?_ 0 _ rfl; refine bkq ?_; exact BK320.out⟩, ⟨hbqa HB.out⟩⟩
   ·replace c22 := Bool.eq_false_iff.mpr c22
    subst c22
    have H1 : (spec_l15Made.j0 k (wrap64 ((l0_0.length : Int) - 1)) false l0_0 a0_1 l0_2 a1_0 a1_1 a1_2 t313 t316 t317) = some (r1, r2, r3) := by rw [if_neg (show ¬ (false = true) by decide)] at H; exact H
    clear H
    have H := H1
    clear H1
    have H' := Aside0.mk H
    clear H
    have hnb33 := NB311_310.out
    have hnc33 := NB310_311.out
    have hnb34 := NB311_312.out
    have hnc34 := NB312_311.out
    have hnb35 := NB311_320.out
    have hnc35 := NB320_311.out
    have hcz36_0 : w12.cell? ⟨gb311, 0, none⟩ = some (.int .i64 a1_0) := (blk_cell BK311.out 0).trans rfl
    have hcz36_1 : w12.cell? ⟨gb311, 1, none⟩ = some (.int .i64 a1_1) := (blk_cell BK311.out 1).trans rfl
    have hcz36_2 : w12.cell? ⟨gb311, 2, none⟩ = some (.int .i64 a1_2) := (blk_cell BK311.out 2).trans rfl
    have hfz36_0 := blk_frozen BK311.out 0
    have hfz36_1 := blk_frozen BK311.out 1
    have hfz36_2 := blk_frozen BK311.out 2
    go_wp2_with (first | (go_at_call 69; (with_reducible refine (spec_l1In.calls a1_1 0 (wrap64 ((l0_0.length : Int) - 1)) false _ A21.out).mono ?_); rintro e w' ⟨rfl, ⟨nd, rfl⟩⟩))
    go_meet
    case rel => exact ⟨_, (false), rfq, H', ⟨by first | omega | exact Nat.le_refl _⟩, ⟨by refine roq ?_; exact Kd.R_mono (Kd.R_far (p := ⟨gb320, 2, none⟩) (Kd.R_far (p := ⟨gb320, 1, none⟩) (Kd.R_far (p := ⟨gb320, 0, none⟩) (Kd.R_types HO315.out BK320.out (by decide)) (fun _ hk => hk.2) (.slice Ao13 t313.length co13)) (fun _ hk => hk.2) (.int .i64 t316)) (fun _ hk => hk.2) (.slice Ao18 t317.length co18)) (fun _ hk => hk.1)⟩, ⟨by refine roq ?_; exact Kd.R_mono (Kd.R_far (p := ⟨gb320, 2, none⟩) (Kd.R_far (p := ⟨gb320, 1, none⟩) (Kd.R_far (p := ⟨gb320, 0, none⟩) (Kd.R_types HO319.out BK320.out (by decide)) (fun _ hk => hk.2) (.slice Ao13 t313.length co13)) (fun _ hk => hk.2) (.int .i64 t316)) (fun _ hk => hk.2) (.slice Ao18 t317.length co18)) (fun _ hk => hk.1)⟩, ⟨by refine bkq ?_; refine blk_far ?_ NB310_320.out _; refine bkq ?_; refine blk_far ?_ NB310_320.out _; refine bkq ?_; refine blk_far ?_ NB310_320.out _; refine bkq ?_; exact BK310.out⟩, ⟨by refine bkq ?_; refine blk_far ?_ NB311_320.out _; refine bkq ?_; refine blk_far ?_ NB311_320.out _; refine bkq ?_; refine blk_far ?_ NB311_320.out _; refine bkq ?_; exact BK311.out⟩, ⟨by refine bkq ?_; refine blk_far ?_ NB312_320.out _; refine bkq ?_; refine blk_far ?_ NB312_320.out _; refine bkq ?_; refine blk_far ?_ NB312_320.out _; refine bkq ?_; exact BK312.out⟩, ⟨by refine bkq ?_; refine blk_put (cs := #[.slice Ao13 t313.length co13, .int .i64 t316, .slice none 0 0]) ?_ 2 _ rfl; refine bkq ?_; refine blk_put (cs := #[.slice Ao13 t313.length co13, .int .i64 0, .slice none 0 0]) ?_ 1 _ rfl; refine bkq ?_; refine blk_put (cs := #[.slice none 0 0, .int .i64 0, .slice none 0 0]) ?_ 0 _ rfl; refine bkq ?_; exact BK320.out⟩, ⟨hbqa HB.out⟩⟩
  ·rw [if_neg c20] at H
   have c20b0 : (a1_0 == 0) = false := by simpa using c20
   (try (have c20b1 : decide (a1_0 = 0) = false := by simpa using c20))
   (try (have c20b2 : (a1_0 == 0) = false := by simpa using c20))
   (try (have c20b3 : ¬ (a1_0 = 0) := by simpa using c20))
   clear c20
   (first | rw [c20b0] | (simp only [i64_w, i32_w]; rw [c20b0]) | skip)
   have H' := Aside0.mk H
   clear H
   have hnb37 := NB311_310.out
   have hnc37 := NB310_311.out
   have hnb38 := NB311_312.out
   have hnc38 := NB312_311.out
   have hnb39 := NB311_320.out
   have hnc39 := NB320_311.out
   have hcz40_0 : w12.cell? ⟨gb311, 0, none⟩ = some (.int .i64 a1_0) := (blk_cell BK311.out 0).trans rfl
   have hcz40_1 : w12.cell? ⟨gb311, 1, none⟩ = some (.int .i64 a1_1) := (blk_cell BK311.out 1).trans rfl
   have hcz40_2 : w12.cell? ⟨gb311, 2, none⟩ = some (.int .i64 a1_2) := (blk_cell BK311.out 2).trans rfl
   have hfz40_0 := blk_frozen BK311.out 0
   have hfz40_1 := blk_frozen BK311.out 1
   have hfz40_2 := blk_frozen BK311.out 2
   go_wp2
   go_meet
   case rel => exact ⟨_, (false), rfq, H', ⟨by first | omega | exact Nat.le_refl _⟩, ⟨by refine roq ?_; exact Kd.R_mono (Kd.R_far (p := ⟨gb320, 2, none⟩) (Kd.R_far (p := ⟨gb320, 1, none⟩) (Kd.R_far (p := ⟨gb320, 0, none⟩) (Kd.R_types HO315.out BK320.out (by decide)) (fun _ hk => hk.2) (.slice Ao13 t313.length co13)) (fun _ hk => hk.2) (.int .i64 t316)) (fun _ hk => hk.2) (.slice Ao18 t317.length co18)) (fun _ hk => hk.1)⟩, ⟨by refine roq ?_; exact Kd.R_mono (Kd.R_far (p := ⟨gb320, 2, none⟩) (Kd.R_far (p := ⟨gb320, 1, none⟩) (Kd.R_far (p := ⟨gb320, 0, none⟩) (Kd.R_types HO319.out BK320.out (by decide)) (fun _ hk => hk.2) (.slice Ao13 t313.length co13)) (fun _ hk => hk.2) (.int .i64 t316)) (fun _ hk => hk.2) (.slice Ao18 t317.length co18)) (fun _ hk => hk.1)⟩, ⟨by refine bkq ?_; refine blk_far ?_ NB310_320.out _; refine bkq ?_; refine blk_far ?_ NB310_320.out _; refine bkq ?_; refine blk_far ?_ NB310_320.out _; refine bkq ?_; exact BK310.out⟩, ⟨by refine bkq ?_; refine blk_far ?_ NB311_320.out _; refine bkq ?_; refine blk_far ?_ NB311_320.out _; refine bkq ?_; refine blk_far ?_ NB311_320.out _; refine bkq ?_; exact BK311.out⟩, ⟨by refine bkq ?_; refine blk_far ?_ NB312_320.out _; refine bkq ?_; refine blk_far ?_ NB312_320.out _; refine bkq ?_; refine blk_far ?_ NB312_320.out _; refine bkq ?_; exact BK312.out⟩, ⟨by refine bkq ?_; refine blk_put (cs := #[.slice Ao13 t313.length co13, .int .i64 t316, .slice none 0 0]) ?_ 2 _ rfl; refine bkq ?_; refine blk_put (cs := #[.slice Ao13 t313.length co13, .int .i64 0, .slice none 0 0]) ?_ 1 _ rfl; refine bkq ?_; refine blk_put (cs := #[.slice none 0 0, .int .i64 0, .slice none 0 0]) ?_ 0 _ rfl; refine bkq ?_; exact BK320.out⟩, ⟨hbqa HB.out⟩⟩
 case rest =>
  clear HC4
  try clear c1
  try clear c2
  try clear p2
  try clear c3
  try clear p6
  try clear c7
  try clear c8
  try clear c9
  try clear c14
  try clear c15
  try clear c16
  try clear c20
  try clear c20b0
  try clear c20b1
  try clear c20b2
  try clear c22
  try clear c24
  try clear c25
  try clear c26
  try clear c27
  try clear c29
  try clear c30
  try clear c31
  try clear c33
  try clear c34
  try clear c35
  try clear c37
  try clear c38
  try clear c39
  try clear hcz10_0
  try clear hcz10_1
  try clear hcz10_2
  try clear hcz17_0
  try clear hcz17_1
  try clear hcz17_2
  try clear hcz19_0
  try clear hcz19_1
  try clear hcz19_2
  try clear hcz28_0
  try clear hcz28_1
  try clear hcz28_2
  try clear hcz32_0
  try clear hcz32_1
  try clear hcz32_2
  try clear hcz36_0
  try clear hcz36_1
  try clear hcz36_2
  try clear hcz40_0
  try clear hcz40_1
  try clear hcz40_2
  try clear hfz10_0
  try clear hfz10_1
  try clear hfz10_2
  try clear hfz17_0
  try clear hfz17_1
  try clear hfz17_2
  try clear hfz19_0
  try clear hfz19_1
  try clear hfz19_2
  try clear hfz28_0
  try clear hfz28_1
  try clear hfz28_2
  try clear hfz32_0
  try clear hfz32_1
  try clear hfz32_2
  try clear hfz36_0
  try clear hfz36_1
  try clear hfz36_2
  try clear hfz40_0
  try clear hfz40_1
  try clear hfz40_2
  obtain ⟨kq, x13_3, rfl, HA, HJ3, HO_321000, HO_321002, BK310, BK311, BK312, BK320, HB⟩ := hcut
  cases kq with
  | zero => exact absurd HA.out (by simp [spec_l15Made.j0])
  | succ kj3 =>
   have H := HA.out
   clear HA
   simp only [spec_l15Made.j0] at H
   by_cases c41 : x13_3 = true
   ·subst c41
    have H1 : (if 0 ≤ a1_1 then (if a1_1 < (t313.length : Int) then (if 0 ≤ a1_2 then ((some (t313.set (a1_1 : Int).toNat (Go.bits .xor .i64 (rd t313 a1_1) (shl .i64 1 a1_2)) : List Int)).bind fun y324 => (if a1_2 < (t313.length : Int) then (some ((y324.set (a1_2 : Int).toNat (Go.bits .xor .i64 (rd y324 a1_2) (shl .i64 1 a1_1))), t316, t317)) else (none))) else (none)) else (none)) else (none)) = some (r1, r2, r3) := by rw [if_pos rfl] at H; exact H
    clear H
    have H := H1
    clear H1
    by_cases c42 : 0 ≤ a1_1
    ·rw [if_pos c42] at H
     have c42b0 : decide (0 ≤ a1_1) = true := decide_eq_true c42
     clear c42
     by_cases c43 : a1_1 < (t313.length : Int)
     ·rw [if_pos c43] at H
      have c43b0 : decide (a1_1 < (t313.length : Int)) = true := decide_eq_true c43
      clear c43
      by_cases c44 : 0 ≤ a1_2
      ·rw [if_pos c44] at H
       have c44b0 := eq_true c44
       have c44b1 : decide (0 ≤ a1_2) = true := decide_eq_true c44
       clear c44
       obtain ⟨ji45, hji45⟩ : ∃ j_ : Int, (shl .i64 1 a1_2) = j_ := ⟨_, rfl⟩
       replace H : ((some (t313.set (a1_1 : Int).toNat (Go.bits .xor .i64 (rd t313 a1_1) (ji45)) : List Int)).bind fun y324 => (if a1_2 < (t313.length : Int) then (some ((y324.set (a1_2 : Int).toNat (Go.bits .xor .i64 (rd y324 a1_2) (shl .i64 1 a1_1))), t316, t317)) else (none))) = some (r1, r2, r3) := by first | (rw [hji45] at H; exact H) | (simp only [hji45] at H ⊢; exact H)
       have hji45_ : (IntKind.i64.wrap (1 * 2 ^ min a1_2.toNat 64)) = ji45 := hji45
       have hji45z : a1_2 ≤ 64 → (IntKind.i64.wrap (1 * 2 ^ a1_2.toNat)) = ji45 := shl_small hji45
       have hji45u : (IntKind.i64.wrap (2 ^ min a1_2.toNat 64)) = ji45 := by have h_ := hji45_; rw [Int.one_mul] at h_; exact h_
       have hji45v : a1_2 ≤ 64 → (IntKind.i64.wrap (2 ^ a1_2.toNat)) = ji45 := fun hle_ => by have h_ := hji45z hle_; rw [Int.one_mul] at h_; exact h_
       have hji45y : (wrap64 (1 * 2 ^ min a1_2.toNat 64)) = ji45 := (i64_w _).symm.trans hji45_
       have hji45x : a1_2 ≤ 64 → (wrap64 (1 * 2 ^ a1_2.toNat)) = ji45 := fun h_ => (i64_w _).symm.trans (hji45z h_)
       obtain ⟨y324, hy324⟩ : ∃ y_ : List Int, y_ = (t313.set (a1_1 : Int).toNat (Go.bits .xor .i64 (rd t313 a1_1) (ji45))) := ⟨_, rfl⟩
       replace H : (if a1_2 < (t313.length : Int) then (some ((y324.set (a1_2 : Int).toNat (Go.bits .xor .i64 (rd y324 a1_2) (shl .i64 1 a1_1))), t316, t317)) else (none)) = some (r1, r2, r3) := by first | (rw [hy324]; with_reducible exact H) | (have H2_ := (Option.bind_some _ _).symm.trans H; rw [hy324]; with_reducible exact H2_) | (have H2_ := (Option.bind_some _ _).symm.trans H; with_reducible exact H2_) | with_reducible exact H | (rw [hy324]; exact H) | exact H
       have Ny324 := Aside0.mk hy324
       clear hy324
       by_cases c47 : a1_2 < (t313.length : Int)
       ·rw [if_pos c47] at H
        have c47b0 : decide (a1_2 < (t313.length : Int)) = true := decide_eq_true c47
        clear c47
        have c48b0 := eq_true (od : 0 ≤ a1_1)
        obtain ⟨ji49, hji49⟩ : ∃ j_ : Int, (shl .i64 1 a1_1) = j_ := ⟨_, rfl⟩
        replace H : (some ((y324.set (a1_2 : Int).toNat (Go.bits .xor .i64 (rd y324 a1_2) (ji49))), t316, t317)) = some (r1, r2, r3) := by first | (rw [hji49] at H; exact H) | (simp only [hji49] at H ⊢; exact H)
        have hji49_ : (IntKind.i64.wrap (1 * 2 ^ min a1_1.toNat 64)) = ji49 := hji49
        have hji49z : a1_1 ≤ 64 → (IntKind.i64.wrap (1 * 2 ^ a1_1.toNat)) = ji49 := shl_small hji49
        have hji49u : (IntKind.i64.wrap (2 ^ min a1_1.toNat 64)) = ji49 := by have h_ := hji49_; rw [Int.one_mul] at h_; exact h_
        have hji49v : a1_1 ≤ 64 → (IntKind.i64.wrap (2 ^ a1_1.toNat)) = ji49 := fun hle_ => by have h_ := hji49z hle_; rw [Int.one_mul] at h_; exact h_
        have hji49y : (wrap64 (1 * 2 ^ min a1_1.toNat 64)) = ji49 := (i64_w _).symm.trans hji49_
        have hji49x : a1_1 ≤ 64 → (wrap64 (1 * 2 ^ a1_1.toNat)) = ji49 := fun h_ => (i64_w _).symm.trans (hji49z h_)
        obtain ⟨y326, hy326⟩ : ∃ y_ : List Int, y_ = (y324.set (a1_2 : Int).toNat (Go.bits .xor .i64 (rd y324 a1_2) (ji49))) := ⟨_, rfl⟩
        replace H : (some (y326, t316, t317)) = some (r1, r2, r3) := by first | (rw [hy326]; with_reducible exact H) | (have H2_ := (Option.bind_some _ _).symm.trans H; rw [hy326]; with_reducible exact H2_) | (have H2_ := (Option.bind_some _ _).symm.trans H; with_reducible exact H2_) | with_reducible exact H | (rw [hy326]; exact H) | exact H
        have Ny326 := Aside0.mk hy326
        clear hy326
        simp only [Option.some.injEq, Prod.mk.injEq] at H
        obtain ⟨rfl, rfl, rfl⟩ := H
        try go_wp2
        have n0_ := Aside0.mk (Kd.R_drew HO_321000.out)
        have n1_ := Aside0.mk (Kd.R_drew HO_321002.out)
        have n2_ := Aside0.mk (blk_drew BK310.out)
        have n3_ := Aside0.mk (blk_drew BK311.out)
        have n4_ := Aside0.mk (blk_drew BK312.out)
        have n5_ := Aside0.mk (blk_drew BK320.out)
        have n6_ := Aside0.mk (below_drew1 HB.out)
        clear HO_321000 HO_321002 BK310 BK311 BK312 BK320 HB
        revert n0_ n1_ n2_ n3_ n4_ n5_ n6_
        intro HO_321000 HO_321002 BK310 BK311 BK312 BK320 HB
        have p323 : 0 ≤ (a1_1 : Int) := od
        have q323 : a1_1 < (t313.length : Int) := od
        obtain ⟨ad323, e323, hx323_0⟩ := Kd.at_int (Kd.R_reads' HO_321000.out).2.2 a1_1 p323 q323
        cases e323
        replace p323 := eq_true p323
        replace q323 := eq_true q323
        have p46 : 0 ≤ (a1_1 : Int) := od
        have q46 : (a1_1 : Int) < ((t313.length : Int) : Int) := od
        obtain ⟨go46, co46, eo46, gb46, gl46, cl46, HG46⟩ := Kd.R_form HO_321000.out (by omega)
        (first | cases eo46 | (injection eo46 with ea_ en_ ec_; (first | subst ea_ | (injection ea_ with ea_; subst ea_)); subst ec_; clear en_))
        have GB46 := Aside0.mk gb46
        have GG46 := Aside0.mk HG46
        clear gb46 gl46 HG46
        (first | simp only [add_plain] at hx323_0 | skip)
        obtain ⟨hx46_0, hf46_0⟩ := Kd.R_celln 0 HO_321000.out (a1_1 : Int) p46 q46
        replace p46 := eq_true p46
        replace q46 := eq_true q46
        have HP52 := Kd.R_putn HO_321000.out (a1_1 : Int) (Go.bits .xor .i64 (rd t313 a1_1) (ji45))
        rw [← Ny324.out] at HP52
        have HQ52 := Aside0.mk HP52
        clear HP52
        refine start_ (n := 16) (S := fun w' => w'.cell? ⟨gb320, 0, none⟩ = some (.slice (some ⟨go46, 0, none⟩) t313.length co13) ∧ w'.cell? ⟨gb320, 1, none⟩ = some (.int .i64 t316) ∧ w'.cell? ⟨gb320, 2, none⟩ = some (.slice Ao18 t317.length co18) ∧ w'.cell? ⟨gb311, 0, none⟩ = some (.int .i64 a1_0) ∧ w'.cell? ⟨gb311, 1, none⟩ = some (.int .i64 a1_1) ∧ w'.cell? ⟨gb311, 2, none⟩ = some (.int .i64 a1_2) ∧ w'.cell? ⟨go46, (a1_1).toNat, none⟩ = some (.int .i64 (rd t313 a1_1))) (ds := [15]) #[false, false, false, false, false, false, false, false, false, false, false, false, false, false, false, false] (by kernel_rfl) rfl rfl ⟨(blk_cell BK320.out 0).trans rfl, (blk_cell BK320.out 1).trans rfl, (blk_cell BK320.out 2).trans rfl, (blk_cell BK311.out 0).trans rfl, (blk_cell BK311.out 1).trans rfl, (blk_cell BK311.out 2).trans rfl, hx323_0⟩ (fun hHeld => ?_); refine with_tabW spec_l15Made.tab4 spec_l15Made.bits4 (fun HT_ HW_ => ?_)
        generalize wc.drew = w51 at HO_321000 HO_321002 BK310 BK311 BK312 BK320 HB GG46 HQ52 hf46_0 hx323_0 hx46_0 hHeld ⊢
        refine pureq (i := 0) (N := some 40) #[true, false, false, false, false, false, false, false, false, false, false, false, false, false, false, false] rfl rfl HT_.out ?_
        refine pureq (i := 2) (N := some 42) #[true, false, true, false, false, false, false, false, false, false, false, false, false, false, false, false] rfl rfl HT_.out ?_
        refine pureq (i := 4) (N := some 44) #[true, false, true, false, true, false, false, false, false, false, false, false, false, false, false, false] rfl rfl HT_.out ?_
        refine pureq (i := 6) (N := some 46) #[true, false, true, false, true, false, true, false, false, false, false, false, false, false, false, false] rfl rfl HT_.out ?_
        refine pureq (i := 10) (N := some 50) #[true, false, true, false, true, false, true, false, false, false, true, false, false, false, false, false] rfl rfl HT_.out ?_
        refine take_ (i := 1) (N := some 41) (v := ?_) (a' := ?_) #[true, true, true, false, true, false, true, false, false, false, true, false, false, false, false, false] rfl rfl (take_ofW HT_.out HW_.out (by kernel_rfl)) (fun _ _ _ h => h) (Or.inl ⟨by rfl, ?_⟩) hHeld ?_ ?_
        rotate_left
        ·rintro w' ⟨s0, s1, s2, s3, s4, s5, s6⟩
         go_simp
         with_reducible rfl
        rotate_left
        ·simp only [Act.put, List.setIfInBounds_toArray, List.set_cons_zero, List.set_cons_succ, i64_w, i32_w]
         rfl
        refine take_ (i := 3) (N := some 43) (v := ?_) (a' := ?_) #[true, true, true, true, true, false, true, false, false, false, true, false, false, false, false, false] rfl rfl (take_ofW HT_.out HW_.out (by kernel_rfl)) (fun _ _ _ h => h) (Or.inl ⟨by rfl, ?_⟩) hHeld ?_ ?_
        rotate_left
        ·rintro w' ⟨s0, s1, s2, s3, s4, s5, s6⟩
         go_simp
         with_reducible rfl
        rotate_left
        ·simp only [Act.put, List.setIfInBounds_toArray, List.set_cons_zero, List.set_cons_succ, i64_w, i32_w]
         rfl
        refine take_ (i := 5) (N := some 45) (v := ?_) (a' := ?_) #[true, true, true, true, true, true, true, false, false, false, true, false, false, false, false, false] rfl rfl (take_ofW HT_.out HW_.out (by kernel_rfl)) (fun _ _ _ h => h) (Or.inl ⟨by rfl, ?_⟩) hHeld ?_ ?_
        rotate_left
        ·rintro w' ⟨s0, s1, s2, s3, s4, s5, s6⟩
         go_simp
         with_reducible rfl
        rotate_left
        ·simp only [Act.put, List.setIfInBounds_toArray, List.set_cons_zero, List.set_cons_succ, i64_w, i32_w]
         rfl
        refine take_ (i := 7) (N := some 47) (v := ?_) (a' := ?_) #[true, true, true, true, true, true, true, true, false, false, true, false, false, false, false, false] rfl rfl (take_ofW HT_.out HW_.out (by kernel_rfl)) (fun _ _ _ h => h) (Or.inl ⟨by rfl, ?_⟩) hHeld ?_ ?_
        rotate_left
        ·rintro w' ⟨s0, s1, s2, s3, s4, s5, s6⟩
         go_simp
         with_reducible rfl
        rotate_left
        ·simp only [Act.put, List.setIfInBounds_toArray, List.set_cons_zero, List.set_cons_succ, i64_w, i32_w]
         rfl
        refine pureq (i := 8) (N := some 48) #[true, true, true, true, true, true, true, true, true, false, true, false, false, false, false, false] rfl rfl HT_.out ?_
        refine take_ (i := 9) (N := some 49) (v := ?_) (a' := ?_) #[true, true, true, true, true, true, true, true, true, true, true, false, false, false, false, false] rfl rfl (take_ofW HT_.out HW_.out (by kernel_rfl)) (fun _ _ _ h => h) (Or.inl ⟨by rfl, ?_⟩) hHeld ?_ ?_
        rotate_left
        ·rintro w' ⟨s0, s1, s2, s3, s4, s5, s6⟩
         go_simp
         with_reducible rfl
        rotate_left
        ·simp only [Act.put, List.setIfInBounds_toArray, List.set_cons_zero, List.set_cons_succ, i64_w, i32_w]
         rfl
        refine take_ (i := 11) (N := some 51) (v := ?_) (a' := ?_) #[true, true, true, true, true, true, true, true, true, true, true, true, false, false, false, false] rfl rfl (take_ofW HT_.out HW_.out (by kernel_rfl)) (fun _ _ _ h => h) (Or.inl ⟨by rfl, ?_⟩) hHeld ?_ ?_
        rotate_left
        ·rintro w' ⟨s0, s1, s2, s3, s4, s5, s6⟩
         go_simp
         with_reducible rfl
        rotate_left
        ·simp only [Act.put, List.setIfInBounds_toArray, List.set_cons_zero, List.set_cons_succ, i64_w, i32_w]
         rfl
        refine pureq (i := 12) (N := some 52) #[true, true, true, true, true, true, true, true, true, true, true, true, true, false, false, false] rfl rfl HT_.out ?_
        refine pureq (i := 13) (N := some 53) #[true, true, true, true, true, true, true, true, true, true, true, true, true, true, false, false] rfl rfl HT_.out ?_
        refine pureq (i := 14) (N := some 54) #[true, true, true, true, true, true, true, true, true, true, true, true, true, true, true, false] rfl rfl HT_.out ?_
        refine last_ (i := 15) (N := none) #[true, true, true, true, true, true, true, true, true, true, true, true, true, true, true, true] rfl rfl (one_of HT_.out (by kernel_rfl)) (by decide) (fun K hK => ?_)
        refine skip_ (w1 := ?_) (by rfl) rfl ?_ ?_
        rotate_left
        ·go_simp
         rfl
        refine hK.out _ _ ?_
        clear hK K
        refine done_ (done_of HT_.out (by kernel_rfl)) ?_
        have n0_ : Aside0 (Kd.R (Kd.int .i64) 3 (w51.setCell ⟨go46, (a1_1 : Int).toNat, none⟩ (.int .i64 (Go.bits .xor .i64 (rd t313 a1_1) (ji45)))) w.heap.size (fun k_ => some k_ ≠ (.slice Ao18 t317.length co18 : Value).ownBlock) (.slice (some ⟨go46, 0, none⟩) t313.length co13) y324) := ⟨by refine roq ?_; exact HQ52.out⟩
        have n1_ : Aside0 (Kd.R (Kd.int .i64) 3 (w51.setCell ⟨go46, (a1_1 : Int).toNat, none⟩ (.int .i64 (Go.bits .xor .i64 (rd t313 a1_1) (ji45)))) w.heap.size (fun k_ => some k_ ≠ (.slice (some ⟨go46, 0, none⟩) t313.length co13 : Value).ownBlock) (.slice Ao18 t317.length co18) t317) := ⟨by refine roq ?_; exact Kd.R_mono (Kd.R_far (p := ⟨go46, (a1_1 : Int).toNat, none⟩) (Kd.R_mono HO_321002.out (fun k_ hk => (⟨hk, fun e_ => hk (by rw [e_]; rfl)⟩ : _ ∧ k_ ≠ go46))) (fun _ hk => hk.2) (.int .i64 (Go.bits .xor .i64 (rd t313 a1_1) (ji45)))) (fun _ hk => hk.1)⟩
        have n2_ : Aside0 ((w51.setCell ⟨go46, (a1_1 : Int).toNat, none⟩ (.int .i64 (Go.bits .xor .i64 (rd t313 a1_1) (ji45)))).heap[gb310]? = some (.cells #[.slice A0_0 l0_0.length c0_0, .int .i64 a0_1, .slice A0_2 l0_2.length c0_2] 26 (0, 0))) := ⟨by refine bkq ?_; refine blk_far ?_ (by have h_ := Kd.R_ne HO_321000.out BK310.out (by decide); intro e_; exact h_ (by rw [e_]; rfl)) _; refine bkq ?_; exact BK310.out⟩
        have n3_ : Aside0 ((w51.setCell ⟨go46, (a1_1 : Int).toNat, none⟩ (.int .i64 (Go.bits .xor .i64 (rd t313 a1_1) (ji45)))).heap[gb311]? = some (.cells #[.int .i64 a1_0, .int .i64 a1_1, .int .i64 a1_2] 81 (0, 0))) := ⟨by refine bkq ?_; refine blk_far ?_ (by have h_ := Kd.R_ne HO_321000.out BK311.out (by decide); intro e_; exact h_ (by rw [e_]; rfl)) _; refine bkq ?_; exact BK311.out⟩
        have n4_ : Aside0 ((w51.setCell ⟨go46, (a1_1 : Int).toNat, none⟩ (.int .i64 (Go.bits .xor .i64 (rd t313 a1_1) (ji45)))).heap[gb312]? = some (.cells #[.slice none 0 0, .int .i64 0, .slice none 0 0] 26 (0, 0))) := ⟨by refine bkq ?_; refine blk_far ?_ (by have h_ := Kd.R_ne HO_321000.out BK312.out (by decide); intro e_; exact h_ (by rw [e_]; rfl)) _; refine bkq ?_; exact BK312.out⟩
        have n5_ : Aside0 ((w51.setCell ⟨go46, (a1_1 : Int).toNat, none⟩ (.int .i64 (Go.bits .xor .i64 (rd t313 a1_1) (ji45)))).heap[gb320]? = some (.cells #[.slice (some ⟨go46, 0, none⟩) t313.length co13, .int .i64 t316, .slice Ao18 t317.length co18] 26 (0, 0))) := ⟨by refine bkq ?_; refine blk_far ?_ (by have h_ := Kd.R_ne HO_321000.out BK320.out (by decide); intro e_; exact h_ (by rw [e_]; rfl)) _; refine bkq ?_; exact BK320.out⟩
        have n6_ : Aside0 (Below w.heap.size w (w51.setCell ⟨go46, (a1_1 : Int).toNat, none⟩ (.int .i64 (Go.bits .xor .i64 (rd t313 a1_1) (ji45))))) := ⟨by repeat (first | (with_reducible first | exact HB.out | apply below_alloc | apply pw_below_drewN | apply below_drew1 | refine below_set ?_ GB46.out | refine below_set ?_ GE310.out | refine below_set ?_ GE311.out | refine below_set ?_ GE312.out | refine below_set ?_ GE320.out) | exact HB.out)⟩
        (try clear HO_321000)
        (try clear HO_321002)
        (try clear BK310)
        (try clear BK311)
        (try clear BK312)
        (try clear BK320)
        (try clear HB)
        generalize (w51.setCell ⟨go46, (a1_1 : Int).toNat, none⟩ (.int .i64 (Go.bits .xor .i64 (rd t313 a1_1) (ji45)))) = w53 at n0_ n1_ n2_ n3_ n4_ n5_ n6_ ⊢
        have HO_321000 := n0_
        have HO_321002 := n1_
        have BK310 := n2_
        have BK311 := n3_
        have BK312 := n4_
        have BK320 := n5_
        have HB := n6_
        clear n0_ n1_ n2_ n3_ n4_ n5_ n6_
        try go_wp2
        have n0_ := Aside0.mk (Kd.R_drew HO_321000.out)
        have n1_ := Aside0.mk (Kd.R_drew HO_321002.out)
        have n2_ := Aside0.mk (blk_drew BK310.out)
        have n3_ := Aside0.mk (blk_drew BK311.out)
        have n4_ := Aside0.mk (blk_drew BK312.out)
        have n5_ := Aside0.mk (blk_drew BK320.out)
        have n6_ := Aside0.mk (below_drew1 HB.out)
        clear HO_321000 HO_321002 BK310 BK311 BK312 BK320 HB
        revert n0_ n1_ n2_ n3_ n4_ n5_ n6_
        intro HO_321000 HO_321002 BK310 BK311 BK312 BK320 HB
        have p325 : 0 ≤ (a1_2 : Int) := od
        have q325 : a1_2 < (y324.length : Int) := (by have h_ : (a1_2 : Int) < ((t313.length : Int) : Int) := od; first | (have e_ := (Kd.R_reads' HO_321000.out).1; omega) | simpa only [Ny324.out, List.length_set] using h_)
        have ql325 : ((a1_2 : Int) < ((t313.length : Int) : Int)) = True := eq_true (od)
        obtain ⟨ad325, e325, hx325_0⟩ := Kd.at_int (Kd.R_reads' HO_321000.out).2.2 a1_2 p325 q325
        obtain rfl : (⟨go46, 0, none⟩ : Addr) = ad325 := (by injection e325)
        (first | simp only [add_plain] at hx325_0 | simp only [add_at] at hx325_0 | simp only [Addr.add, Nat.zero_add] at hx325_0 | skip)
        replace p325 := eq_true p325
        replace q325 := eq_true q325
        have p50 : 0 ≤ (a1_2 : Int) := od
        have q50 : (a1_2 : Int) < ((t313.length : Int) : Int) := od
        obtain ⟨hx50_0, hf50_0⟩ := Kd.R_celln 0 HO_321000.out (a1_2 : Int) p50 q50
        replace p50 := eq_true p50
        replace q50 := eq_true q50
        have HP55 := Kd.R_putn HO_321000.out (a1_2 : Int) (Go.bits .xor .i64 (rd y324 a1_2) (ji49))
        rw [← Ny326.out] at HP55
        have HQ55 := Aside0.mk HP55
        clear HP55
        refine start_ (n := 16) (S := fun w' => w'.cell? ⟨gb320, 0, none⟩ = some (.slice (some ⟨go46, 0, none⟩) t313.length co13) ∧ w'.cell? ⟨gb320, 1, none⟩ = some (.int .i64 t316) ∧ w'.cell? ⟨gb320, 2, none⟩ = some (.slice Ao18 t317.length co18) ∧ w'.cell? ⟨gb311, 0, none⟩ = some (.int .i64 a1_0) ∧ w'.cell? ⟨gb311, 1, none⟩ = some (.int .i64 a1_1) ∧ w'.cell? ⟨gb311, 2, none⟩ = some (.int .i64 a1_2) ∧ w'.cell? ⟨go46, (a1_2).toNat, none⟩ = some (.int .i64 (rd y324 a1_2))) (ds := [15]) #[false, false, false, false, false, false, false, false, false, false, false, false, false, false, false, false] (by kernel_rfl) rfl rfl ⟨(blk_cell BK320.out 0).trans rfl, (blk_cell BK320.out 1).trans rfl, (blk_cell BK320.out 2).trans rfl, (blk_cell BK311.out 0).trans rfl, (blk_cell BK311.out 1).trans rfl, (blk_cell BK311.out 2).trans rfl, hx325_0⟩ (fun hHeld => ?_); refine with_tabW spec_l15Made.tab5 spec_l15Made.bits5 (fun HT_ HW_ => ?_)
        generalize w53.drew = w54 at HO_321000 HO_321002 BK310 BK311 BK312 BK320 HB HQ55 hf50_0 hx325_0 hx50_0 hHeld ⊢
        refine pureq (i := 0) (N := some 55) #[true, false, false, false, false, false, false, false, false, false, false, false, false, false, false, false] rfl rfl HT_.out ?_
        refine pureq (i := 2) (N := some 57) #[true, false, true, false, false, false, false, false, false, false, false, false, false, false, false, false] rfl rfl HT_.out ?_
        refine pureq (i := 4) (N := some 59) #[true, false, true, false, true, false, false, false, false, false, false, false, false, false, false, false] rfl rfl HT_.out ?_
        refine pureq (i := 6) (N := some 61) #[true, false, true, false, true, false, true, false, false, false, false, false, false, false, false, false] rfl rfl HT_.out ?_
        refine pureq (i := 10) (N := some 65) #[true, false, true, false, true, false, true, false, false, false, true, false, false, false, false, false] rfl rfl HT_.out ?_
        refine take_ (i := 1) (N := some 56) (v := ?_) (a' := ?_) #[true, true, true, false, true, false, true, false, false, false, true, false, false, false, false, false] rfl rfl (take_ofW HT_.out HW_.out (by kernel_rfl)) (fun _ _ _ h => h) (Or.inl ⟨by rfl, ?_⟩) hHeld ?_ ?_
        rotate_left
        ·rintro w' ⟨s0, s1, s2, s3, s4, s5, s6⟩
         go_simp
         with_reducible rfl
        rotate_left
        ·simp only [Act.put, List.setIfInBounds_toArray, List.set_cons_zero, List.set_cons_succ, i64_w, i32_w]
         rfl
        refine take_ (i := 3) (N := some 58) (v := ?_) (a' := ?_) #[true, true, true, true, true, false, true, false, false, false, true, false, false, false, false, false] rfl rfl (take_ofW HT_.out HW_.out (by kernel_rfl)) (fun _ _ _ h => h) (Or.inl ⟨by rfl, ?_⟩) hHeld ?_ ?_
        rotate_left
        ·rintro w' ⟨s0, s1, s2, s3, s4, s5, s6⟩
         go_simp
         with_reducible rfl
        rotate_left
        ·simp only [Act.put, List.setIfInBounds_toArray, List.set_cons_zero, List.set_cons_succ, i64_w, i32_w]
         rfl
        refine take_ (i := 5) (N := some 60) (v := ?_) (a' := ?_) #[true, true, true, true, true, true, true, false, false, false, true, false, false, false, false, false] rfl rfl (take_ofW HT_.out HW_.out (by kernel_rfl)) (fun _ _ _ h => h) (Or.inl ⟨by rfl, ?_⟩) hHeld ?_ ?_
        rotate_left
        ·rintro w' ⟨s0, s1, s2, s3, s4, s5, s6⟩
         go_simp
         with_reducible rfl
        rotate_left
        ·simp only [Act.put, List.setIfInBounds_toArray, List.set_cons_zero, List.set_cons_succ, i64_w, i32_w]
         rfl
        refine take_ (i := 7) (N := some 62) (v := ?_) (a' := ?_) #[true, true, true, true, true, true, true, true, false, false, true, false, false, false, false, false] rfl rfl (take_ofW HT_.out HW_.out (by kernel_rfl)) (fun _ _ _ h => h) (Or.inl ⟨by rfl, ?_⟩) hHeld ?_ ?_
        rotate_left
        ·rintro w' ⟨s0, s1, s2, s3, s4, s5, s6⟩
         go_simp
         with_reducible rfl
        rotate_left
        ·simp only [Act.put, List.setIfInBounds_toArray, List.set_cons_zero, List.set_cons_succ, i64_w, i32_w]
         rfl
        refine pureq (i := 8) (N := some 63) #[true, true, true, true, true, true, true, true, true, false, true, false, false, false, false, false] rfl rfl HT_.out ?_
        refine take_ (i := 9) (N := some 64) (v := ?_) (a' := ?_) #[true, true, true, true, true, true, true, true, true, true, true, false, false, false, false, false] rfl rfl (take_ofW HT_.out HW_.out (by kernel_rfl)) (fun _ _ _ h => h) (Or.inl ⟨by rfl, ?_⟩) hHeld ?_ ?_
        rotate_left
        ·rintro w' ⟨s0, s1, s2, s3, s4, s5, s6⟩
         go_simp
         with_reducible rfl
        rotate_left
        ·simp only [Act.put, List.setIfInBounds_toArray, List.set_cons_zero, List.set_cons_succ, i64_w, i32_w]
         rfl
        refine take_ (i := 11) (N := some 66) (v := ?_) (a' := ?_) #[true, true, true, true, true, true, true, true, true, true, true, true, false, false, false, false] rfl rfl (take_ofW HT_.out HW_.out (by kernel_rfl)) (fun _ _ _ h => h) (Or.inl ⟨by rfl, ?_⟩) hHeld ?_ ?_
        rotate_left
        ·rintro w' ⟨s0, s1, s2, s3, s4, s5, s6⟩
         go_simp
         with_reducible rfl
        rotate_left
        ·simp only [Act.put, List.setIfInBounds_toArray, List.set_cons_zero, List.set_cons_succ, i64_w, i32_w]
         rfl
        refine pureq (i := 12) (N := some 67) #[true, true, true, true, true, true, true, true, true, true, true, true, true, false, false, false] rfl rfl HT_.out ?_
        refine pureq (i := 13) (N := some 68) #[true, true, true, true, true, true, true, true, true, true, true, true, true, true, false, false] rfl rfl HT_.out ?_
        refine pureq (i := 14) (N := some 69) #[true, true, true, true, true, true, true, true, true, true, true, true, true, true, true, false] rfl rfl HT_.out ?_
        refine last_ (i := 15) (N := none) #[true, true, true, true, true, true, true, true, true, true, true, true, true, true, true, true] rfl rfl (one_of HT_.out (by kernel_rfl)) (by decide) (fun K hK => ?_)
        refine skip_ (w1 := ?_) (by rfl) rfl ?_ ?_
        rotate_left
        ·go_simp
         rfl
        refine hK.out _ _ ?_
        clear hK K
        refine done_ (done_of HT_.out (by kernel_rfl)) ?_
        have n0_ : Aside0 (Kd.R (Kd.int .i64) 3 (w54.setCell ⟨go46, (a1_2 : Int).toNat, none⟩ (.int .i64 (Go.bits .xor .i64 (rd y324 a1_2) (ji49)))) w.heap.size (fun k_ => some k_ ≠ (.slice Ao18 t317.length co18 : Value).ownBlock) (.slice (some ⟨go46, 0, none⟩) t313.length co13) y326) := ⟨by refine roq ?_; exact HQ55.out⟩
        have n1_ : Aside0 (Kd.R (Kd.int .i64) 3 (w54.setCell ⟨go46, (a1_2 : Int).toNat, none⟩ (.int .i64 (Go.bits .xor .i64 (rd y324 a1_2) (ji49)))) w.heap.size (fun k_ => some k_ ≠ (.slice (some ⟨go46, 0, none⟩) t313.length co13 : Value).ownBlock) (.slice Ao18 t317.length co18) t317) := ⟨by refine roq ?_; exact Kd.R_mono (Kd.R_far (p := ⟨go46, (a1_2 : Int).toNat, none⟩) (Kd.R_mono HO_321002.out (fun k_ hk => (⟨hk, fun e_ => hk (by rw [e_]; rfl)⟩ : _ ∧ k_ ≠ go46))) (fun _ hk => hk.2) (.int .i64 (Go.bits .xor .i64 (rd y324 a1_2) (ji49)))) (fun _ hk => hk.1)⟩
        have n2_ : Aside0 ((w54.setCell ⟨go46, (a1_2 : Int).toNat, none⟩ (.int .i64 (Go.bits .xor .i64 (rd y324 a1_2) (ji49)))).heap[gb310]? = some (.cells #[.slice A0_0 l0_0.length c0_0, .int .i64 a0_1, .slice A0_2 l0_2.length c0_2] 26 (0, 0))) := ⟨by refine bkq ?_; refine blk_far ?_ (by have h_ := Kd.R_ne HO_321000.out BK310.out (by decide); intro e_; exact h_ (by rw [e_]; rfl)) _; refine bkq ?_; exact BK310.out⟩
        have n3_ : Aside0 ((w54.setCell ⟨go46, (a1_2 : Int).toNat, none⟩ (.int .i64 (Go.bits .xor .i64 (rd y324 a1_2) (ji49)))).heap[gb311]? = some (.cells #[.int .i64 a1_0, .int .i64 a1_1, .int .i64 a1_2] 81 (0, 0))) := ⟨by refine bkq ?_; refine blk_far ?_ (by have h_ := Kd.R_ne HO_321000.out BK311.out (by decide); intro e_; exact h_ (by rw [e_]; rfl)) _; refine bkq ?_; exact BK311.out⟩
        have n4_ : Aside0 ((w54.setCell ⟨go46, (a1_2 : Int).toNat, none⟩ (.int .i64 (Go.bits .xor .i64 (rd y324 a1_2) (ji49)))).heap[gb312]? = some (.cells #[.slice none 0 0, .int .i64 0, .slice none 0 0] 26 (0, 0))) := ⟨by refine bkq ?_; refine blk_far ?_ (by have h_ := Kd.R_ne HO_321000.out BK312.out (by decide); intro e_; exact h_ (by rw [e_]; rfl)) _; refine bkq ?_; exact BK312.out⟩
        have n5_ : Aside0 ((w54.setCell ⟨go46, (a1_2 : Int).toNat, none⟩ (.int .i64 (Go.bits .xor .i64 (rd y324 a1_2) (ji49)))).heap[gb320]? = some (.cells #[.slice (some ⟨go46, 0, none⟩) t313.length co13, .int .i64 t316, .slice Ao18 t317.length co18] 26 (0, 0))) := ⟨by refine bkq ?_; refine blk_far ?_ (by have h_ := Kd.R_ne HO_321000.out BK320.out (by decide); intro e_; exact h_ (by rw [e_]; rfl)) _; refine bkq ?_; exact BK320.out⟩
        have n6_ : Aside0 (Below w.heap.size w (w54.setCell ⟨go46, (a1_2 : Int).toNat, none⟩ (.int .i64 (Go.bits .xor .i64 (rd y324 a1_2) (ji49))))) := ⟨by repeat (first | (with_reducible first | exact HB.out | apply below_alloc | apply pw_below_drewN | apply below_drew1 | refine below_set ?_ GB46.out | refine below_set ?_ GE310.out | refine below_set ?_ GE311.out | refine below_set ?_ GE312.out | refine below_set ?_ GE320.out) | exact HB.out)⟩
        (try clear HO_321000)
        (try clear HO_321002)
        (try clear BK310)
        (try clear BK311)
        (try clear BK312)
        (try clear BK320)
        (try clear HB)
        generalize (w54.setCell ⟨go46, (a1_2 : Int).toNat, none⟩ (.int .i64 (Go.bits .xor .i64 (rd y324 a1_2) (ji49)))) = w56 at n0_ n1_ n2_ n3_ n4_ n5_ n6_ ⊢
        have HO_321000 := n0_
        have HO_321002 := n1_
        have BK310 := n2_
        have BK311 := n3_
        have BK312 := n4_
        have BK320 := n5_
        have HB := n6_
        clear n0_ n1_ n2_ n3_ n4_ n5_ n6_
        have hnb57 := NB320_310.out
        have hnc57 := NB310_320.out
        have hnb58 := NB320_311.out
        have hnc58 := NB311_320.out
        have hnb59 := NB320_312.out
        have hnc59 := NB312_320.out
        have hcz60_0 : w56.cell? ⟨gb320, 0, none⟩ = some (.slice (some ⟨go46, 0, none⟩) t313.length co13) := (blk_cell BK320.out 0).trans rfl
        have hcz60_1 : w56.cell? ⟨gb320, 1, none⟩ = some (.int .i64 t316) := (blk_cell BK320.out 1).trans rfl
        have hcz60_2 : w56.cell? ⟨gb320, 2, none⟩ = some (.slice Ao18 t317.length co18) := (blk_cell BK320.out 2).trans rfl
        have hfz60_0 := blk_frozen BK320.out 0
        have hfz60_1 := blk_frozen BK320.out 1
        have hfz60_2 := blk_frozen BK320.out 2
        have hnb61 := NB312_310.out
        have hnc61 := NB310_312.out
        have hnb62 := NB312_311.out
        have hnc62 := NB311_312.out
        have hcz63_0 : w56.cell? ⟨gb312, 0, none⟩ = some (.slice none 0 0) := (blk_cell BK312.out 0).trans rfl
        have hcz63_1 : w56.cell? ⟨gb312, 1, none⟩ = some (.int .i64 0) := (blk_cell BK312.out 1).trans rfl
        have hcz63_2 : w56.cell? ⟨gb312, 2, none⟩ = some (.slice none 0 0) := (blk_cell BK312.out 2).trans rfl
        have hfz63_0 := blk_frozen BK312.out 0
        have hfz63_1 := blk_frozen BK312.out 1
        have hfz63_2 := blk_frozen BK312.out 2
        try go_wp2
        refine bodyPost_ret (results_cell_row rfl _ _ gb312 26 #[.slice (some ⟨go46, 0, none⟩) t313.length co13, .int .i64 t316, .slice Ao18 t317.length co18] (0, 0) _ rfl (by refine bkq ?_; refine blk_put (cs := #[.slice (some ⟨go46, 0, none⟩) t313.length co13, .int .i64 t316, .slice none 0 0]) ?_ 2 _ rfl; refine bkq ?_; refine blk_put (cs := #[.slice (some ⟨go46, 0, none⟩) t313.length co13, .int .i64 0, .slice none 0 0]) ?_ 1 _ rfl; refine bkq ?_; refine blk_put (cs := #[.slice none 0 0, .int .i64 0, .slice none 0 0]) ?_ 0 _ rfl; refine bkq ?_; exact BK312.out) Try.underlying26 rfl (by kernel_rfl)) rfl ?_
        exact ⟨_, _, by first | rfl | (simp [errW_none, errW_some] <;> rfl) | (simp only [← hji45, ← hji49]; first | rfl | (simp [errW_none, errW_some] <;> rfl)) | (simp [*, errW_none, errW_some] <;> rfl), by refine roq ?_; exact Kd.R_mono (Kd.R_far (p := ⟨gb312, 2, none⟩) (Kd.R_far (p := ⟨gb312, 1, none⟩) (Kd.R_far (p := ⟨gb312, 0, none⟩) (Kd.R_types HO_321000.out BK312.out (by decide)) (fun _ hk => hk.2) (.slice (some ⟨go46, 0, none⟩) t313.length co13)) (fun _ hk => hk.2) (.int .i64 t316)) (fun _ hk => hk.2) (.slice Ao18 t317.length co18)) (fun _ hk => hk.1), by refine roq ?_; exact Kd.R_mono (Kd.R_far (p := ⟨gb312, 2, none⟩) (Kd.R_far (p := ⟨gb312, 1, none⟩) (Kd.R_far (p := ⟨gb312, 0, none⟩) (Kd.R_types HO_321002.out BK312.out (by decide)) (fun _ hk => hk.2) (.slice (some ⟨go46, 0, none⟩) t313.length co13)) (fun _ hk => hk.2) (.int .i64 t316)) (fun _ hk => hk.2) (.slice Ao18 t317.length co18)) (fun _ hk => hk.1), hbqa HB.out⟩
       ·rw [if_neg c47] at H
        exact absurd H (by simp)
      ·rw [if_neg c44] at H
       exact absurd H (by simp)
     ·rw [if_neg c43] at H
      exact absurd H (by simp)
    ·rw [if_neg c42] at H
     exact absurd H (by simp)
   ·replace c41 := Bool.eq_false_iff.mpr c41
    subst c41
    have H1 : (if (a1_0 == 1 && (a1_2 == 0)) = true then ((spec_l1In.f a1_1 0 (wrap64 ((l0_0.length : Int) - 1))).bind fun t327 => (if t327 = true then (if 0 ≤ a1_1 then (if a1_1 < (l0_2.length : Int) then (spec_l15Made.j1 kj3 ((rd l0_2 a1_1) == 0) l0_0 a0_1 l0_2 a1_0 a1_1 a1_2 t313 t316 t317) else (none)) else (none)) else (spec_l15Made.j1 kj3 false l0_0 a0_1 l0_2 a1_0 a1_1 a1_2 t313 t316 t317))) else (spec_l15Made.j1 kj3 false l0_0 a0_1 l0_2 a1_0 a1_1 a1_2 t313 t316 t317)) = some (r1, r2, r3) := by rw [if_neg (show ¬ (false = true) by decide)] at H; exact H
    clear H
    have H := H1
    clear H1
    have HC64 := Aside0.mk H
    clear H
    go_upto_region 7 with (fail)
    go_cut [71] (fun v71 wc => ∃ (kq : Nat) (x71_63 : Bool), v71 = .bool x71_63 ∧ Aside0 (spec_l15Made.j1 kq x71_63 l0_0 a0_1 l0_2 a1_0 a1_1 a1_2 t313 t316 t317 = some (r1, r2, r3)) ∧ Aside0 (kq ≤ kj3) ∧ Aside0 (Kd.R (Kd.int .i64) 3 wc w.heap.size (fun k_ => some k_ ≠ ((.slice Ao18 t317.length co18) : Value).ownBlock) (.slice Ao13 t313.length co13) t313) ∧ Aside0 (Kd.R (Kd.int .i64) 3 wc w.heap.size (fun k_ => some k_ ≠ ((.slice Ao13 t313.length co13) : Value).ownBlock) (.slice Ao18 t317.length co18) t317) ∧ Aside0 (wc.heap[gb310]? = some (.cells #[(.slice A0_0 l0_0.length c0_0), .int .i64 a0_1, (.slice A0_2 l0_2.length c0_2)] 26 (0, 0))) ∧ Aside0 (wc.heap[gb311]? = some (.cells #[.int .i64 a1_0, .int .i64 a1_1, .int .i64 a1_2] 81 (0, 0))) ∧ Aside0 (wc.heap[gb312]? = some (.cells #[(.slice none 0 0), .int .i64 0, (.slice none 0 0)] 26 (0, 0))) ∧ Aside0 (wc.heap[gb320]? = some (.cells #[(.slice Ao13 t313.length co13), .int .i64 t316, (.slice Ao18 t317.length co18)] 26 (0, 0))) ∧ Aside0 (Below w.heap.size w wc))
    case first =>
     have H := HC64.out
     clear HC64
     by_cases c65 : (a1_0 == 1 && (a1_2 == 0)) = true
     ·rw [if_pos c65] at H
      have c65b0 : (a1_0 == 1 && (a1_2 == 0)) = true := c65
      (try (have c65b1 : decide (a1_0 = 1 && (a1_2 == 0)) = true := by simpa using c65))
      (try (have c65b2 : (a1_0 == 1 && (a1_2 == 0)) = true := by simpa using c65))
      clear c65
      (first | rw [c65b0] | (simp only [i64_w, i32_w]; rw [c65b0]) | skip)
      replace H := Option.bind_eq_some_iff.mp H
      obtain ⟨t327, A660, H⟩ := H
      replace H : (if t327 = true then (if 0 ≤ a1_1 then (if a1_1 < (l0_2.length : Int) then (spec_l15Made.j1 kj3 ((rd l0_2 a1_1) == 0) l0_0 a0_1 l0_2 a1_0 a1_1 a1_2 t313 t316 t317) else (none)) else (none)) else (spec_l15Made.j1 kj3 false l0_0 a0_1 l0_2 a1_0 a1_1 a1_2 t313 t316 t317)) = some (r1, r2, r3) := H
      have A66 := Aside0.mk A660
      clear A660
      by_cases c67 : t327 = true
      ·subst c67
       have H1 : (if 0 ≤ a1_1 then (if a1_1 < (l0_2.length : Int) then (spec_l15Made.j1 kj3 ((rd l0_2 a1_1) == 0) l0_0 a0_1 l0_2 a1_0 a1_1 a1_2 t313 t316 t317) else (none)) else (none)) = some (r1, r2, r3) := by rw [if_pos rfl] at H; exact H
       clear H
       have H := H1
       clear H1
       by_cases c68 : 0 ≤ a1_1
       ·rw [if_pos c68] at H
        have c68b0 : decide (0 ≤ a1_1) = true := decide_eq_true c68
        clear c68
        by_cases c69 : a1_1 < (l0_2.length : Int)
        ·rw [if_pos c69] at H
         have c69b0 : decide (a1_1 < (l0_2.length : Int)) = true := decide_eq_true c69
         clear c69
         have H' := Aside0.mk H
         clear H
         have hnb70 := NB311_310.out
         have hnc70 := NB310_311.out
         have hnb71 := NB311_312.out
         have hnc71 := NB312_311.out
         have hnb72 := NB311_320.out
         have hnc72 := NB320_311.out
         have hcz73_0 : wc.cell? ⟨gb311, 0, none⟩ = some (.int .i64 a1_0) := (blk_cell BK311.out 0).trans rfl
         have hcz73_1 : wc.cell? ⟨gb311, 1, none⟩ = some (.int .i64 a1_1) := (blk_cell BK311.out 1).trans rfl
         have hcz73_2 : wc.cell? ⟨gb311, 2, none⟩ = some (.int .i64 a1_2) := (blk_cell BK311.out 2).trans rfl
         have hfz73_0 := blk_frozen BK311.out 0
         have hfz73_1 := blk_frozen BK311.out 1
         have hfz73_2 := blk_frozen BK311.out 2
         go_wp2_with (first | (go_at_call 69; (with_reducible refine (spec_l1In.calls a1_1 0 (wrap64 ((l0_0.length : Int) - 1)) true _ A66.out).mono ?_); rintro e w' ⟨rfl, ⟨nd, rfl⟩⟩; have hnb74 := NB310_312.out; have hnc74 := NB312_310.out; have hnb75 := NB310_320.out; have hnc75 := NB320_310.out; have hcz76_0 : wc.cell? ⟨gb310, 0, none⟩ = some (.slice A0_0 l0_0.length c0_0) := (blk_cell BK310.out 0).trans rfl; have hcz76_1 : wc.cell? ⟨gb310, 1, none⟩ = some (.int .i64 a0_1) := (blk_cell BK310.out 1).trans rfl; have hcz76_2 : wc.cell? ⟨gb310, 2, none⟩ = some (.slice A0_2 l0_2.length c0_2) := (blk_cell BK310.out 2).trans rfl; have hfz76_0 := blk_frozen BK310.out 0; have hfz76_1 := blk_frozen BK310.out 1; have hfz76_2 := blk_frozen BK310.out 2; have p328 : 0 ≤ (a1_1 : Int) := od; have q328 : a1_1 < (l0_2.length : Int) := od; obtain ⟨ad328, e328, hx328_0⟩ := Kd.at_int HR0_2.out a1_1 p328 q328; cases e328; replace hx328_0 := (HB.out.cell (World.block_lt_of_cell? w _ hx328_0)).trans hx328_0; replace p328 := eq_true p328; replace q328 := eq_true q328))
         go_meet
         case rel => exact ⟨_, (((rd l0_2 a1_1) == 0)), rfq, H', ⟨by have := HJ3.out; first | omega | exact Nat.le_refl _⟩, ⟨by refine roq ?_; exact HO_321000.out⟩, ⟨by refine roq ?_; exact HO_321002.out⟩, ⟨by refine bkq ?_; exact BK310.out⟩, ⟨by refine bkq ?_; exact BK311.out⟩, ⟨by refine bkq ?_; exact BK312.out⟩, ⟨by refine bkq ?_; exact BK320.out⟩, ⟨hbqa HB.out⟩⟩
        ·rw [if_neg c69] at H
         exact absurd H (by simp)
       ·rw [if_neg c68] at H
        exact absurd H (by simp)
      ·replace c67 := Bool.eq_false_iff.mpr c67
       subst c67
       have H1 : (spec_l15Made.j1 kj3 false l0_0 a0_1 l0_2 a1_0 a1_1 a1_2 t313 t316 t317) = some (r1, r2, r3) := by rw [if_neg (show ¬ (false = true) by decide)] at H; exact H
       clear H
       have H := H1
       clear H1
       have H' := Aside0.mk H
       clear H
       have hnb77 := NB311_310.out
       have hnc77 := NB310_311.out
       have hnb78 := NB311_312.out
       have hnc78 := NB312_311.out
       have hnb79 := NB311_320.out
       have hnc79 := NB320_311.out
       have hcz80_0 : wc.cell? ⟨gb311, 0, none⟩ = some (.int .i64 a1_0) := (blk_cell BK311.out 0).trans rfl
       have hcz80_1 : wc.cell? ⟨gb311, 1, none⟩ = some (.int .i64 a1_1) := (blk_cell BK311.out 1).trans rfl
       have hcz80_2 : wc.cell? ⟨gb311, 2, none⟩ = some (.int .i64 a1_2) := (blk_cell BK311.out 2).trans rfl
       have hfz80_0 := blk_frozen BK311.out 0
       have hfz80_1 := blk_frozen BK311.out 1
       have hfz80_2 := blk_frozen BK311.out 2
       go_wp2_with (first | (go_at_call 69; (with_reducible refine (spec_l1In.calls a1_1 0 (wrap64 ((l0_0.length : Int) - 1)) false _ A66.out).mono ?_); rintro e w' ⟨rfl, ⟨nd, rfl⟩⟩))
       go_meet
       case rel => exact ⟨_, (false), rfq, H', ⟨by have := HJ3.out; first | omega | exact Nat.le_refl _⟩, ⟨by refine roq ?_; exact HO_321000.out⟩, ⟨by refine roq ?_; exact HO_321002.out⟩, ⟨by refine bkq ?_; exact BK310.out⟩, ⟨by refine bkq ?_; exact BK311.out⟩, ⟨by refine bkq ?_; exact BK312.out⟩, ⟨by refine bkq ?_; exact BK320.out⟩, ⟨hbqa HB.out⟩⟩
     ·rw [if_neg c65] at H
      have c65b0 : (a1_0 == 1 && (a1_2 == 0)) = false := by simpa using c65
      (try (have c65b1 : decide (a1_0 = 1 && (a1_2 == 0)) = false := by simpa using c65))
      (try (have c65b2 : (a1_0 == 1 && (a1_2 == 0)) = false := by simpa using c65))
      (try (have c65b3 : ¬ (a1_0 = 1 && (a1_2 == 0)) := by simpa using c65))
      clear c65
      (first | rw [c65b0] | (simp only [i64_w, i32_w]; rw [c65b0]) | skip)
      have H' := Aside0.mk H
      clear H
      have hnb81 := NB311_310.out
      have hnc81 := NB310_311.out
      have hnb82 := NB311_312.out
      have hnc82 := NB312_311.out
      have hnb83 := NB311_320.out
      have hnc83 := NB320_311.out
      have hcz84_0 : wc.cell? ⟨gb311, 0, none⟩ = some (.int .i64 a1_0) := (blk_cell BK311.out 0).trans rfl
      have hcz84_1 : wc.cell? ⟨gb311, 1, none⟩ = some (.int .i64 a1_1) := (blk_cell BK311.out 1).trans rfl
      have hcz84_2 : wc.cell? ⟨gb311, 2, none⟩ = some (.int .i64 a1_2) := (blk_cell BK311.out 2).trans rfl
      have hfz84_0 := blk_frozen BK311.out 0
      have hfz84_1 := blk_frozen BK311.out 1
      have hfz84_2 := blk_frozen BK311.out 2
      go_wp2
      go_meet
      case rel => exact ⟨_, (false), rfq, H', ⟨by have := HJ3.out; first | omega | exact Nat.le_refl _⟩, ⟨by refine roq ?_; exact HO_321000.out⟩, ⟨by refine roq ?_; exact HO_321002.out⟩, ⟨by refine bkq ?_; exact BK310.out⟩, ⟨by refine bkq ?_; exact BK311.out⟩, ⟨by refine bkq ?_; exact BK312.out⟩, ⟨by refine bkq ?_; exact BK320.out⟩, ⟨hbqa HB.out⟩⟩
    case rest =>
     clear HC64
     try clear p2
     try clear p3
     try clear q3
     try clear hx3
     try clear c4
     try clear p4
     try clear q4
     try clear hx4
     try clear hf4
     try clear c5
     try clear p5
     try clear q5
     try clear hx5
     try clear hf5
     try clear c6
     try clear p6
     try clear c7
     try clear c8
     try clear p32
     try clear q32
     try clear hx32
     try clear c41
     try clear c42
     try clear c42b0
     try clear c43
     try clear c43b0
     try clear c44
     try clear c44b0
     try clear c44b1
     try clear p46
     try clear q46
     try clear hx46
     try clear hf46
     try clear c47
     try clear c47b0
     try clear c48
     try clear c48b0
     try clear p50
     try clear q50
     try clear hx50
     try clear hf50
     try clear c57
     try clear c58
     try clear c59
     try clear c61
     try clear c62
     try clear p64
     try clear c65
     try clear c65b0
     try clear c65b1
     try clear c65b2
     try clear c67
     try clear c68
     try clear c68b0
     try clear c69
     try clear c69b0
     try clear c70
     try clear c71
     try clear c72
     try clear c74
     try clear c75
     try clear c77
     try clear c78
     try clear c79
     try clear c81
     try clear c82
     try clear c83
     try clear hcz60_0
     try clear hcz60_1
     try clear hcz60_2
     try clear hcz63_0
     try clear hcz63_1
     try clear hcz63_2
     try clear hcz73_0
     try clear hcz73_1
     try clear hcz73_2
     try clear hcz76_0
     try clear hcz76_1
     try clear hcz76_2
     try clear hcz80_0
     try clear hcz80_1
     try clear hcz80_2
     try clear hcz84_0
     try clear hcz84_1
     try clear hcz84_2
     try clear hfz28_1
     try clear hfz28_2
     try clear hfz32_0
     try clear hfz32_1
     try clear hfz32_2
     try clear hfz36_0
     try clear hfz36_1
     try clear hfz36_2
     try clear hfz40_0
     try clear hfz40_1
     try clear hfz40_2
     try clear hfz60_0
     try clear hfz60_1
     try clear hfz60_2
     try clear hfz63_0
     try clear hfz63_1
     try clear hfz63_2
     try clear hfz73_0
     try clear hfz73_1
     try clear hfz73_2
     try clear hfz76_0
     try clear hfz76_1
     try clear hfz76_2
     try clear hfz80_0
     try clear hfz80_1
     try clear hfz80_2
     try clear hfz84_0
     try clear hfz84_1
     try clear hfz84_2
     try clear hx323_0
     try clear hx325_0
     try clear hx328_0
     try clear hx46_0
     try clear hx50_0
     try clear p323
     try clear p325
     try clear p328
     try clear p46
     try clear p50
     try clear q323
     try clear q325
     try clear q328
     try clear q46
     try clear q50
     obtain ⟨kq, x71_63, rfl, HA, HJ63, HO_321000, HO_321002, BK310, BK311, BK312, BK320, HB⟩ := hcut
     cases kq with
     | zero => exact absurd HA.out (by simp [spec_l15Made.j1])
     | succ kj63 =>
      have H := HA.out
      clear HA
      simp only [spec_l15Made.j1] at H
      by_cases c85 : x71_63 = true
      ·subst c85
       have H1 : (if 0 ≤ a1_1 then (if a1_1 < (t317.length : Int) then (some (t313, t316, (t317.set (a1_1 : Int).toNat 1))) else (none)) else (none)) = some (r1, r2, r3) := by rw [if_pos rfl] at H; exact H
       clear H
       have H := H1
       clear H1
       by_cases c86 : 0 ≤ a1_1
       ·rw [if_pos c86] at H
        have c86b0 : decide (0 ≤ a1_1) = true := decide_eq_true c86
        clear c86
        by_cases c87 : a1_1 < (t317.length : Int)
        ·rw [if_pos c87] at H
         have c87b0 : decide (a1_1 < (t317.length : Int)) = true := decide_eq_true c87
         clear c87
         obtain ⟨y329, hy329⟩ : ∃ y_ : List Int, y_ = (t317.set (a1_1 : Int).toNat 1) := ⟨_, rfl⟩
         replace H : (some (t313, t316, y329)) = some (r1, r2, r3) := by first | (rw [hy329]; with_reducible exact H) | (have H2_ := (Option.bind_some _ _).symm.trans H; rw [hy329]; with_reducible exact H2_) | (have H2_ := (Option.bind_some _ _).symm.trans H; with_reducible exact H2_) | with_reducible exact H | (rw [hy329]; exact H) | exact H
         have Ny329 := Aside0.mk hy329
         clear hy329
         simp only [Option.some.injEq, Prod.mk.injEq] at H
         obtain ⟨rfl, rfl, rfl⟩ := H
         have hnb89 := NB320_310.out
         have hnc89 := NB310_320.out
         have hnb90 := NB320_311.out
         have hnc90 := NB311_320.out
         have hnb91 := NB320_312.out
         have hnc91 := NB312_320.out
         have hcz92_0 : wc.cell? ⟨gb320, 0, none⟩ = some (.slice Ao13 t313.length co13) := (blk_cell BK320.out 0).trans rfl
         have hcz92_1 : wc.cell? ⟨gb320, 1, none⟩ = some (.int .i64 t316) := (blk_cell BK320.out 1).trans rfl
         have hcz92_2 : wc.cell? ⟨gb320, 2, none⟩ = some (.slice Ao18 t317.length co18) := (blk_cell BK320.out 2).trans rfl
         have hfz92_0 := blk_frozen BK320.out 0
         have hfz92_1 := blk_frozen BK320.out 1
         have hfz92_2 := blk_frozen BK320.out 2
         have hnb93 := NB311_310.out
         have hnc93 := NB310_311.out
         have hnb94 := NB311_312.out
         have hnc94 := NB312_311.out
         have hcz95_0 : wc.cell? ⟨gb311, 0, none⟩ = some (.int .i64 a1_0) := (blk_cell BK311.out 0).trans rfl
         have hcz95_1 : wc.cell? ⟨gb311, 1, none⟩ = some (.int .i64 a1_1) := (blk_cell BK311.out 1).trans rfl
         have hcz95_2 : wc.cell? ⟨gb311, 2, none⟩ = some (.int .i64 a1_2) := (blk_cell BK311.out 2).trans rfl
         have hfz95_0 := blk_frozen BK311.out 0
         have hfz95_1 := blk_frozen BK311.out 1
         have hfz95_2 := blk_frozen BK311.out 2
         have p88 : 0 ≤ (a1_1 : Int) := od
         have q88 : (a1_1 : Int) < ((t317.length : Int) : Int) := od
         obtain ⟨go88, co88, eo88, gb88, gl88, cl88, HG88⟩ := Kd.R_form HO_321002.out (by omega)
         (first | cases eo88 | (injection eo88 with ea_ en_ ec_; (first | subst ea_ | (injection ea_ with ea_; subst ea_)); subst ec_; clear en_))
         have GB88 := Aside0.mk gb88
         have GG88 := Aside0.mk HG88
         clear gb88 gl88 HG88
         obtain ⟨hx88_0, hf88_0⟩ := Kd.R_celln 0 HO_321002.out (a1_1 : Int) p88 q88
         replace p88 := eq_true p88
         replace q88 := eq_true q88
         have HP96 := Kd.R_putg HO_321002.out (a1_1 : Int) 1
         go_wp2_with (first | ((with_reducible refine gate_store (t := 3) (p := 96) rfl ?_); refine store_event (t := 3) (p := 96) (v := ?vo_w97) (w1 := (wc.setCell ⟨go88, (a1_1 : Int).toNat, none⟩ (.int .i64 1))) ?hg ?ho ?hn ?hr ?_; (case ho => rfl); (case hg => rfl); (case hn => rfl); (case hr => first | (go_simp; done) | (go_simp; rfl)); intro w97 hw; have hg : wc.grownBy w97 (some go88) := (by rw [hw]; exact HP96.2); have hp_ : Kd.R (Kd.int .i64) 3 w97 w.heap.size (fun k_ => some k_ ≠ (.slice Ao13 t313.length co13 : Value).ownBlock) (.slice (some ⟨go88, 0, none⟩) t317.length co18) y329 := (by rw [hw, Ny329.out]; exact HP96.1); clear HP96; have n0_ := Aside0.mk (Kd.R_after (v := (.slice (some ⟨go88, 0, none⟩) t317.length co18)) (v1 := (.slice (some ⟨go88, 0, none⟩) t317.length co18)) (ok := (fun _ => True)) (roq (Kd.R_mono HO_321000.out (fun _ hk => ⟨trivial, hk⟩))) hg (.inl rfl)); have n1_ := Aside0.mk (hp_); have n2_ := Aside0.mk (blk_grown (bkq BK310.out) hg (Kd.R_ne HO_321002.out BK310.out (by decide))); have n3_ := Aside0.mk (blk_grown (bkq BK311.out) hg (Kd.R_ne HO_321002.out BK311.out (by decide))); have n4_ := Aside0.mk (blk_grown (bkq BK312.out) hg (Kd.R_ne HO_321002.out BK312.out (by decide))); have n5_ := Aside0.mk (blk_grown (bkq BK320.out) hg (Kd.R_ne HO_321002.out BK320.out (by decide))); have n6_ := Aside0.mk ((by rw [hw]; exact below_set (HB.out) GB88.out : Below w.heap.size w w97)); clear HO_321000 HO_321002 BK310 BK311 BK312 BK320 HB; revert n0_ n1_ n2_ n3_ n4_ n5_ n6_; intro HO_321000 HO_321002 BK310 BK311 BK312 BK320 HB; clear hg hw hp_; have hcz98_0 : w97.cell? ⟨gb320, 0, none⟩ = some (.slice Ao13 t313.length co13) := (blk_cell BK320.out 0).trans rfl; have hcz98_1 : w97.cell? ⟨gb320, 1, none⟩ = some (.int .i64 t316) := (blk_cell BK320.out 1).trans rfl; have hcz98_2 : w97.cell? ⟨gb320, 2, none⟩ = some (.slice (some ⟨go88, 0, none⟩) t317.length co18) := (blk_cell BK320.out 2).trans rfl; have hfz98_0 := blk_frozen BK320.out 0; have hfz98_1 := blk_frozen BK320.out 1; have hfz98_2 := blk_frozen BK320.out 2; have hnb99 := NB312_310.out; have hnc99 := NB310_312.out; have hcz100_0 : w97.cell? ⟨gb312, 0, none⟩ = some (.slice none 0 0) := (blk_cell BK312.out 0).trans rfl; have hcz100_1 : w97.cell? ⟨gb312, 1, none⟩ = some (.int .i64 0) := (blk_cell BK312.out 1).trans rfl; have hcz100_2 : w97.cell? ⟨gb312, 2, none⟩ = some (.slice none 0 0) := (blk_cell BK312.out 2).trans rfl; have hfz100_0 := blk_frozen BK312.out 0; have hfz100_1 := blk_frozen BK312.out 1; have hfz100_2 := blk_frozen BK312.out 2))
         refine bodyPost_ret (results_cell_row rfl _ _ gb312 26 #[.slice Ao13 t313.length co13, .int .i64 t316, .slice (some ⟨go88, 0, none⟩) t317.length co18] (0, 0) _ rfl (by refine bkq ?_; refine blk_put (cs := #[.slice Ao13 t313.length co13, .int .i64 t316, .slice none 0 0]) ?_ 2 _ rfl; refine bkq ?_; refine blk_put (cs := #[.slice Ao13 t313.length co13, .int .i64 0, .slice none 0 0]) ?_ 1 _ rfl; refine bkq ?_; refine blk_put (cs := #[.slice none 0 0, .int .i64 0, .slice none 0 0]) ?_ 0 _ rfl; refine bkq ?_; exact BK312.out) Try.underlying26 rfl (by kernel_rfl)) rfl ?_
         exact ⟨_, _, by first | rfl | (simp [errW_none, errW_some] <;> rfl) | (simp [*, errW_none, errW_some] <;> rfl), by refine roq ?_; exact Kd.R_mono (Kd.R_far (p := ⟨gb312, 2, none⟩) (Kd.R_far (p := ⟨gb312, 1, none⟩) (Kd.R_far (p := ⟨gb312, 0, none⟩) (Kd.R_types HO_321000.out BK312.out (by decide)) (fun _ hk => hk.2) (.slice Ao13 t313.length co13)) (fun _ hk => hk.2) (.int .i64 t316)) (fun _ hk => hk.2) (.slice (some ⟨go88, 0, none⟩) t317.length co18)) (fun _ hk => hk.1.2), by refine roq ?_; exact Kd.R_mono (Kd.R_far (p := ⟨gb312, 2, none⟩) (Kd.R_far (p := ⟨gb312, 1, none⟩) (Kd.R_far (p := ⟨gb312, 0, none⟩) (Kd.R_types HO_321002.out BK312.out (by decide)) (fun _ hk => hk.2) (.slice Ao13 t313.length co13)) (fun _ hk => hk.2) (.int .i64 t316)) (fun _ hk => hk.2) (.slice (some ⟨go88, 0, none⟩) t317.length co18)) (fun _ hk => hk.1), hbqa HB.out⟩
        ·rw [if_neg c87] at H
         exact absurd H (by simp)
       ·rw [if_neg c86] at H
        exact absurd H (by simp)
      ·replace c85 := Bool.eq_false_iff.mpr c85
       subst c85
       have H1 : (if (a1_0 == 2 && (a1_1 == 0 && (a1_2 == 0))) = true then ((spec_l3Step.f kj63 l0_0 a0_1 l0_2).bind fun t330 => (some (t313, t316, t330))) else (if (a1_0 == 3 && (a1_2 == 0)) = true then (some (t313, a1_1, t317)) else (some (([] : List Int), 0, ([] : List Int))))) = some (r1, r2, r3) := by rw [if_neg (show ¬ (false = true) by decide)] at H; exact H
       clear H
       have H := H1
       clear H1
       by_cases c101 : (a1_0 == 2 && (a1_1 == 0 && (a1_2 == 0))) = true
       ·rw [if_pos c101] at H
        have c101b0 : (a1_0 == 2 && (a1_1 == 0 && (a1_2 == 0))) = true := c101
        (try (have c101b1 : decide (a1_0 = 2 && (a1_1 == 0 && (a1_2 == 0))) = true := by simpa using c101))
        (try (have c101b2 : (a1_0 == 2 && (a1_1 == 0 && (a1_2 == 0))) = true := by simpa using c101))
        clear c101
        replace H := Option.bind_eq_some_iff.mp H
        obtain ⟨t330, A1020, H⟩ := H
        replace H : (some (t313, t316, t330)) = some (r1, r2, r3) := H
        have A102 := Aside0.mk A1020
        clear A1020
        simp only [Option.some.injEq, Prod.mk.injEq] at H
        obtain ⟨rfl, rfl, rfl⟩ := H
        have hnb103 := NB311_310.out
        have hnc103 := NB310_311.out
        have hnb104 := NB311_312.out
        have hnc104 := NB312_311.out
        have hnb105 := NB311_320.out
        have hnc105 := NB320_311.out
        have hcz106_0 : wc.cell? ⟨gb311, 0, none⟩ = some (.int .i64 a1_0) := (blk_cell BK311.out 0).trans rfl
        have hcz106_1 : wc.cell? ⟨gb311, 1, none⟩ = some (.int .i64 a1_1) := (blk_cell BK311.out 1).trans rfl
        have hcz106_2 : wc.cell? ⟨gb311, 2, none⟩ = some (.int .i64 a1_2) := (blk_cell BK311.out 2).trans rfl
        have hfz106_0 := blk_frozen BK311.out 0
        have hfz106_1 := blk_frozen BK311.out 1
        have hfz106_2 := blk_frozen BK311.out 2
        have hnb107 := NB310_312.out
        have hnc107 := NB312_310.out
        have hnb108 := NB310_320.out
        have hnc108 := NB320_310.out
        have hcz109_0 : wc.cell? ⟨gb310, 0, none⟩ = some (.slice A0_0 l0_0.length c0_0) := (blk_cell BK310.out 0).trans rfl
        have hcz109_1 : wc.cell? ⟨gb310, 1, none⟩ = some (.int .i64 a0_1) := (blk_cell BK310.out 1).trans rfl
        have hcz109_2 : wc.cell? ⟨gb310, 2, none⟩ = some (.slice A0_2 l0_2.length c0_2) := (blk_cell BK310.out 2).trans rfl
        have hfz109_0 := blk_frozen BK310.out 0
        have hfz109_1 := blk_frozen BK310.out 1
        have hfz109_2 := blk_frozen BK310.out 2
        go_wp2_with (first | ((with_reducible refine gate_callee (f := 78) rfl ?_); refine goesL_ (some 108) rfl rfl Try.func78 (by kernel_rfl) rfl #[.slice A0_0 l0_0.length c0_0, .int .i64 a0_1, .slice A0_2 l0_2.length c0_2] rfl mpq ?_; (with_reducible refine (spec_l3Step.calls kj63 _ _ l0_0 a0_1 _ _ l0_2 t330 _ ?side1 ?side2 ?side3 ?side4 A102.out).mono ?_); (case side1 => exact coq (Kd.C_below HR0_0.out HB.out)); (case side2 => exact HC0_0.out); (case side3 => exact coq (Kd.C_below HR0_2.out HB.out)); (case side4 => exact HC0_2.out); rintro e w110 ⟨v331, rfl, ho0, hb⟩; refine ⟨_, rfl, ?_⟩; have n0_ := Aside0.mk (Kd.R_elder' (roq HO_321000.out) (Kd.R_base ho0) hb); have n1_ := Aside0.mk (Kd.R_elder' (roq HO_321002.out) (Kd.R_base ho0) hb); have n2_ := Aside0.mk (Kd.R_lower (Kd.R_new' (Kd.R_new' ho0 (Kd.R_lt (roq HO_321000.out))) (Kd.R_lt (roq HO_321002.out))) (below_size (hbqa HB.out))); have n3_ := Aside0.mk (blk_below (bkq BK310.out) hb); have n4_ := Aside0.mk (blk_below (bkq BK311.out) hb); have n5_ := Aside0.mk (blk_below (bkq BK312.out) hb); have n6_ := Aside0.mk (blk_below (bkq BK320.out) hb); have n7_ := Aside0.mk (below_step (hbqa HB.out) hb); clear HO_321000 HO_321002 BK310 BK311 BK312 BK320 HB; revert n0_ n1_ n2_ n3_ n4_ n5_ n6_ n7_; intro HO_321000 HO_321002 HO332 BK310 BK311 BK312 BK320 HB; (try clear hb); (try clear hb2); (try clear hk); (try clear hi); (try clear ho0); obtain ⟨Ao111, co111, eo111⟩ := Kd.R_slice HO332.out; subst eo111; have hnb112 := NB320_312.out; have hnc112 := NB312_320.out; have hcz113_0 : w110.cell? ⟨gb320, 0, none⟩ = some (.slice Ao13 t313.length co13) := (blk_cell BK320.out 0).trans rfl; have hcz113_1 : w110.cell? ⟨gb320, 1, none⟩ = some (.int .i64 t316) := (blk_cell BK320.out 1).trans rfl; have hcz113_2 : w110.cell? ⟨gb320, 2, none⟩ = some (.slice Ao18 t317.length co18) := (blk_cell BK320.out 2).trans rfl; have hfz113_0 := blk_frozen BK320.out 0; have hfz113_1 := blk_frozen BK320.out 1; have hfz113_2 := blk_frozen BK320.out 2; have hcz114_0 : w110.cell? ⟨gb312, 0, none⟩ = some (.slice none 0 0) := (blk_cell BK312.out 0).trans rfl; have hcz114_1 : w110.cell? ⟨gb312, 1, none⟩ = some (.int .i64 0) := (blk_cell BK312.out 1).trans rfl; have hcz114_2 : w110.cell? ⟨gb312, 2, none⟩ = some (.slice none 0 0) := (blk_cell BK312.out 2).trans rfl; have hfz114_0 := blk_frozen BK312.out 0; have hfz114_1 := blk_frozen BK312.out 1; have hfz114_2 := blk_frozen BK312.out 2))
        refine bodyPost_ret (results_cell_row rfl _ _ gb312 26 #[.slice Ao13 t313.length co13, .int .i64 t316, .slice Ao111 t330.length co111] (0, 0) _ rfl (by refine bkq ?_; refine blk_put (cs := #[.slice Ao13 t313.length co13, .int .i64 t316, .slice none 0 0]) ?_ 2 _ rfl; refine bkq ?_; refine blk_put (cs := #[.slice Ao13 t313.length co13, .int .i64 0, .slice none 0 0]) ?_ 1 _ rfl; refine bkq ?_; refine blk_put (cs := #[.slice none 0 0, .int .i64 0, .slice none 0 0]) ?_ 0 _ rfl; refine bkq ?_; refine blk_far ?_ NB312_320.out _; refine bkq ?_; exact BK312.out) Try.underlying26 rfl (by kernel_rfl)) rfl ?_
        exact ⟨_, _, by first | rfl | (simp [errW_none, errW_some] <;> rfl) | (simp [*, errW_none, errW_some] <;> rfl), by refine roq ?_; exact Kd.R_mono (Kd.R_far (p := ⟨gb312, 2, none⟩) (Kd.R_far (p := ⟨gb312, 1, none⟩) (Kd.R_far (p := ⟨gb312, 0, none⟩) (Kd.R_far (p := ⟨gb320, 2, none⟩) (Kd.R_types (Kd.R_types HO_321000.out BK320.out (by decide)) BK312.out (by decide)) (fun _ hk => hk.1.2) (.slice Ao111 t330.length co111)) (fun _ hk => hk.2) (.slice Ao13 t313.length co13)) (fun _ hk => hk.2) (.int .i64 t316)) (fun _ hk => hk.2) (.slice Ao111 t330.length co111)) (fun _ hk => hk.1.1.2), by refine roq ?_; exact Kd.R_mono (Kd.R_far (p := ⟨gb312, 2, none⟩) (Kd.R_far (p := ⟨gb312, 1, none⟩) (Kd.R_far (p := ⟨gb312, 0, none⟩) (Kd.R_far (p := ⟨gb320, 2, none⟩) (Kd.R_types (Kd.R_types HO332.out BK320.out (by decide)) BK312.out (by decide)) (fun _ hk => hk.1.2) (.slice Ao111 t330.length co111)) (fun _ hk => hk.2) (.slice Ao13 t313.length co13)) (fun _ hk => hk.2) (.int .i64 t316)) (fun _ hk => hk.2) (.slice Ao111 t330.length co111)) (fun _ hk => hk.1.1.1.2), hbqa HB.out⟩
       ·rw [if_neg c101] at H
        have c101b0 : (a1_0 == 2 && (a1_1 == 0 && (a1_2 == 0))) = false := by simpa using c101
        (try (have c101b1 : decide (a1_0 = 2 && (a1_1 == 0 && (a1_2 == 0))) = false := by simpa using c101))
        (try (have c101b2 : (a1_0 == 2 && (a1_1 == 0 && (a1_2 == 0))) = false := by simpa using c101))
        (try (have c101b3 : ¬ (a1_0 = 2 && (a1_1 == 0 && (a1_2 == 0))) := by simpa using c101))
        clear c101
        by_cases c115 : (a1_0 == 3 && (a1_2 == 0)) = true
        ·rw [if_pos c115] at H
         have c115b0 : (a1_0 == 3 && (a1_2 == 0)) = true := c115
         (try (have c115b1 : decide (a1_0 = 3 && (a1_2 == 0)) = true := by simpa using c115))
         (try (have c115b2 : (a1_0 == 3 && (a1_2 == 0)) = true := by simpa using c115))
         clear c115
         simp only [Option.some.injEq, Prod.mk.injEq] at H
         obtain ⟨rfl, rfl, rfl⟩ := H
         have hnb116 := NB311_310.out
         have hnc116 := NB310_311.out
         have hnb117 := NB311_312.out
         have hnc117 := NB312_311.out
         have hnb118 := NB311_320.out
         have hnc118 := NB320_311.out
         have hcz119_0 : wc.cell? ⟨gb311, 0, none⟩ = some (.int .i64 a1_0) := (blk_cell BK311.out 0).trans rfl
         have hcz119_1 : wc.cell? ⟨gb311, 1, none⟩ = some (.int .i64 a1_1) := (blk_cell BK311.out 1).trans rfl
         have hcz119_2 : wc.cell? ⟨gb311, 2, none⟩ = some (.int .i64 a1_2) := (blk_cell BK311.out 2).trans rfl
         have hfz119_0 := blk_frozen BK311.out 0
         have hfz119_1 := blk_frozen BK311.out 1
         have hfz119_2 := blk_frozen BK311.out 2
         have hnb120 := NB320_310.out
         have hnc120 := NB310_320.out
         have hnb121 := NB320_312.out
         have hnc121 := NB312_320.out
         have hcz122_0 : wc.cell? ⟨gb320, 0, none⟩ = some (.slice Ao13 t313.length co13) := (blk_cell BK320.out 0).trans rfl
         have hcz122_1 : wc.cell? ⟨gb320, 1, none⟩ = some (.int .i64 t316) := (blk_cell BK320.out 1).trans rfl
         have hcz122_2 : wc.cell? ⟨gb320, 2, none⟩ = some (.slice Ao18 t317.length co18) := (blk_cell BK320.out 2).trans rfl
         have hfz122_0 := blk_frozen BK320.out 0
         have hfz122_1 := blk_frozen BK320.out 1
         have hfz122_2 := blk_frozen BK320.out 2
         have hnb123 := NB312_310.out
         have hnc123 := NB310_312.out
         have hcz124_0 : wc.cell? ⟨gb312, 0, none⟩ = some (.slice none 0 0) := (blk_cell BK312.out 0).trans rfl
         have hcz124_1 : wc.cell? ⟨gb312, 1, none⟩ = some (.int .i64 0) := (blk_cell BK312.out 1).trans rfl
         have hcz124_2 : wc.cell? ⟨gb312, 2, none⟩ = some (.slice none 0 0) := (blk_cell BK312.out 2).trans rfl
         have hfz124_0 := blk_frozen BK312.out 0
         have hfz124_1 := blk_frozen BK312.out 1
         have hfz124_2 := blk_frozen BK312.out 2
         go_wp2
         refine bodyPost_ret (results_cell_row rfl _ _ gb312 26 #[.slice Ao13 t313.length co13, .int .i64 a1_1, .slice Ao18 t317.length co18] (0, 0) _ rfl (by refine bkq ?_; refine blk_put (cs := #[.slice Ao13 t313.length co13, .int .i64 a1_1, .slice none 0 0]) ?_ 2 _ rfl; refine bkq ?_; refine blk_put (cs := #[.slice Ao13 t313.length co13, .int .i64 0, .slice none 0 0]) ?_ 1 _ rfl; refine bkq ?_; refine blk_put (cs := #[.slice none 0 0, .int .i64 0, .slice none 0 0]) ?_ 0 _ rfl; refine bkq ?_; refine blk_far ?_ NB312_320.out _; refine bkq ?_; exact BK312.out) Try.underlying26 rfl (by kernel_rfl)) rfl ?_
         exact ⟨_, _, by first | rfl | (simp [errW_none, errW_some] <;> rfl) | (simp [*, errW_none, errW_some] <;> rfl), by refine roq ?_; exact Kd.R_mono (Kd.R_far (p := ⟨gb312, 2, none⟩) (Kd.R_far (p := ⟨gb312, 1, none⟩) (Kd.R_far (p := ⟨gb312, 0, none⟩) (Kd.R_far (p := ⟨gb320, 1, none⟩) (Kd.R_types (Kd.R_types HO_321000.out BK320.out (by decide)) BK312.out (by decide)) (fun _ hk => hk.1.2) (.int .i64 a1_1)) (fun _ hk => hk.2) (.slice Ao13 t313.length co13)) (fun _ hk => hk.2) (.int .i64 a1_1)) (fun _ hk => hk.2) (.slice Ao18 t317.length co18)) (fun _ hk => hk.1.1), by refine roq ?_; exact Kd.R_mono (Kd.R_far (p := ⟨gb312, 2, none⟩) (Kd.R_far (p := ⟨gb312, 1, none⟩) (Kd.R_far (p := ⟨gb312, 0, none⟩) (Kd.R_far (p := ⟨gb320, 1, none⟩) (Kd.R_types (Kd.R_types HO_321002.out BK320.out (by decide)) BK312.out (by decide)) (fun _ hk => hk.1.2) (.int .i64 a1_1)) (fun _ hk => hk.2) (.slice Ao13 t313.length co13)) (fun _ hk => hk.2) (.int .i64 a1_1)) (fun _ hk => hk.2) (.slice Ao18 t317.length co18)) (fun _ hk => hk.1.1), hbqa HB.out⟩
        ·rw [if_neg c115] at H
         have c115b0 : (a1_0 == 3 && (a1_2 == 0)) = false := by simpa using c115
         (try (have c115b1 : decide (a1_0 = 3 && (a1_2 == 0)) = false := by simpa using c115))
         (try (have c115b2 : (a1_0 == 3 && (a1_2 == 0)) = false := by simpa using c115))
         (try (have c115b3 : ¬ (a1_0 = 3 && (a1_2 == 0)) := by simpa using c115))
         clear c115
         simp only [Option.some.injEq, Prod.mk.injEq] at H
         obtain ⟨rfl, rfl, rfl⟩ := H
         have hnb125 := NB311_310.out
         have hnc125 := NB310_311.out
         have hnb126 := NB311_312.out
         have hnc126 := NB312_311.out
         have hnb127 := NB311_320.out
         have hnc127 := NB320_311.out
         have hcz128_0 : wc.cell? ⟨gb311, 0, none⟩ = some (.int .i64 a1_0) := (blk_cell BK311.out 0).trans rfl
         have hcz128_1 : wc.cell? ⟨gb311, 1, none⟩ = some (.int .i64 a1_1) := (blk_cell BK311.out 1).trans rfl
         have hcz128_2 : wc.cell? ⟨gb311, 2, none⟩ = some (.int .i64 a1_2) := (blk_cell BK311.out 2).trans rfl
         have hfz128_0 := blk_frozen BK311.out 0
         have hfz128_1 := blk_frozen BK311.out 1
         have hfz128_2 := blk_frozen BK311.out 2
         have hnb129 := NB312_310.out
         have hnc129 := NB310_312.out
         have hnb130 := NB312_320.out
         have hnc130 := NB320_312.out
         have hcz131_0 : wc.cell? ⟨gb312, 0, none⟩ = some (.slice none 0 0) := (blk_cell BK312.out 0).trans rfl
         have hcz131_1 : wc.cell? ⟨gb312, 1, none⟩ = some (.int .i64 0) := (blk_cell BK312.out 1).trans rfl
         have hcz131_2 : wc.cell? ⟨gb312, 2, none⟩ = some (.slice none 0 0) := (blk_cell BK312.out 2).trans rfl
         have hfz131_0 := blk_frozen BK312.out 0
         have hfz131_1 := blk_frozen BK312.out 1
         have hfz131_2 := blk_frozen BK312.out 2
         go_wp2
         refine bodyPost_ret (results_cell_row rfl _ _ gb312 26 #[.slice none 0 0, .int .i64 0, .slice none 0 0] (0, 0) _ rfl (by refine bkq ?_; refine blk_put (cs := #[.slice none 0 0, .int .i64 0, .slice none 0 0]) ?_ 2 _ rfl; refine bkq ?_; refine blk_put (cs := #[.slice none 0 0, .int .i64 0, .slice none 0 0]) ?_ 1 _ rfl; refine bkq ?_; refine blk_put (cs := #[.slice none 0 0, .int .i64 0, .slice none 0 0]) ?_ 0 _ rfl; refine bkq ?_; exact BK312.out) Try.underlying26 rfl (by kernel_rfl)) rfl ?_
         exact ⟨_, _, by first | rfl | (simp [errW_none, errW_some] <;> rfl) | (simp [*, errW_none, errW_some] <;> rfl), by first | exact Kd.R_nil _ _ _ _ _ | exact Kd.N_nil _ _ _ _ _ | exact Kd.V_nil _ _ _ _ _ | exact Kd.Q_nil _ _ _ _ _ | exact Kd.S_nil _ _ _ _ _, by first | exact Kd.R_nil _ _ _ _ _ | exact Kd.N_nil _ _ _ _ _ | exact Kd.V_nil _ _ _ _ _ | exact Kd.Q_nil _ _ _ _ _ | exact Kd.S_nil _ _ _ _ _, hbqa HB.out⟩

end Go.Proofs.Ytnhgiincboocaaa.PFnDeskOk
