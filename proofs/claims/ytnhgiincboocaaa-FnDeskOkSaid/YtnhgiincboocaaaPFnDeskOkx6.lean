-- written by wip/tools/pstub.py (my own program, over the kit's print)
import Derived.Test.YtnhgiincboocaaaPFnDeskOkx0
import Derived.Test.YtnhgiincboocaaaPFnDeskOkx2
import Derived.Test.YtnhgiincboocaaaPFnDeskOkx4
import Derived.Test.YtnhgiincboocaaaPFnDeskOkx5
namespace Go.Proofs.Ytnhgiincboocaaa.PFnDeskOk
open Go.RowKit Go.Proofs.YtnhgiincboocaaaW.PrintWords Go.Proofs.YtnhgiincboocaaaW.PrintLast Go.Proofs.YtnhgiincboocaaaW.PrintMore
attribute [local go_sem] max2_int min2_int max_two min_two max_three min_three max_four min_four   -- for this text's walks alone
set_option linter.unusedVariables false
set_option linter.unusedSimpArgs false

/-! ### spec_l20Net: function 72 -/
mutual
def spec_l20Net.j0 : Nat → Int → Int → List Int → List Int → Int → Option (List Int × Int)
 | 0, _, _, _, _, _ => none
 | k + 1, x1, x5, x6, x1000, x1001 => (spec_l20Rd_pick.f k x1000 x1001 6).bind fun bt221 => (spec_l20Net.l0 k x1 x5 x6 bt221.1 x1000 bt221.2)
def spec_l20Net.l0 : Nat → Int → Int → List Int → Int → List Int → Int → Option (List Int × Int)
 | 0, _, _, _, _, _, _ => none
 | k + 1, x1, x5, x6, x7, x1000, x1001 => if x7 > 0 then ((spec_l20Rd_pick.f k x1000 x1001 x5).bind fun bt223 => ((spec_l20Rd_pick.f k x1000 bt223.2 x5).bind fun bt225 => (if bt223.1 = bt225.1 then (spec_l20Net.l0 k x1 x5 x6 (wrap64 (x7 - 1)) x1000 bt225.2) else (if 0 ≤ bt223.1 then (if bt223.1 < (x6.length : Int) then (if 0 ≤ bt225.1 then ((some (x6.set (bt223.1 : Int).toNat (Go.bits .or .i64 (rd x6 bt223.1) (shl .i64 1 bt225.1)) : List Int)).bind fun y228 => (if bt225.1 < (x6.length : Int) then (spec_l20Net.l0 k x1 x5 (y228.set (bt225.1 : Int).toNat (Go.bits .or .i64 (rd y228 bt225.1) (shl .i64 1 bt223.1))) (wrap64 (x7 - 1)) x1000 bt225.2) else (none))) else (none)) else (none)) else (none))))) else ((spec_l20Rd_odd.f k x1000 x1001 x1).bind fun bt231 => (if bt231.1 = true then ((spec_l20Rd_pick.f k x1000 bt231.2 3).bind fun bt233 => (if bt233.1 = 0 then (some ((([] : List Int)), bt233.2)) else (if bt233.1 = 1 then (if 0 < (x6.length : Int) then (some ((x6.set (0 : Int).toNat (Go.bits .or .i64 (rd x6 0) 1)), bt233.2)) else (none)) else (if 0 < (x6.length : Int) then (if 0 ≤ (wrap64 (x5 - 1)) then ((some (x6.set (0 : Int).toNat (Go.bits .xor .i64 (rd x6 0) (shl .i64 1 (wrap64 (x5 - 1)))) : List Int)).bind fun y241 => (if x5 = 1 then (some ((y241.set (0 : Int).toNat (-1)), bt233.2)) else (some (y241, bt233.2)))) else (none)) else (none))))) else (some (x6, bt231.2))))
end
def spec_l20Net.f (k : Nat) (s0_0 : List Int) (s0_1 : Int) (a1 : Int) : Option (List Int × Int) := (spec_l20Rd_pick.f k s0_0 s0_1 6).bind fun bt208 => ((spec_PathNet.f k (wrap64 (1 + bt208.1))).bind fun t210 => ((spec_l20Rd_pick.f k s0_0 bt208.2 4).bind fun bt213 => (if bt213.1 = 0 then (if (wrap64 (1 + bt208.1)) ≥ 3 then ((spec_RingNet.f k (wrap64 (1 + bt208.1))).bind fun t215 => (spec_l20Net.j0 k a1 (wrap64 (1 + bt208.1)) t215 s0_0 bt213.2)) else (spec_l20Net.j0 k a1 (wrap64 (1 + bt208.1)) t210 s0_0 bt213.2)) else (if bt213.1 = 1 then (if 0 ≤ (wrap64 (1 + bt208.1)) then (if (wrap64 (1 + bt208.1) : Int).toNat ≤ 35184372088832 then (spec_l20Net.j0 k a1 (wrap64 (1 + bt208.1)) (List.replicate (wrap64 (1 + bt208.1) : Int).toNat 0) s0_0 bt213.2) else (none)) else (none)) else (spec_l20Net.j0 k a1 (wrap64 (1 + bt208.1)) t210 s0_0 bt213.2)))))
theorem spec_l20Net.mono_l : ∀ k, (∀ y0 y1 y2 y3 y4, LeO (spec_l20Net.j0 k y0 y1 y2 y3 y4) (spec_l20Net.j0 (k + 1) y0 y1 y2 y3 y4)) ∧ (∀ y0 y1 y2 y3 y4 y5, LeO (spec_l20Net.l0 k y0 y1 y2 y3 y4 y5) (spec_l20Net.l0 (k + 1) y0 y1 y2 y3 y4 y5))
 | 0 => ⟨fun _ _ _ _ _ r h => by simp [spec_l20Net.j0] at h, fun _ _ _ _ _ _ r h => by simp [spec_l20Net.l0] at h⟩
 | k + 1 => by
  obtain ⟨ih0, ih1⟩ := spec_l20Net.mono_l k
  refine ⟨?_, ?_⟩
  ·intro y0 y1 y2 y3 y4
   unfold spec_l20Net.j0
   repeat' first | (with_reducible first | exact ih0 _ _ _ _ _ | exact ih1 _ _ _ _ _ _ | exact spec_PathNet.mono _ _ | exact spec_RingNet.mono _ _ | exact spec_l20Rd_odd.mono _ _ _ _ | exact spec_l20Rd_pick.mono _ _ _ _ | exact LeO.refl _ | exact LeO.none _ | refine LeO.ite ?_ ?_ | refine LeO.bind ?_ (fun _ => ?_)) | exact LeO.none _ | refine LeO.ite ?_ ?_ | refine LeO.bind ?_ (fun _ => ?_)
  ·intro y0 y1 y2 y3 y4 y5
   unfold spec_l20Net.l0
   repeat' first | (with_reducible first | exact ih0 _ _ _ _ _ | exact ih1 _ _ _ _ _ _ | exact spec_PathNet.mono _ _ | exact spec_RingNet.mono _ _ | exact spec_l20Rd_odd.mono _ _ _ _ | exact spec_l20Rd_pick.mono _ _ _ _ | exact LeO.refl _ | exact LeO.none _ | refine LeO.ite ?_ ?_ | refine LeO.bind ?_ (fun _ => ?_)) | exact LeO.none _ | refine LeO.ite ?_ ?_ | refine LeO.bind ?_ (fun _ => ?_)
theorem spec_l20Net.mono : ∀ a0 a1 a2 k, LeO (spec_l20Net.f k a0 a1 a2) (spec_l20Net.f (k + 1) a0 a1 a2) := by
 intro a0 a1 a2 k
 obtain ⟨ih0, ih1⟩ := spec_l20Net.mono_l k
 unfold spec_l20Net.f
 repeat' first
   | (with_reducible exact ih0 _ _ _ _ _)
   | (with_reducible exact ih1 _ _ _ _ _ _)
   | (with_reducible exact spec_PathNet.mono _ _)
   | (with_reducible exact spec_RingNet.mono _ _)
   | (with_reducible exact spec_l20Rd_odd.mono _ _ _ _)
   | (with_reducible exact spec_l20Rd_pick.mono _ _ _ _)
   | (with_reducible exact LeO.refl _)
   | (with_reducible exact LeO.none _)
   | (with_reducible refine LeO.ite ?_ ?_)
   | (with_reducible refine LeO.bind ?_ (fun _ => ?_))
   | exact ih0 _ _ _ _ _
   | exact ih1 _ _ _ _ _ _
   | exact spec_PathNet.mono _ _
   | exact spec_RingNet.mono _ _
   | exact spec_l20Rd_odd.mono _ _ _ _
   | exact spec_l20Rd_pick.mono _ _ _ _
   | exact LeO.none _
   | refine LeO.ite ?_ ?_
   | refine LeO.bind ?_ (fun _ => ?_)
def spec_l20Net.T15 : Bool × List (List Nat × List Nat) := (true, [([], []), ([], []), ([], []), ([], []), ([2, 3], [2, 3]), ([4], [4]), ([], []), ([6], [6]), ([5, 7], [5, 7]), ([0, 1, 0, 1, 2, 3, 4, 5, 6, 7, 8], [0, 1]), ([9, 8, 0, 1, 2, 3, 4, 5, 6, 7, 8], [8, 9])])
def spec_l20Net.B15 : List Nat := [0, 0, 0, 0, 12, 28, 0, 64, 252, 511, 1023]
theorem spec_l20Net.tab15 : rtab .any (opsOf Try.f72 15) = spec_l20Net.T15 := by kernel_rfl
theorem spec_l20Net.bits15 : waitsOk spec_l20Net.T15.2 spec_l20Net.B15 = true := by kernel_rfl
def spec_l20Net.T16 : Bool × List (List Nat × List Nat) := (true, [([], []), ([], []), ([], []), ([], []), ([2, 3], [2, 3]), ([4], [4]), ([], []), ([6], [6]), ([5, 7], [5, 7]), ([0, 1, 0, 1, 2, 3, 4, 5, 6, 7, 8], [0, 1]), ([9, 8, 0, 1, 2, 3, 4, 5, 6, 7, 8], [8, 9])])
def spec_l20Net.B16 : List Nat := [0, 0, 0, 0, 12, 28, 0, 64, 252, 511, 1023]
theorem spec_l20Net.tab16 : rtab .any (opsOf Try.f72 16) = spec_l20Net.T16 := by kernel_rfl
theorem spec_l20Net.bits16 : waitsOk spec_l20Net.T16.2 spec_l20Net.B16 = true := by kernel_rfl
def spec_l20Net.T19 : Bool × List (List Nat × List Nat) := (true, [([], []), ([], []), ([1], [1]), ([2], [2]), ([], []), ([4], [4]), ([5], [5]), ([3, 6], [3, 6]), ([0, 0, 1, 2, 3, 4, 5, 6, 7], [0]), ([8, 7, 0, 1, 2, 3, 4, 5, 6, 7], [7, 8])])
def spec_l20Net.B19 : List Nat := [0, 0, 2, 6, 0, 16, 48, 126, 255, 511]
theorem spec_l20Net.tab19 : rtab .any (opsOf Try.f72 19) = spec_l20Net.T19 := by kernel_rfl
theorem spec_l20Net.bits19 : waitsOk spec_l20Net.T19.2 spec_l20Net.B19 = true := by kernel_rfl
set_option maxHeartbeats 8000000 in
set_option maxRecDepth 100000 in
theorem spec_l20Net.calls (k : Nat) (g : Nat) (s0_0 : List Int) (s0_1 : Int) (a1 : Int) (r1 : List Int) (r2 : Int) (w0 w : World) (hI : IsS73 w0 w g s0_0 s0_1) (hB : Below w0.heap.size w0 w) (h : spec_l20Net.f k s0_0 s0_1 a1 = some (r1, r2)) :
  Calls Try.prog 72 #[.pointer (some ⟨g, 0, none⟩), .int .i64 a1] w fun e w' => ∃ v0_ : Value, e = .returned (v0_) ∧ Kd.R (Kd.int .i64) 3 w' w.heap.size (fun _ => True) v0_ r1 ∧ IsS73 w0 w' g s0_0 r2 ∧ Below w0.heap.size w0 w' ∧ KeepBut w w' g none := by
 have HI0 := Aside0.mk hI
 have HK := Aside0.mk (KeepBut.refl w g none)
 have HL := Aside0.mk hB.size
 clear hI
 have HW0 := Aside0.mk hB.size
 have HB := Aside0.mk hB
 clear hB
 have H : ((spec_l20Rd_pick.f k s0_0 s0_1 6).bind fun bt208 => ((spec_PathNet.f k (wrap64 (1 + bt208.1))).bind fun t210 => ((spec_l20Rd_pick.f k s0_0 bt208.2 4).bind fun bt213 => (if bt213.1 = 0 then (if (wrap64 (1 + bt208.1)) ≥ 3 then ((spec_RingNet.f k (wrap64 (1 + bt208.1))).bind fun t215 => (spec_l20Net.j0 k a1 (wrap64 (1 + bt208.1)) t215 s0_0 bt213.2)) else (spec_l20Net.j0 k a1 (wrap64 (1 + bt208.1)) t210 s0_0 bt213.2)) else (if bt213.1 = 1 then (if 0 ≤ (wrap64 (1 + bt208.1)) then (if (wrap64 (1 + bt208.1) : Int).toNat ≤ 35184372088832 then (spec_l20Net.j0 k a1 (wrap64 (1 + bt208.1)) (List.replicate (wrap64 (1 + bt208.1) : Int).toNat 0) s0_0 bt213.2) else (none)) else (none)) else (spec_l20Net.j0 k a1 (wrap64 (1 + bt208.1)) t210 s0_0 bt213.2)))))) = some (r1, r2) := h
 clear h
 replace H := Option.bind_eq_some_iff.mp H
 obtain ⟨⟨t208, t209⟩, A30, H⟩ := H
 replace H : ((spec_PathNet.f k (wrap64 (1 + t208))).bind fun t210 => ((spec_l20Rd_pick.f k s0_0 t209 4).bind fun bt213 => (if bt213.1 = 0 then (if (wrap64 (1 + t208)) ≥ 3 then ((spec_RingNet.f k (wrap64 (1 + t208))).bind fun t215 => (spec_l20Net.j0 k a1 (wrap64 (1 + t208)) t215 s0_0 bt213.2)) else (spec_l20Net.j0 k a1 (wrap64 (1 + t208)) t210 s0_0 bt213.2)) else (if bt213.1 = 1 then (if 0 ≤ (wrap64 (1 + t208)) then (if (wrap64 (1 + t208) : Int).toNat ≤ 35184372088832 then (spec_l20Net.j0 k a1 (wrap64 (1 + t208)) (List.replicate (wrap64 (1 + t208) : Int).toNat 0) s0_0 bt213.2) else (none)) else (none)) else (spec_l20Net.j0 k a1 (wrap64 (1 + t208)) t210 s0_0 bt213.2))))) = some (r1, r2) := H
 have A3 := Aside0.mk A30
 clear A30
 replace H := Option.bind_eq_some_iff.mp H
 obtain ⟨t210, A40, H⟩ := H
 replace H : ((spec_l20Rd_pick.f k s0_0 t209 4).bind fun bt213 => (if bt213.1 = 0 then (if (wrap64 (1 + t208)) ≥ 3 then ((spec_RingNet.f k (wrap64 (1 + t208))).bind fun t215 => (spec_l20Net.j0 k a1 (wrap64 (1 + t208)) t215 s0_0 bt213.2)) else (spec_l20Net.j0 k a1 (wrap64 (1 + t208)) t210 s0_0 bt213.2)) else (if bt213.1 = 1 then (if 0 ≤ (wrap64 (1 + t208)) then (if (wrap64 (1 + t208) : Int).toNat ≤ 35184372088832 then (spec_l20Net.j0 k a1 (wrap64 (1 + t208)) (List.replicate (wrap64 (1 + t208) : Int).toNat 0) s0_0 bt213.2) else (none)) else (none)) else (spec_l20Net.j0 k a1 (wrap64 (1 + t208)) t210 s0_0 bt213.2)))) = some (r1, r2) := H
 have A4 := Aside0.mk A40
 clear A40
 replace H := Option.bind_eq_some_iff.mp H
 obtain ⟨⟨t213, t214⟩, A50, H⟩ := H
 replace H : (if t213 = 0 then (if (wrap64 (1 + t208)) ≥ 3 then ((spec_RingNet.f k (wrap64 (1 + t208))).bind fun t215 => (spec_l20Net.j0 k a1 (wrap64 (1 + t208)) t215 s0_0 t214)) else (spec_l20Net.j0 k a1 (wrap64 (1 + t208)) t210 s0_0 t214)) else (if t213 = 1 then (if 0 ≤ (wrap64 (1 + t208)) then (if (wrap64 (1 + t208) : Int).toNat ≤ 35184372088832 then (spec_l20Net.j0 k a1 (wrap64 (1 + t208)) (List.replicate (wrap64 (1 + t208) : Int).toNat 0) s0_0 t214) else (none)) else (none)) else (spec_l20Net.j0 k a1 (wrap64 (1 + t208)) t210 s0_0 t214))) = some (r1, r2) := H
 have A5 := Aside0.mk A50
 clear A50
 have HC6 := Aside0.mk H
 clear H
 go_enter Try.func72, Try.ntmps72
 go_upto_block 0 with (first | ((with_reducible refine gate_callee (f := 62) rfl ?_); refine goesL_ (some 11) rfl rfl Try.func62 (by kernel_rfl) rfl #[.pointer (some ⟨g, 0, none⟩), .int .i64 6] rfl mpq ?_; (with_reducible refine (spec_l20Rd_pick.calls k g s0_0 s0_1 6 t208 t209 w0 _ ?side1 ?side2 A3.out).mono ?_); (case side1 => exact IsS73.q HI0.out); (case side2 => exact hbqs HB.out (IsS73.ge HI0.out)); rintro e w7 ⟨rfl, hi, hb, hk⟩; refine ⟨_, rfl, ?_⟩; have n0_ := Aside0.mk (KeepBut.trans (hkq HK.out) hk (.inl rfl)); have n1_ := Aside0.mk (hb); have n2_ := Aside0.mk (hi); clear HK HB HI0; revert n0_ n1_ n2_; intro HK HB HI0; (try clear hb); (try clear hb2); (try clear hk); (try clear hi)) | ((with_reducible refine gate_callee (f := 76) rfl ?_); refine goesL_ (some 14) rfl rfl Try.func76 (by kernel_rfl) rfl #[.int .i64 (wrap64 (1 + t208))] rfl mpq ?_; (with_reducible refine (spec_PathNet.calls k (wrap64 (1 + t208)) t210 _ A4.out).mono ?_); rintro e w8 ⟨v211, rfl, ho0, hb⟩; refine ⟨_, rfl, ?_⟩; have n0_ := Aside0.mk (Kd.R_lower ho0 (ksq (hkq HK.out))); have n1_ := Aside0.mk (IsS73.below (IsS73.q HI0.out) hb); have n2_ := Aside0.mk (KeepBut.trans (hkq HK.out) (KeepBut.of_below hb g none) (.inl rfl)); have n3_ := Aside0.mk (below_step (hbqs HB.out (IsS73.ge HI0.out)) hb); clear HI0 HK HB; revert n0_ n1_ n2_ n3_; intro HO212 HI0 HK HB; (try clear hb); (try clear hb2); (try clear hk); (try clear hi); (try clear ho0)) | ((with_reducible refine gate_callee (f := 62) rfl ?_); refine goesL_ (some 16) rfl rfl Try.func62 (by kernel_rfl) rfl #[.pointer (some ⟨g, 0, none⟩), .int .i64 4] rfl mpq ?_; (with_reducible refine (spec_l20Rd_pick.calls k g s0_0 t209 4 t213 t214 w0 _ ?side1 ?side2 A5.out).mono ?_); (case side1 => exact IsS73.q HI0.out); (case side2 => exact hbqs HB.out (IsS73.ge HI0.out)); rintro e w9 ⟨rfl, hi, hb, hk⟩; refine ⟨_, rfl, ?_⟩; have n0_ := Aside0.mk (Kd.R_mono (Kd.R_keep (IsS73.apart (show IsS73 w0 _ g s0_0 t209 from IsS73.q HI0.out) (roq HO212.out) (by decide)) hk (fun _ h => h.2)) (fun _ h => h.1)); have n1_ := Aside0.mk (KeepBut.trans (hkq HK.out) hk (.inl rfl)); have n2_ := Aside0.mk (hb); have n3_ := Aside0.mk (hi); clear HO212 HK HB HI0; revert n0_ n1_ n2_ n3_; intro HO212 HK HB HI0; (try clear hb); (try clear hb2); (try clear hk); (try clear hi)))
 (try simp only [Act.put, List.setIfInBounds_toArray, List.set_cons_zero, List.set_cons_succ])
 go_cut [6] (fun v6 wc => ∃ (kq : Nat) (x6_5 : List Int), Aside0 (spec_l20Net.j0 kq a1 (wrap64 (1 + t208)) x6_5 s0_0 t214 = some (r1, r2)) ∧ Aside0 (kq ≤ k) ∧ Aside0 (Kd.R (Kd.int .i64) 3 wc w.heap.size (fun _ => True) v6 x6_5) ∧ Aside0 (IsS73 w0 wc g s0_0 t214) ∧ Aside0 (KeepBut w wc g none) ∧ Aside0 (Below w0.heap.size w0 wc))
 case first =>
  have H := HC6.out
  clear HC6
  by_cases c10 : t213 = 0
  ·rw [if_pos c10] at H
   have c10b0 : (t213 == 0) = true := beq_iff_eq.mpr c10
   have c10b1 : (t213 != 0) = false := bne_eq_false_iff_eq.mpr c10
   clear c10
   (first | rw [c10b0] | (simp only [i64_w, i32_w]; rw [c10b0]) | skip)
   by_cases c11 : (wrap64 (1 + t208)) ≥ 3
   ·rw [if_pos c11] at H
    have c11b0 : decide (3 ≤ (wrap64 (1 + t208))) = true := decide_eq_true c11
    clear c11
    replace H := Option.bind_eq_some_iff.mp H
    obtain ⟨t215, A120, H⟩ := H
    replace H : (spec_l20Net.j0 k a1 (wrap64 (1 + t208)) t215 s0_0 t214) = some (r1, r2) := H
    have A12 := Aside0.mk A120
    clear A120
    have H' := Aside0.mk H
    clear H
    go_wp2_with (first | ((with_reducible refine gate_callee (f := 77) rfl ?_); refine goesL_ (some 22) rfl rfl Try.func77 (by kernel_rfl) rfl #[.int .i64 (wrap64 (1 + t208))] rfl mpq ?_; (with_reducible refine (spec_RingNet.calls k (wrap64 (1 + t208)) t215 _ A12.out).mono ?_); rintro e w13 ⟨v216, rfl, ho0, hb⟩; refine ⟨_, rfl, ?_⟩; have n0_ := Aside0.mk (Kd.R_elder' (roq HO212.out) (Kd.R_base ho0) hb); have n1_ := Aside0.mk (Kd.R_lower (Kd.R_new' ho0 (Kd.R_lt (roq HO212.out))) (ksq (hkq HK.out))); have n2_ := Aside0.mk (IsS73.below (IsS73.q HI0.out) hb); have n3_ := Aside0.mk (KeepBut.trans (hkq HK.out) (KeepBut.of_below hb g none) (.inl rfl)); have n4_ := Aside0.mk (below_step (hbqs HB.out (IsS73.ge HI0.out)) hb); clear HO212 HI0 HK HB; revert n0_ n1_ n2_ n3_ n4_; intro HO212 HO217 HI0 HK HB; (try clear hb); (try clear hb2); (try clear hk); (try clear hi); (try clear ho0)))
    go_meet
    case rel => exact ⟨_, (t215), H', ⟨by first | omega | exact Nat.le_refl _⟩, ⟨by refine roq ?_; exact Kd.R_mono HO217.out (fun _ hk => trivial)⟩, ⟨IsS73.q HI0.out⟩, ⟨hkq HK.out⟩, ⟨hbqs HB.out (IsS73.ge HI0.out)⟩⟩
   ·rw [if_neg c11] at H
    have c11b0 : decide (3 ≤ (wrap64 (1 + t208))) = false := decide_eq_false c11
    clear c11
    have H' := Aside0.mk H
    clear H
    go_wp2
    go_meet
    case rel => exact ⟨_, (t210), H', ⟨by first | omega | exact Nat.le_refl _⟩, ⟨by refine roq ?_; exact HO212.out⟩, ⟨IsS73.q HI0.out⟩, ⟨hkq HK.out⟩, ⟨hbqs HB.out (IsS73.ge HI0.out)⟩⟩
  ·rw [if_neg c10] at H
   have c10b0 : (t213 == 0) = false := beq_eq_false_iff_ne.mpr c10
   have c10b1 : (t213 != 0) = true := bne_iff_ne.mpr c10
   (first | rw [c10b0] | (simp only [i64_w, i32_w]; rw [c10b0]) | skip)
   by_cases c14 : t213 = 1
   ·rw [if_pos c14] at H
    have c14b0 : (t213 == 1) = true := beq_iff_eq.mpr c14
    have c14b1 : (t213 != 1) = false := bne_eq_false_iff_eq.mpr c14
    clear c14
    obtain ⟨ji15, hji15⟩ : ∃ j_ : Int, (wrap64 (1 + t208)) = j_ := ⟨_, rfl⟩
    replace H : (if 0 ≤ (ji15) then (if (ji15 : Int).toNat ≤ 35184372088832 then (spec_l20Net.j0 k a1 ji15 (List.replicate (ji15 : Int).toNat 0) s0_0 t214) else (none)) else (none)) = some (r1, r2) := by first | (rw [hji15] at H; exact H) | (simp only [hji15] at H ⊢; exact H)
    have hji15w : (IntKind.i64.wrap (1 + t208)) = ji15 := (i64_w _).trans hji15
    (try rw [hji15])
    by_cases c16 : 0 ≤ (ji15)
    ·rw [if_pos c16] at H
     have c16b0 := eq_true c16
     have c16b1 : decide (0 ≤ (ji15)) = true := decide_eq_true c16
     clear c16
     by_cases c17 : (ji15 : Int).toNat ≤ 35184372088832
     ·rw [if_pos c17] at H
      have c17b0 := eq_true c17
      have c17b1 : decide ((ji15 : Int).toNat ≤ 35184372088832) = true := decide_eq_true c17
      clear c17
      obtain ⟨y218, hy218⟩ : ∃ y_ : List Int, y_ = (List.replicate (ji15 : Int).toNat 0) := ⟨_, rfl⟩
      replace H : (spec_l20Net.j0 k a1 ji15 y218 s0_0 t214) = some (r1, r2) := by first | (rw [hy218]; with_reducible exact H) | (have H2_ := (Option.bind_some _ _).symm.trans H; rw [hy218]; with_reducible exact H2_) | (have H2_ := (Option.bind_some _ _).symm.trans H; with_reducible exact H2_) | with_reducible exact H | (rw [hy218]; exact H) | exact H
      have Ny218 := Aside0.mk hy218
      clear hy218
      have H' := Aside0.mk H
      clear H
      go_wp2_with (first | ((with_reducible refine gate_dst (N := 26) rfl ?_); refine Kd.R_make (Kd.int .i64) _ 3 rfl (N := 26) rfl 22 _ _ rfl ji15 rfl rfl Try.underlying22 (.int .i64 0) 8 info3 rfl (by decide) (by omega) 0 (ok := fun _ => True) (okp := fun _ => True) rfl (fun _ hk => hk) trivial (od) (Nat.le_trans (Nat.mul_le_mul_right _ (od : ji15.toNat ≤ 35184372088832)) (by omega)) (Below.refl _ _) (Nat.le_refl _) ?_; intro v219 w18 ho19 hb hg_ hnew_; clear hg_ hnew_; (first | rw [← Ny218.out] at ho19 | (simp only [Int.reduceToNat] at ho19; rw [← Ny218.out] at ho19)); have n0_ := Aside0.mk (Kd.R_elder' (roq HO212.out) (Kd.R_base ho19) hb); have n1_ := Aside0.mk (Kd.R_lower (Kd.R_new' ho19 (Kd.R_lt (roq HO212.out))) (ksq (hkq HK.out))); have n2_ := Aside0.mk (IsS73.below (IsS73.q HI0.out) hb); have n3_ := Aside0.mk (KeepBut.trans (hkq HK.out) (KeepBut.of_below hb g none) (.inl rfl)); have n4_ := Aside0.mk (below_step (hbqs HB.out (IsS73.ge HI0.out)) hb); clear HO212 HI0 HK HB; revert n0_ n1_ n2_ n3_ n4_; intro HO212 HO220 HI0 HK HB; clear hb ho19))
      subst hji15
      go_meet
      case rel => exact ⟨_, (y218), H', ⟨by first | omega | exact Nat.le_refl _⟩, ⟨by refine roq ?_; exact Kd.R_mono HO220.out (fun _ hk => trivial)⟩, ⟨IsS73.q HI0.out⟩, ⟨hkq HK.out⟩, ⟨hbqs HB.out (IsS73.ge HI0.out)⟩⟩
     ·rw [if_neg c17] at H
      exact absurd H (by simp)
    ·rw [if_neg c16] at H
     exact absurd H (by simp)
   ·rw [if_neg c14] at H
    have c14b0 : (t213 == 1) = false := beq_eq_false_iff_ne.mpr c14
    have c14b1 : (t213 != 1) = true := bne_iff_ne.mpr c14
    have H' := Aside0.mk H
    clear H
    go_wp2
    go_meet
    case rel => exact ⟨_, (t210), H', ⟨by first | omega | exact Nat.le_refl _⟩, ⟨by refine roq ?_; exact HO212.out⟩, ⟨IsS73.q HI0.out⟩, ⟨hkq HK.out⟩, ⟨hbqs HB.out (IsS73.ge HI0.out)⟩⟩
 case rest =>
  clear HC6
  try clear c1
  try clear p2
  try clear c6
  try clear p6
  try clear c7
  try clear c10
  try clear c10b0
  try clear c10b1
  try clear c11
  try clear c11b0
  try clear c14
  try clear c14b0
  try clear c14b1
  try clear c16
  try clear c16b0
  try clear c16b1
  try clear c17
  try clear c17b0
  try clear c17b1
  obtain ⟨kq, x6_5, HA, HJ5, HO_6, HI0, HK, HB⟩ := hcut
  cases kq with
  | zero => exact absurd HA.out (by simp [spec_l20Net.j0])
  | succ kj5 =>
   have H := HA.out
   clear HA
   simp only [spec_l20Net.j0] at H
   replace H := Option.bind_eq_some_iff.mp H
   obtain ⟨⟨t221, t222⟩, A200, H⟩ := H
   replace H : (spec_l20Net.l0 kj5 a1 (wrap64 (1 + t208)) x6_5 t221 s0_0 t222) = some (r1, r2) := H
   have A20 := Aside0.mk A200
   clear A200
   have H' := Aside0.mk H
   clear H
   go_wp2_with (first | ((with_reducible refine gate_callee (f := 62) rfl ?_); refine goesL_ (some 28) rfl rfl Try.func62 (by kernel_rfl) rfl #[.pointer (some ⟨g, 0, none⟩), .int .i64 6] rfl mpq ?_; (with_reducible refine (spec_l20Rd_pick.calls kj5 g s0_0 t214 6 t221 t222 w0 _ ?side1 ?side2 A20.out).mono ?_); (case side1 => exact IsS73.q HI0.out); (case side2 => exact hbqs HB.out (IsS73.ge HI0.out)); rintro e w21 ⟨rfl, hi, hb, hk⟩; refine ⟨_, rfl, ?_⟩; have n0_ := Aside0.mk (Kd.R_mono (Kd.R_keep (IsS73.apart (show IsS73 w0 _ g s0_0 t214 from IsS73.q HI0.out) (roq HO_6.out) (by decide)) hk (fun _ h => h.2)) (fun _ h => h.1)); have n1_ := Aside0.mk (KeepBut.trans (hkq HK.out) hk (.inl rfl)); have n2_ := Aside0.mk (hb); have n3_ := Aside0.mk (hi); clear HO_6 HK HB HI0; revert n0_ n1_ n2_ n3_; intro HO_6 HK HB HI0; (try clear hb); (try clear hb2); (try clear hk); (try clear hi)))
   go_loopg [7] kj5 (fun kq v7 w' => ∃ (x6_2 : List Int) (x7_2 : Int) (x1001_2 : Int), v7 = .int .i64 x7_2 ∧ Aside0 (spec_l20Net.l0 kq a1 (wrap64 (1 + t208)) x6_2 x7_2 s0_0 x1001_2 = some (r1, r2)) ∧ Aside0 (kq ≤ kj5) ∧ Aside0 (Kd.R (Kd.int .i64) 3 w' w.heap.size (fun _ => True) u6 x6_2) ∧ Aside0 (IsS73 w0 w' g s0_0 x1001_2) ∧ Aside0 (KeepBut w w' g none) ∧ Aside0 (Below w0.heap.size w0 w'))
   case atStart => exact ⟨(x6_5), (t221), (t222), rfq, H', ⟨Nat.le_refl _⟩, ⟨by refine roq ?_; exact HO_6.out⟩, ⟨IsS73.q HI0.out⟩, ⟨hkq HK.out⟩, ⟨hbqs HB.out (IsS73.ge HI0.out)⟩⟩
   case round =>
    clear H'
    try clear c1
    try clear p2
    try clear c6
    try clear p6
    try clear c7
    try clear c10
    try clear c10b0
    try clear c10b1
    try clear c11
    try clear c11b0
    try clear c14
    try clear c14b0
    try clear c14b1
    try clear c16
    try clear c16b0
    try clear c16b1
    try clear c17
    try clear c17b0
    try clear c17b1
    try clear p2
    try clear p6
    obtain ⟨x6_2, x7_2, x1001_2, rfl, HA, HK2, HO_6, HI0, HK, HB⟩ := hrel
    cases gk with
    | zero => exact absurd HA.out (by simp [spec_l20Net.l0])
    | succ k2 =>
     have H := HA.out
     clear HA
     simp only [spec_l20Net.l0] at H
     by_cases c22 : x7_2 > 0
     ·rw [if_pos c22] at H
      have c22b0 : decide (0 < x7_2) = true := decide_eq_true c22
      clear c22
      replace H := Option.bind_eq_some_iff.mp H
      obtain ⟨⟨t223, t224⟩, A230, H⟩ := H
      replace H : ((spec_l20Rd_pick.f k2 s0_0 t224 (wrap64 (1 + t208))).bind fun bt225 => (if t223 = bt225.1 then (spec_l20Net.l0 k2 a1 (wrap64 (1 + t208)) x6_2 (wrap64 (x7_2 - 1)) s0_0 bt225.2) else (if 0 ≤ t223 then (if t223 < (x6_2.length : Int) then (if 0 ≤ bt225.1 then ((some (x6_2.set (t223 : Int).toNat (Go.bits .or .i64 (rd x6_2 t223) (shl .i64 1 bt225.1)) : List Int)).bind fun y228 => (if bt225.1 < (x6_2.length : Int) then (spec_l20Net.l0 k2 a1 (wrap64 (1 + t208)) (y228.set (bt225.1 : Int).toNat (Go.bits .or .i64 (rd y228 bt225.1) (shl .i64 1 t223))) (wrap64 (x7_2 - 1)) s0_0 bt225.2) else (none))) else (none)) else (none)) else (none)))) = some (r1, r2) := H
      have A23 := Aside0.mk A230
      clear A230
      replace H := Option.bind_eq_some_iff.mp H
      obtain ⟨⟨t225, t226⟩, A240, H⟩ := H
      replace H : (if t223 = t225 then (spec_l20Net.l0 k2 a1 (wrap64 (1 + t208)) x6_2 (wrap64 (x7_2 - 1)) s0_0 t226) else (if 0 ≤ t223 then (if t223 < (x6_2.length : Int) then (if 0 ≤ t225 then ((some (x6_2.set (t223 : Int).toNat (Go.bits .or .i64 (rd x6_2 t223) (shl .i64 1 t225)) : List Int)).bind fun y228 => (if t225 < (x6_2.length : Int) then (spec_l20Net.l0 k2 a1 (wrap64 (1 + t208)) (y228.set (t225 : Int).toNat (Go.bits .or .i64 (rd y228 t225) (shl .i64 1 t223))) (wrap64 (x7_2 - 1)) s0_0 t226) else (none))) else (none)) else (none)) else (none))) = some (r1, r2) := H
      have A24 := Aside0.mk A240
      clear A240
      by_cases c25 : t223 = t225
      ·rw [if_pos c25] at H
       have c25b0 : (t223 == t225) = true := beq_iff_eq.mpr c25
       have c25b1 : (t223 != t225) = false := bne_eq_false_iff_eq.mpr c25
       clear c25
       have H' := Aside0.mk H
       clear H
       go_wp2_with (first | ((with_reducible refine gate_callee (f := 62) rfl ?_); refine goesL_ (some 35) rfl rfl Try.func62 (by kernel_rfl) rfl #[.pointer (some ⟨g, 0, none⟩), .int .i64 (wrap64 (1 + t208))] rfl mpq ?_; (with_reducible refine (spec_l20Rd_pick.calls k2 g s0_0 x1001_2 (wrap64 (1 + t208)) t223 t224 w0 _ ?side1 ?side2 A23.out).mono ?_); (case side1 => exact IsS73.q HI0.out); (case side2 => exact hbqs HB.out (IsS73.ge HI0.out)); rintro e w26 ⟨rfl, hi, hb, hk⟩; refine ⟨_, rfl, ?_⟩; have n0_ := Aside0.mk (Kd.R_mono (Kd.R_keep (IsS73.apart (show IsS73 w0 _ g s0_0 x1001_2 from IsS73.q HI0.out) (roq HO_6.out) (by decide)) hk (fun _ h => h.2)) (fun _ h => h.1)); have n1_ := Aside0.mk (KeepBut.trans (hkq HK.out) hk (.inl rfl)); have n2_ := Aside0.mk (hb); have n3_ := Aside0.mk (hi); clear HO_6 HK HB HI0; revert n0_ n1_ n2_ n3_; intro HO_6 HK HB HI0; (try clear hb); (try clear hb2); (try clear hk); (try clear hi)) | ((with_reducible refine gate_callee (f := 62) rfl ?_); refine goesL_ (some 38) rfl rfl Try.func62 (by kernel_rfl) rfl #[.pointer (some ⟨g, 0, none⟩), .int .i64 (wrap64 (1 + t208))] rfl mpq ?_; (with_reducible refine (spec_l20Rd_pick.calls k2 g s0_0 t224 (wrap64 (1 + t208)) t225 t226 w0 _ ?side1 ?side2 A24.out).mono ?_); (case side1 => exact IsS73.q HI0.out); (case side2 => exact hbqs HB.out (IsS73.ge HI0.out)); rintro e w27 ⟨rfl, hi, hb, hk⟩; refine ⟨_, rfl, ?_⟩; have n0_ := Aside0.mk (Kd.R_mono (Kd.R_keep (IsS73.apart (show IsS73 w0 _ g s0_0 t224 from IsS73.q HI0.out) (roq HO_6.out) (by decide)) hk (fun _ h => h.2)) (fun _ h => h.1)); have n1_ := Aside0.mk (KeepBut.trans (hkq HK.out) hk (.inl rfl)); have n2_ := Aside0.mk (hb); have n3_ := Aside0.mk (hi); clear HO_6 HK HB HI0; revert n0_ n1_ n2_ n3_; intro HO_6 HK HB HI0; (try clear hb); (try clear hb2); (try clear hk); (try clear hi)))
       go_roundg k2
       case measure => have := HJ5.out; have := HK2.out; omega
       case rel => exact ⟨(x6_2), (wrap64 (x7_2 - 1)), (t226), rfq, H', ⟨by have := HJ5.out; have := HK2.out; omega⟩, ⟨by refine roq ?_; exact HO_6.out⟩, ⟨IsS73.q HI0.out⟩, ⟨hkq HK.out⟩, ⟨hbqs HB.out (IsS73.ge HI0.out)⟩⟩
      ·rw [if_neg c25] at H
       have c25b0 : (t223 == t225) = false := beq_eq_false_iff_ne.mpr c25
       have c25b1 : (t223 != t225) = true := bne_iff_ne.mpr c25
       by_cases c28 : 0 ≤ t223
       ·rw [if_pos c28] at H
        have c28b0 : decide (0 ≤ t223) = true := decide_eq_true c28
        clear c28
        by_cases c29 : t223 < (x6_2.length : Int)
        ·rw [if_pos c29] at H
         have c29b0 : decide (t223 < (x6_2.length : Int)) = true := decide_eq_true c29
         clear c29
         by_cases c30 : 0 ≤ t225
         ·rw [if_pos c30] at H
          have c30b0 := eq_true c30
          have c30b1 : decide (0 ≤ t225) = true := decide_eq_true c30
          clear c30
          obtain ⟨ji31, hji31⟩ : ∃ j_ : Int, (shl .i64 1 t225) = j_ := ⟨_, rfl⟩
          replace H : ((some (x6_2.set (t223 : Int).toNat (Go.bits .or .i64 (rd x6_2 t223) (ji31)) : List Int)).bind fun y228 => (if t225 < (x6_2.length : Int) then (spec_l20Net.l0 k2 a1 (wrap64 (1 + t208)) (y228.set (t225 : Int).toNat (Go.bits .or .i64 (rd y228 t225) (shl .i64 1 t223))) (wrap64 (x7_2 - 1)) s0_0 t226) else (none))) = some (r1, r2) := by first | (rw [hji31] at H; exact H) | (simp only [hji31] at H ⊢; exact H)
          (try rw [hji31] at A23)
          (try rw [hji31] at A24)
          have hji31_ : (IntKind.i64.wrap (1 * 2 ^ min t225.toNat 64)) = ji31 := hji31
          have hji31z : t225 ≤ 64 → (IntKind.i64.wrap (1 * 2 ^ t225.toNat)) = ji31 := shl_small hji31
          have hji31u : (IntKind.i64.wrap (2 ^ min t225.toNat 64)) = ji31 := by have h_ := hji31_; rw [Int.one_mul] at h_; exact h_
          have hji31v : t225 ≤ 64 → (IntKind.i64.wrap (2 ^ t225.toNat)) = ji31 := fun hle_ => by have h_ := hji31z hle_; rw [Int.one_mul] at h_; exact h_
          have hji31y : (wrap64 (1 * 2 ^ min t225.toNat 64)) = ji31 := (i64_w _).symm.trans hji31_
          have hji31x : t225 ≤ 64 → (wrap64 (1 * 2 ^ t225.toNat)) = ji31 := fun h_ => (i64_w _).symm.trans (hji31z h_)
          obtain ⟨y228, hy228⟩ : ∃ y_ : List Int, y_ = (x6_2.set (t223 : Int).toNat (Go.bits .or .i64 (rd x6_2 t223) (ji31))) := ⟨_, rfl⟩
          replace H : (if t225 < (x6_2.length : Int) then (spec_l20Net.l0 k2 a1 (wrap64 (1 + t208)) (y228.set (t225 : Int).toNat (Go.bits .or .i64 (rd y228 t225) (shl .i64 1 t223))) (wrap64 (x7_2 - 1)) s0_0 t226) else (none)) = some (r1, r2) := by first | (rw [hy228]; with_reducible exact H) | (have H2_ := (Option.bind_some _ _).symm.trans H; rw [hy228]; with_reducible exact H2_) | (have H2_ := (Option.bind_some _ _).symm.trans H; with_reducible exact H2_) | with_reducible exact H | (rw [hy228]; exact H) | exact H
          have Ny228 := Aside0.mk hy228
          clear hy228
          by_cases c33 : t225 < (x6_2.length : Int)
          ·rw [if_pos c33] at H
           have c33b0 : decide (t225 < (x6_2.length : Int)) = true := decide_eq_true c33
           clear c33
           have c34b0 := eq_true (od : 0 ≤ t223)
           obtain ⟨ji35, hji35⟩ : ∃ j_ : Int, (shl .i64 1 t223) = j_ := ⟨_, rfl⟩
           replace H : (spec_l20Net.l0 k2 a1 (wrap64 (1 + t208)) (y228.set (t225 : Int).toNat (Go.bits .or .i64 (rd y228 t225) (ji35))) (wrap64 (x7_2 - 1)) s0_0 t226) = some (r1, r2) := by first | (rw [hji35] at H; exact H) | (simp only [hji35] at H ⊢; exact H)
           (try rw [hji35] at A23)
           (try rw [hji35] at A24)
           have hji35_ : (IntKind.i64.wrap (1 * 2 ^ min t223.toNat 64)) = ji35 := hji35
           have hji35z : t223 ≤ 64 → (IntKind.i64.wrap (1 * 2 ^ t223.toNat)) = ji35 := shl_small hji35
           have hji35u : (IntKind.i64.wrap (2 ^ min t223.toNat 64)) = ji35 := by have h_ := hji35_; rw [Int.one_mul] at h_; exact h_
           have hji35v : t223 ≤ 64 → (IntKind.i64.wrap (2 ^ t223.toNat)) = ji35 := fun hle_ => by have h_ := hji35z hle_; rw [Int.one_mul] at h_; exact h_
           have hji35y : (wrap64 (1 * 2 ^ min t223.toNat 64)) = ji35 := (i64_w _).symm.trans hji35_
           have hji35x : t223 ≤ 64 → (wrap64 (1 * 2 ^ t223.toNat)) = ji35 := fun h_ => (i64_w _).symm.trans (hji35z h_)
           obtain ⟨y230, hy230⟩ : ∃ y_ : List Int, y_ = (y228.set (t225 : Int).toNat (Go.bits .or .i64 (rd y228 t225) (ji35))) := ⟨_, rfl⟩
           replace H : (spec_l20Net.l0 k2 a1 (wrap64 (1 + t208)) y230 (wrap64 (x7_2 - 1)) s0_0 t226) = some (r1, r2) := by first | (rw [hy230]; with_reducible exact H) | (have H2_ := (Option.bind_some _ _).symm.trans H; rw [hy230]; with_reducible exact H2_) | (have H2_ := (Option.bind_some _ _).symm.trans H; with_reducible exact H2_) | with_reducible exact H | (rw [hy230]; exact H) | exact H
           have Ny230 := Aside0.mk hy230
           clear hy230
           have H' := Aside0.mk H
           clear H
           try go_wp2_with (first | ((with_reducible refine gate_callee (f := 62) rfl ?_); refine goesL_ (some 35) rfl rfl Try.func62 (by kernel_rfl) rfl #[.pointer (some ⟨g, 0, none⟩), .int .i64 (wrap64 (1 + t208))] rfl mpq ?_; (with_reducible refine (spec_l20Rd_pick.calls k2 g s0_0 x1001_2 (wrap64 (1 + t208)) t223 t224 w0 _ ?side1 ?side2 A23.out).mono ?_); (case side1 => exact IsS73.q HI0.out); (case side2 => exact hbqs HB.out (IsS73.ge HI0.out)); rintro e w37 ⟨rfl, hi, hb, hk⟩; refine ⟨_, rfl, ?_⟩; have n0_ := Aside0.mk (Kd.R_mono (Kd.R_keep (IsS73.apart (show IsS73 w0 _ g s0_0 x1001_2 from IsS73.q HI0.out) (roq HO_6.out) (by decide)) hk (fun _ h => h.2)) (fun _ h => h.1)); have n1_ := Aside0.mk (KeepBut.trans (hkq HK.out) hk (.inl rfl)); have n2_ := Aside0.mk (hb); have n3_ := Aside0.mk (hi); clear HO_6 HK HB HI0; revert n0_ n1_ n2_ n3_; intro HO_6 HK HB HI0; (try clear hb); (try clear hb2); (try clear hk); (try clear hi)) | ((with_reducible refine gate_callee (f := 62) rfl ?_); refine goesL_ (some 38) rfl rfl Try.func62 (by kernel_rfl) rfl #[.pointer (some ⟨g, 0, none⟩), .int .i64 (wrap64 (1 + t208))] rfl mpq ?_; (with_reducible refine (spec_l20Rd_pick.calls k2 g s0_0 t224 (wrap64 (1 + t208)) t225 t226 w0 _ ?side1 ?side2 A24.out).mono ?_); (case side1 => exact IsS73.q HI0.out); (case side2 => exact hbqs HB.out (IsS73.ge HI0.out)); rintro e w38 ⟨rfl, hi, hb, hk⟩; refine ⟨_, rfl, ?_⟩; have n0_ := Aside0.mk (Kd.R_mono (Kd.R_keep (IsS73.apart (show IsS73 w0 _ g s0_0 t224 from IsS73.q HI0.out) (roq HO_6.out) (by decide)) hk (fun _ h => h.2)) (fun _ h => h.1)); have n1_ := Aside0.mk (KeepBut.trans (hkq HK.out) hk (.inl rfl)); have n2_ := Aside0.mk (hb); have n3_ := Aside0.mk (hi); clear HO_6 HK HB HI0; revert n0_ n1_ n2_ n3_; intro HO_6 HK HB HI0; (try clear hb); (try clear hb2); (try clear hk); (try clear hi)))
           have n0_ := Aside0.mk (Kd.R_drew HO_6.out)
           have n1_ := Aside0.mk (IsS73.drew HI0.out)
           have n2_ := Aside0.mk (keep_drew HK.out)
           have n3_ := Aside0.mk (below_drew1 HB.out)
           clear HO_6 HI0 HK HB
           revert n0_ n1_ n2_ n3_
           intro HO_6 HI0 HK HB
           obtain ⟨Ao40, co40, eo40⟩ := Kd.R_slice HO_6.out
           (first | subst eo40 | (injection eo40 with f1_ f2_ f3_; have f4_ := f1_.symm; have f5_ := f3_.symm; clear f1_ f2_ f3_; subst f4_; subst f5_))
           have p227 : 0 ≤ (t223 : Int) := od
           have q227 : t223 < (x6_2.length : Int) := od
           obtain ⟨ad227, e227, hx227_0⟩ := Kd.at_int (Kd.R_reads' HO_6.out).2.2 t223 p227 q227
           cases e227
           replace p227 := eq_true p227
           replace q227 := eq_true q227
           have p32 : 0 ≤ (t223 : Int) := od
           have q32 : (t223 : Int) < ((x6_2.length : Int) : Int) := od
           obtain ⟨go32, co32, eo32, gb32, gl32, cl32, HG32⟩ := Kd.R_form HO_6.out (by omega)
           (first | cases eo32 | (injection eo32 with ea_ en_ ec_; (first | subst ea_ | (injection ea_ with ea_; subst ea_)); subst ec_; clear en_))
           have GB32 := Aside0.mk gb32
           have GG32 := Aside0.mk HG32
           clear gb32 gl32 HG32
           (first | simp only [add_plain] at hx227_0 | skip)
           obtain ⟨hx32_0, hf32_0⟩ := Kd.R_celln 0 HO_6.out (t223 : Int) p32 q32
           replace p32 := eq_true p32
           replace q32 := eq_true q32
           have HN0_go32 := Aside0.mk (show g ≠ go32 from by have h_ := IsS73.own_ne HI0.out HO_6.out (by decide); intro e_; exact h_ (by rw [e_]; rfl))
           have HP41 := Kd.R_putn HO_6.out (t223 : Int) (Go.bits .or .i64 (rd x6_2 t223) (ji31))
           rw [← Ny228.out] at HP41
           have HQ41 := Aside0.mk HP41
           clear HP41
           refine start_ (n := 11) (S := fun w' => w'.cell? ⟨go32, (t223).toNat, none⟩ = some (.int .i64 (rd x6_2 t223))) (ds := [10]) #[false, false, false, false, false, false, false, false, false, false, false] (by kernel_rfl) rfl rfl (hx227_0) (fun hHeld => ?_); refine with_tabW spec_l20Net.tab15 spec_l20Net.bits15 (fun HT_ HW_ => ?_)
           generalize w38.drew = w39 at HO_6 HI0 HK HB GG32 HQ41 hf32_0 hx227_0 hx32_0 hHeld ⊢
           refine pureq (i := 0) (N := some 42) #[true, false, false, false, false, false, false, false, false, false, false] rfl rfl HT_.out ?_
           refine pureq (i := 1) (N := some 43) #[true, true, false, false, false, false, false, false, false, false, false] rfl rfl HT_.out ?_
           refine pureq (i := 2) (N := some 44) #[true, true, true, false, false, false, false, false, false, false, false] rfl rfl HT_.out ?_
           refine pureq (i := 3) (N := some 45) #[true, true, true, true, false, false, false, false, false, false, false] rfl rfl HT_.out ?_
           refine pureq (i := 4) (N := some 46) #[true, true, true, true, true, false, false, false, false, false, false] rfl rfl HT_.out ?_
           refine pureq (i := 6) (N := some 48) #[true, true, true, true, true, false, true, false, false, false, false] rfl rfl HT_.out ?_
           refine pureq (i := 7) (N := some 49) #[true, true, true, true, true, false, true, true, false, false, false] rfl rfl HT_.out ?_
           refine take_ (i := 5) (N := some 47) (v := ?_) (a' := ?_) #[true, true, true, true, true, true, true, true, false, false, false] rfl rfl (take_ofW HT_.out HW_.out (by kernel_rfl)) (fun _ _ _ h => h) (Or.inl ⟨by rfl, ?_⟩) hHeld ?_ ?_
           rotate_left
           ·intro w' s0
            go_simp
            with_reducible rfl
           rotate_left
           ·simp only [Act.put, List.setIfInBounds_toArray, List.set_cons_zero, List.set_cons_succ, i64_w, i32_w]
            rfl
           refine pureq (i := 8) (N := some 50) #[true, true, true, true, true, true, true, true, true, false, false] rfl rfl HT_.out ?_
           refine pureq (i := 9) (N := some 51) #[true, true, true, true, true, true, true, true, true, true, false] rfl rfl HT_.out ?_
           refine last_ (i := 10) (N := none) #[true, true, true, true, true, true, true, true, true, true, true] rfl rfl (one_of HT_.out (by kernel_rfl)) (by decide) (fun K hK => ?_)
           refine skip_ (w1 := ?_) (by rfl) rfl ?_ ?_
           rotate_left
           ·go_simp
            rfl
           refine hK.out _ _ ?_
           clear hK K
           refine done_ (done_of HT_.out (by kernel_rfl)) ?_
           try go_wp2
           have n0_ : Aside0 (Kd.R (Kd.int .i64) 3 (w39.setCell ⟨go32, (t223 : Int).toNat, none⟩ (.int .i64 (Go.bits .or .i64 (rd x6_2 t223) (ji31)))) w.heap.size (fun _ => True) (.slice (some ⟨go32, 0, none⟩) x6_2.length co40) y228) := ⟨by refine roq ?_; exact HQ41.out⟩
           have n1_ : Aside0 (IsS73 w0 (w39.setCell ⟨go32, (t223 : Int).toNat, none⟩ (.int .i64 (Go.bits .or .i64 (rd x6_2 t223) (ji31)))) g s0_0 t226) := ⟨by repeat (first | (with_reducible first | exact HI0.out | apply IsS73.alloc | apply IsS73.drewN | apply IsS73.drew | apply IsS73.set_1 | refine IsS73.far ?_ HN0_go32.out _) | exact HI0.out)⟩
           have n2_ : Aside0 (KeepBut w (w39.setCell ⟨go32, (t223 : Int).toNat, none⟩ (.int .i64 (Go.bits .or .i64 (rd x6_2 t223) (ji31)))) g none) := ⟨by repeat (first | (with_reducible first | exact HK.out | apply KeepBut.set_ | apply keep_drewN | apply keep_drew | apply keep_alloc | refine keep_far ?_ GB32.out _) | exact HK.out)⟩
           have n3_ : Aside0 (Below w0.heap.size w0 (w39.setCell ⟨go32, (t223 : Int).toNat, none⟩ (.int .i64 (Go.bits .or .i64 (rd x6_2 t223) (ji31))))) := ⟨by repeat (first | (with_reducible first | exact HB.out | apply below_alloc | apply pw_below_drewN | apply below_drew1 | refine below_set ?_ (Nat.le_trans HL.out GB32.out) | refine below_set ?_ (IsS73.ge HI0.out)) | exact HB.out)⟩
           (try clear HO_6)
           (try clear HI0)
           (try clear HK)
           (try clear HB)
           generalize (w39.setCell ⟨go32, (t223 : Int).toNat, none⟩ (.int .i64 (Go.bits .or .i64 (rd x6_2 t223) (ji31)))) = w42 at n0_ n1_ n2_ n3_ ⊢
           have HO_6 := n0_
           have HI0 := n1_
           have HK := n2_
           have HB := n3_
           clear n0_ n1_ n2_ n3_
           have n0_ := Aside0.mk (Kd.R_drew HO_6.out)
           have n1_ := Aside0.mk (IsS73.drew HI0.out)
           have n2_ := Aside0.mk (keep_drew HK.out)
           have n3_ := Aside0.mk (below_drew1 HB.out)
           clear HO_6 HI0 HK HB
           revert n0_ n1_ n2_ n3_
           intro HO_6 HI0 HK HB
           have p229 : 0 ≤ (t225 : Int) := od
           have q229 : t225 < (y228.length : Int) := (by have h_ : (t225 : Int) < ((x6_2.length : Int) : Int) := od; first | (have e_ := (Kd.R_reads' HO_6.out).1; omega) | simpa only [Ny228.out, List.length_set] using h_)
           have ql229 : ((t225 : Int) < ((x6_2.length : Int) : Int)) = True := eq_true (od)
           obtain ⟨ad229, e229, hx229_0⟩ := Kd.at_int (Kd.R_reads' HO_6.out).2.2 t225 p229 q229
           obtain rfl : (⟨go32, 0, none⟩ : Addr) = ad229 := (by injection e229)
           (first | simp only [add_plain] at hx229_0 | simp only [add_at] at hx229_0 | simp only [Addr.add, Nat.zero_add] at hx229_0 | skip)
           replace p229 := eq_true p229
           replace q229 := eq_true q229
           have p36 : 0 ≤ (t225 : Int) := od
           have q36 : (t225 : Int) < ((x6_2.length : Int) : Int) := od
           obtain ⟨hx36_0, hf36_0⟩ := Kd.R_celln 0 HO_6.out (t225 : Int) p36 q36
           replace p36 := eq_true p36
           replace q36 := eq_true q36
           have HN0_go32 := Aside0.mk (show g ≠ go32 from by have h_ := IsS73.own_ne HI0.out HO_6.out (by decide); intro e_; exact h_ (by rw [e_]; rfl))
           have HP44 := Kd.R_putn HO_6.out (t225 : Int) (Go.bits .or .i64 (rd y228 t225) (ji35))
           rw [← Ny230.out] at HP44
           have HQ44 := Aside0.mk HP44
           clear HP44
           refine start_ (n := 11) (S := fun w' => w'.cell? ⟨go32, (t225).toNat, none⟩ = some (.int .i64 (rd y228 t225))) (ds := [10]) #[false, false, false, false, false, false, false, false, false, false, false] (by kernel_rfl) rfl rfl (hx229_0) (fun hHeld => ?_); refine with_tabW spec_l20Net.tab16 spec_l20Net.bits16 (fun HT_ HW_ => ?_)
           generalize w42.drew = w43 at HO_6 HI0 HK HB HQ41 HQ44 hf36_0 hx229_0 hx36_0 hHeld ⊢
           refine pureq (i := 0) (N := some 52) #[true, false, false, false, false, false, false, false, false, false, false] rfl rfl HT_.out ?_
           refine pureq (i := 1) (N := some 53) #[true, true, false, false, false, false, false, false, false, false, false] rfl rfl HT_.out ?_
           refine pureq (i := 2) (N := some 54) #[true, true, true, false, false, false, false, false, false, false, false] rfl rfl HT_.out ?_
           refine pureq (i := 3) (N := some 55) #[true, true, true, true, false, false, false, false, false, false, false] rfl rfl HT_.out ?_
           refine pureq (i := 4) (N := some 56) #[true, true, true, true, true, false, false, false, false, false, false] rfl rfl HT_.out ?_
           refine pureq (i := 6) (N := some 58) #[true, true, true, true, true, false, true, false, false, false, false] rfl rfl HT_.out ?_
           refine pureq (i := 7) (N := some 59) #[true, true, true, true, true, false, true, true, false, false, false] rfl rfl HT_.out ?_
           refine take_ (i := 5) (N := some 57) (v := ?_) (a' := ?_) #[true, true, true, true, true, true, true, true, false, false, false] rfl rfl (take_ofW HT_.out HW_.out (by kernel_rfl)) (fun _ _ _ h => h) (Or.inl ⟨by rfl, ?_⟩) hHeld ?_ ?_
           rotate_left
           ·intro w' s0
            go_simp
            with_reducible rfl
           rotate_left
           ·simp only [Act.put, List.setIfInBounds_toArray, List.set_cons_zero, List.set_cons_succ, i64_w, i32_w]
            rfl
           refine pureq (i := 8) (N := some 60) #[true, true, true, true, true, true, true, true, true, false, false] rfl rfl HT_.out ?_
           refine pureq (i := 9) (N := some 61) #[true, true, true, true, true, true, true, true, true, true, false] rfl rfl HT_.out ?_
           refine last_ (i := 10) (N := none) #[true, true, true, true, true, true, true, true, true, true, true] rfl rfl (one_of HT_.out (by kernel_rfl)) (by decide) (fun K hK => ?_)
           refine skip_ (w1 := ?_) (by rfl) rfl ?_ ?_
           rotate_left
           ·go_simp
            rfl
           refine hK.out _ _ ?_
           clear hK K
           refine done_ (done_of HT_.out (by kernel_rfl)) ?_
           try go_wp2
           go_roundg k2
           case measure => have := HJ5.out; have := HK2.out; omega
           case rel => exact ⟨(y230), (wrap64 (x7_2 - 1)), (t226), rfq, H', ⟨by have := HJ5.out; have := HK2.out; omega⟩, ⟨by refine roq ?_; exact HQ44.out⟩, ⟨by repeat (first | (with_reducible first | exact HI0.out | apply IsS73.alloc | apply IsS73.drewN | apply IsS73.drew | apply IsS73.set_1 | refine IsS73.far ?_ HN0_go32.out _) | exact HI0.out)⟩, ⟨by repeat (first | (with_reducible first | exact HK.out | apply KeepBut.set_ | apply keep_drewN | apply keep_drew | apply keep_alloc | refine keep_far ?_ GB32.out _) | exact HK.out)⟩, ⟨by repeat (first | (with_reducible first | exact HB.out | apply below_alloc | apply pw_below_drewN | apply below_drew1 | refine below_set ?_ (Nat.le_trans HL.out GB32.out) | refine below_set ?_ (IsS73.ge HI0.out)) | exact HB.out)⟩⟩
          ·rw [if_neg c33] at H
           exact absurd H (by simp)
         ·rw [if_neg c30] at H
          exact absurd H (by simp)
        ·rw [if_neg c29] at H
         exact absurd H (by simp)
       ·rw [if_neg c28] at H
        exact absurd H (by simp)
     ·rw [if_neg c22] at H
      have c22b0 : decide (0 < x7_2) = false := decide_eq_false c22
      clear c22
      replace H := Option.bind_eq_some_iff.mp H
      obtain ⟨⟨t231, t232⟩, A450, H⟩ := H
      replace H : (if t231 = true then ((spec_l20Rd_pick.f k2 s0_0 t232 3).bind fun bt233 => (if bt233.1 = 0 then (some ((([] : List Int)), bt233.2)) else (if bt233.1 = 1 then (if 0 < (x6_2.length : Int) then (some ((x6_2.set (0 : Int).toNat (Go.bits .or .i64 (rd x6_2 0) 1)), bt233.2)) else (none)) else (if 0 < (x6_2.length : Int) then (if 0 ≤ (wrap64 ((wrap64 (1 + t208)) - 1)) then ((some (x6_2.set (0 : Int).toNat (Go.bits .xor .i64 (rd x6_2 0) (shl .i64 1 (wrap64 ((wrap64 (1 + t208)) - 1)))) : List Int)).bind fun y241 => (if (wrap64 (1 + t208)) = 1 then (some ((y241.set (0 : Int).toNat (-1)), bt233.2)) else (some (y241, bt233.2)))) else (none)) else (none))))) else (some (x6_2, t232))) = some (r1, r2) := H
      have A45 := Aside0.mk A450
      clear A450
      by_cases c46 : t231 = true
      ·subst c46
       have H1 : ((spec_l20Rd_pick.f k2 s0_0 t232 3).bind fun bt233 => (if bt233.1 = 0 then (some ((([] : List Int)), bt233.2)) else (if bt233.1 = 1 then (if 0 < (x6_2.length : Int) then (some ((x6_2.set (0 : Int).toNat (Go.bits .or .i64 (rd x6_2 0) 1)), bt233.2)) else (none)) else (if 0 < (x6_2.length : Int) then (if 0 ≤ (wrap64 ((wrap64 (1 + t208)) - 1)) then ((some (x6_2.set (0 : Int).toNat (Go.bits .xor .i64 (rd x6_2 0) (shl .i64 1 (wrap64 ((wrap64 (1 + t208)) - 1)))) : List Int)).bind fun y241 => (if (wrap64 (1 + t208)) = 1 then (some ((y241.set (0 : Int).toNat (-1)), bt233.2)) else (some (y241, bt233.2)))) else (none)) else (none))))) = some (r1, r2) := by rw [if_pos rfl] at H; exact H
       clear H
       have H := H1
       clear H1
       replace H := Option.bind_eq_some_iff.mp H
       obtain ⟨⟨t233, t234⟩, A470, H⟩ := H
       replace H : (if t233 = 0 then (some ((([] : List Int)), t234)) else (if t233 = 1 then (if 0 < (x6_2.length : Int) then (some ((x6_2.set (0 : Int).toNat (Go.bits .or .i64 (rd x6_2 0) 1)), t234)) else (none)) else (if 0 < (x6_2.length : Int) then (if 0 ≤ (wrap64 ((wrap64 (1 + t208)) - 1)) then ((some (x6_2.set (0 : Int).toNat (Go.bits .xor .i64 (rd x6_2 0) (shl .i64 1 (wrap64 ((wrap64 (1 + t208)) - 1)))) : List Int)).bind fun y241 => (if (wrap64 (1 + t208)) = 1 then (some ((y241.set (0 : Int).toNat (-1)), t234)) else (some (y241, t234)))) else (none)) else (none)))) = some (r1, r2) := H
       have A47 := Aside0.mk A470
       clear A470
       by_cases c48 : t233 = 0
       ·rw [if_pos c48] at H
        have c48b0 : (t233 == 0) = true := beq_iff_eq.mpr c48
        have c48b1 : (t233 != 0) = false := bne_eq_false_iff_eq.mpr c48
        clear c48
        obtain ⟨y235, hy235⟩ : ∃ y_ : List Int, y_ = (([] : List Int)) := ⟨_, rfl⟩
        replace H : (some (y235, t234)) = some (r1, r2) := by first | (rw [hy235]; with_reducible exact H) | (have H2_ := (Option.bind_some _ _).symm.trans H; rw [hy235]; with_reducible exact H2_) | (have H2_ := (Option.bind_some _ _).symm.trans H; with_reducible exact H2_) | with_reducible exact H | (rw [hy235]; exact H) | exact H
        have Ny235 := Aside0.mk hy235
        clear hy235
        simp only [Option.some.injEq, Prod.mk.injEq] at H
        obtain ⟨rfl, rfl⟩ := H
        go_wp2_with (first | ((with_reducible refine gate_callee (f := 63) rfl ?_); refine goesL_ (some 64) rfl rfl Try.func63 (by kernel_rfl) rfl #[.pointer (some ⟨g, 0, none⟩), .int .i64 a1] rfl mpq ?_; (with_reducible refine (spec_l20Rd_odd.calls k2 g s0_0 x1001_2 a1 true t232 w0 _ ?side1 ?side2 A45.out).mono ?_); (case side1 => exact IsS73.q HI0.out); (case side2 => exact hbqs HB.out (IsS73.ge HI0.out)); rintro e w49 ⟨rfl, hi, hb, hk⟩; refine ⟨_, rfl, ?_⟩; have n0_ := Aside0.mk (Kd.R_mono (Kd.R_keep (IsS73.apart (show IsS73 w0 _ g s0_0 x1001_2 from IsS73.q HI0.out) (roq HO_6.out) (by decide)) hk (fun _ h => h.2)) (fun _ h => h.1)); have n1_ := Aside0.mk (KeepBut.trans (hkq HK.out) hk (.inl rfl)); have n2_ := Aside0.mk (hb); have n3_ := Aside0.mk (hi); clear HO_6 HK HB HI0; revert n0_ n1_ n2_ n3_; intro HO_6 HK HB HI0; (try clear hb); (try clear hb2); (try clear hk); (try clear hi)) | ((with_reducible refine gate_callee (f := 62) rfl ?_); refine goesL_ (some 66) rfl rfl Try.func62 (by kernel_rfl) rfl #[.pointer (some ⟨g, 0, none⟩), .int .i64 3] rfl mpq ?_; (with_reducible refine (spec_l20Rd_pick.calls k2 g s0_0 t232 3 t233 t234 w0 _ ?side1 ?side2 A47.out).mono ?_); (case side1 => exact IsS73.q HI0.out); (case side2 => exact hbqs HB.out (IsS73.ge HI0.out)); rintro e w50 ⟨rfl, hi, hb, hk⟩; refine ⟨_, rfl, ?_⟩; have n0_ := Aside0.mk (Kd.R_mono (Kd.R_keep (IsS73.apart (show IsS73 w0 _ g s0_0 t232 from IsS73.q HI0.out) (roq HO_6.out) (by decide)) hk (fun _ h => h.2)) (fun _ h => h.1)); have n1_ := Aside0.mk (KeepBut.trans (hkq HK.out) hk (.inl rfl)); have n2_ := Aside0.mk (hb); have n3_ := Aside0.mk (hi); clear HO_6 HK HB HI0; revert n0_ n1_ n2_ n3_; intro HO_6 HK HB HI0; (try clear hb); (try clear hb2); (try clear hk); (try clear hi)) | ((with_reducible refine gate_dst (N := 82) rfl ?_); refine Kd.R_lit (Kd.int .i64) _ 3 ?hg (N := 82) ?hd (xs := ([] : List Int)) (inner := []) (ok := fun _ => True) (okp := fun _ => True) ?hr ?hp (fun _ hk => hk) trivial (Below.refl _ _) (Nat.le_refl _) (by simp) ?_; (case hd => rfl); (case hg => rfl); (case hr => first | (go_simp; done) | (go_simp; rfl)); (case hp => exact (Reps.none _ _)); intro v236 w51 ho52 hb hg_ hnew_; clear hg_ hnew_; (first | rw [← Ny235.out] at ho52 | (simp only [Int.reduceToNat] at ho52; rw [← Ny235.out] at ho52)); have n0_ := Aside0.mk (Kd.R_elder' (roq HO_6.out) (Kd.R_base ho52) hb); have n1_ := Aside0.mk (Kd.R_lower (Kd.R_new' ho52 (Kd.R_lt (roq HO_6.out))) (ksq (hkq HK.out))); have n2_ := Aside0.mk (IsS73.below (IsS73.q HI0.out) hb); have n3_ := Aside0.mk (KeepBut.trans (hkq HK.out) (KeepBut.of_below hb g none) (.inl rfl)); have n4_ := Aside0.mk (below_step (hbqs HB.out (IsS73.ge HI0.out)) hb); clear HO_6 HI0 HK HB; revert n0_ n1_ n2_ n3_ n4_; intro HO_6 HO237 HI0 HK HB; clear hb ho52))
        go_ret
        exact ⟨_, by first | rfl | (simp [errW_none, errW_some] <;> rfl) | (simp [*, errW_none, errW_some] <;> rfl), by refine roq ?_; exact Kd.R_mono HO237.out (fun _ hk => trivial), IsS73.q HI0.out, hbqs HB.out (IsS73.ge HI0.out), hkq HK.out⟩
       ·rw [if_neg c48] at H
        have c48b0 : (t233 == 0) = false := beq_eq_false_iff_ne.mpr c48
        have c48b1 : (t233 != 0) = true := bne_iff_ne.mpr c48
        by_cases c53 : t233 = 1
        ·rw [if_pos c53] at H
         have c53b0 : (t233 == 1) = true := beq_iff_eq.mpr c53
         have c53b1 : (t233 != 1) = false := bne_eq_false_iff_eq.mpr c53
         clear c53
         by_cases c54 : 0 < (x6_2.length : Int)
         ·rw [if_pos c54] at H
          have c54b0 : decide (0 < (x6_2.length : Int)) = true := decide_eq_true c54
          have c54b1 : decide (0 < x6_2.length) = true := decide_eq_true (by omega)
          clear c54
          obtain ⟨y239, hy239⟩ : ∃ y_ : List Int, y_ = (x6_2.set (0 : Int).toNat (Go.bits .or .i64 (rd x6_2 0) 1)) := ⟨_, rfl⟩
          replace H : (some (y239, t234)) = some (r1, r2) := by first | (rw [hy239]; with_reducible exact H) | (have H2_ := (Option.bind_some _ _).symm.trans H; rw [hy239]; with_reducible exact H2_) | (have H2_ := (Option.bind_some _ _).symm.trans H; with_reducible exact H2_) | with_reducible exact H | (rw [hy239]; exact H) | exact H
          have Ny239 := Aside0.mk hy239
          clear hy239
          simp only [Option.some.injEq, Prod.mk.injEq] at H
          obtain ⟨rfl, rfl⟩ := H
          go_wp2_with (first | ((with_reducible refine gate_callee (f := 63) rfl ?_); refine goesL_ (some 64) rfl rfl Try.func63 (by kernel_rfl) rfl #[.pointer (some ⟨g, 0, none⟩), .int .i64 a1] rfl mpq ?_; (with_reducible refine (spec_l20Rd_odd.calls k2 g s0_0 x1001_2 a1 true t232 w0 _ ?side1 ?side2 A45.out).mono ?_); (case side1 => exact IsS73.q HI0.out); (case side2 => exact hbqs HB.out (IsS73.ge HI0.out)); rintro e w56 ⟨rfl, hi, hb, hk⟩; refine ⟨_, rfl, ?_⟩; have n0_ := Aside0.mk (Kd.R_mono (Kd.R_keep (IsS73.apart (show IsS73 w0 _ g s0_0 x1001_2 from IsS73.q HI0.out) (roq HO_6.out) (by decide)) hk (fun _ h => h.2)) (fun _ h => h.1)); have n1_ := Aside0.mk (KeepBut.trans (hkq HK.out) hk (.inl rfl)); have n2_ := Aside0.mk (hb); have n3_ := Aside0.mk (hi); clear HO_6 HK HB HI0; revert n0_ n1_ n2_ n3_; intro HO_6 HK HB HI0; (try clear hb); (try clear hb2); (try clear hk); (try clear hi)) | ((with_reducible refine gate_callee (f := 62) rfl ?_); refine goesL_ (some 66) rfl rfl Try.func62 (by kernel_rfl) rfl #[.pointer (some ⟨g, 0, none⟩), .int .i64 3] rfl mpq ?_; (with_reducible refine (spec_l20Rd_pick.calls k2 g s0_0 t232 3 t233 t234 w0 _ ?side1 ?side2 A47.out).mono ?_); (case side1 => exact IsS73.q HI0.out); (case side2 => exact hbqs HB.out (IsS73.ge HI0.out)); rintro e w57 ⟨rfl, hi, hb, hk⟩; refine ⟨_, rfl, ?_⟩; have n0_ := Aside0.mk (Kd.R_mono (Kd.R_keep (IsS73.apart (show IsS73 w0 _ g s0_0 t232 from IsS73.q HI0.out) (roq HO_6.out) (by decide)) hk (fun _ h => h.2)) (fun _ h => h.1)); have n1_ := Aside0.mk (KeepBut.trans (hkq HK.out) hk (.inl rfl)); have n2_ := Aside0.mk (hb); have n3_ := Aside0.mk (hi); clear HO_6 HK HB HI0; revert n0_ n1_ n2_ n3_; intro HO_6 HK HB HI0; (try clear hb); (try clear hb2); (try clear hk); (try clear hi); obtain ⟨Ao58, co58, eo58⟩ := Kd.R_slice HO_6.out; subst eo58; have p238 : 0 ≤ (0 : Int) := (by omega); have q238 : 0 < (x6_2.length : Int) := od; obtain ⟨ad238, e238, hx238_0⟩ := Kd.at_int (Kd.R_reads' HO_6.out).2.2 0 p238 q238; cases e238; have qi238 : (0 < x6_2.length) = True := eq_true (by omega); (try rw [show ((0 : Int)).toNat = 0 from rfl] at hx238_0); (try rw [Addr.add_zero'] at hx238_0); replace p238 := eq_true p238; replace q238 := eq_true q238; have p55 : 0 ≤ (0 : Int) := (by omega); have q55 : (0 : Int) < ((x6_2.length : Int) : Int) := od; have qi55 : (0 < x6_2.length) = True := eq_true (by omega); obtain ⟨go55, co55, eo55, gb55, gl55, cl55, HG55⟩ := Kd.R_form HO_6.out (by omega); (first | cases eo55 | (injection eo55 with ea_ en_ ec_; (first | subst ea_ | (injection ea_ with ea_; subst ea_)); subst ec_; clear en_)); have GB55 := Aside0.mk gb55; have GG55 := Aside0.mk HG55; clear gb55 gl55 HG55; (first | simp only [add_plain] at hx238_0 | skip); obtain ⟨hx55_0, hf55_0⟩ := Kd.R_celln 0 HO_6.out (0 : Int) p55 q55; (try rw [show ((0 : Int)).toNat = 0 from rfl] at hx55_0); (try simp only [Nat.reduceMul, Nat.zero_mul, Nat.zero_add, Nat.reduceAdd] at hx55_0); (try rw [show ((0 : Int)).toNat = 0 from rfl] at hf55_0); (try simp only [Nat.reduceMul, Nat.zero_mul, Nat.zero_add, Nat.reduceAdd] at hf55_0); replace p55 := eq_true p55; replace q55 := eq_true q55; obtain ⟨hy59_, hz59_⟩ := Kd.R_celln 0 HO_6.out (0 : Int) (by omega) (od); (try simp only [Int.reduceToNat, Int.toNat_zero, Int.toNat_ofNat, Nat.reduceMul, Nat.zero_mul, Nat.zero_add] at hy59_ hz59_); (try rw [show ((0 : Int)).toNat = 0 from rfl] at hy59_); (try rw [show ((0 : Int)).toNat = 0 from rfl] at hz59_); have HP59 := Kd.R_putg HO_6.out (0 : Int) (Go.bits .or .i64 (rd x6_2 0) 1)) | ((with_reducible refine gate_store (t := 3) (p := 90) rfl ?_); refine store_event (t := 3) (p := 90) (v := ?vo_w60) (w1 := (w57.setCell ⟨go55, (0 : Int).toNat, none⟩ (.int .i64 (Go.bits .or .i64 (rd x6_2 0) 1)))) ?hg ?ho ?hn ?hr ?_; (case ho => rfl); (case hg => rfl); (case hn => rfl); (case hr => first | (go_simp; done) | (go_simp; rfl)); intro w60 hw; have hg : w57.grownBy w60 (some go55) := (by rw [hw]; exact HP59.2); have hp_ : Kd.R (Kd.int .i64) 3 w60 w.heap.size (fun _ => True) (.slice (some ⟨go55, 0, none⟩) x6_2.length co58) y239 := (by rw [hw, Ny239.out]; exact HP59.1); clear HP59; have n0_ := Aside0.mk (hp_); have n1_ := Aside0.mk (IsS73.grown (IsS73.q HI0.out) hg (IsS73.own_ne HI0.out HO_6.out (by decide))); have n2_ := Aside0.mk ((by rw [hw]; exact below_set (HB.out) (Nat.le_trans HL.out GB55.out) : Below w0.heap.size w0 w60)); have n3_ := Aside0.mk (KeepBut.trans (hkq HK.out) (KeepBut.of_grown hg g) (Kd.R_base2 HO_6.out)); clear HO_6 HI0 HB HK; revert n0_ n1_ n2_ n3_; intro HO_6 HI0 HB HK; clear hg hw hp_))
          go_ret
          exact ⟨_, by first | rfl | (simp [errW_none, errW_some] <;> rfl) | (simp [*, errW_none, errW_some] <;> rfl), by refine roq ?_; exact HO_6.out, IsS73.q HI0.out, hbqs HB.out (IsS73.ge HI0.out), hkq HK.out⟩
         ·rw [if_neg c54] at H
          exact absurd H (by simp)
        ·rw [if_neg c53] at H
         have c53b0 : (t233 == 1) = false := beq_eq_false_iff_ne.mpr c53
         have c53b1 : (t233 != 1) = true := bne_iff_ne.mpr c53
         by_cases c61 : 0 < (x6_2.length : Int)
         ·rw [if_pos c61] at H
          have c61b0 : decide (0 < (x6_2.length : Int)) = true := decide_eq_true c61
          have c61b1 : decide (0 < x6_2.length) = true := decide_eq_true (by omega)
          clear c61
          obtain ⟨ji62, hji62⟩ : ∃ j_ : Int, (wrap64 ((wrap64 (1 + t208)) - 1)) = j_ := ⟨_, rfl⟩
          replace H : (if 0 ≤ (ji62) then ((some (x6_2.set (0 : Int).toNat (Go.bits .xor .i64 (rd x6_2 0) (shl .i64 1 (ji62))) : List Int)).bind fun y241 => (if (wrap64 (1 + t208)) = 1 then (some ((y241.set (0 : Int).toNat (-1)), t234)) else (some (y241, t234)))) else (none)) = some (r1, r2) := by first | (rw [hji62] at H; exact H) | (simp only [hji62] at H ⊢; exact H)
          (try rw [hji62] at A45)
          (try rw [hji62] at A47)
          have hji62w : (IntKind.i64.wrap ((wrap64 (1 + t208)) - 1)) = ji62 := (i64_w _).trans hji62
          (try rw [hji62])
          by_cases c63 : 0 ≤ (ji62)
          ·rw [if_pos c63] at H
           have c63b0 := eq_true c63
           have c63b1 : decide (0 ≤ (ji62)) = true := decide_eq_true c63
           clear c63
           obtain ⟨ji64, hji64⟩ : ∃ j_ : Int, (shl .i64 1 (ji62)) = j_ := ⟨_, rfl⟩
           replace H : ((some (x6_2.set (0 : Int).toNat (Go.bits .xor .i64 (rd x6_2 0) (ji64)) : List Int)).bind fun y241 => (if (wrap64 (1 + t208)) = 1 then (some ((y241.set (0 : Int).toNat (-1)), t234)) else (some (y241, t234)))) = some (r1, r2) := by first | (rw [hji64] at H; exact H) | (simp only [hji64] at H ⊢; exact H)
           (try rw [hji64] at A45)
           (try rw [hji64] at A47)
           have hji64_ : (IntKind.i64.wrap (1 * 2 ^ min (ji62).toNat 64)) = ji64 := hji64
           have hji64z : (ji62) ≤ 64 → (IntKind.i64.wrap (1 * 2 ^ (ji62).toNat)) = ji64 := shl_small hji64
           have hji64u : (IntKind.i64.wrap (2 ^ min (ji62).toNat 64)) = ji64 := by have h_ := hji64_; rw [Int.one_mul] at h_; exact h_
           have hji64v : (ji62) ≤ 64 → (IntKind.i64.wrap (2 ^ (ji62).toNat)) = ji64 := fun hle_ => by have h_ := hji64z hle_; rw [Int.one_mul] at h_; exact h_
           have hji64y : (wrap64 (1 * 2 ^ min (ji62).toNat 64)) = ji64 := (i64_w _).symm.trans hji64_
           have hji64x : (ji62) ≤ 64 → (wrap64 (1 * 2 ^ (ji62).toNat)) = ji64 := fun h_ => (i64_w _).symm.trans (hji64z h_)
           obtain ⟨y241, hy241⟩ : ∃ y_ : List Int, y_ = (x6_2.set (0 : Int).toNat (Go.bits .xor .i64 (rd x6_2 0) (ji64))) := ⟨_, rfl⟩
           replace H : (if (wrap64 (1 + t208)) = 1 then (some ((y241.set (0 : Int).toNat (-1)), t234)) else (some (y241, t234))) = some (r1, r2) := by first | (rw [hy241]; with_reducible exact H) | (have H2_ := (Option.bind_some _ _).symm.trans H; rw [hy241]; with_reducible exact H2_) | (have H2_ := (Option.bind_some _ _).symm.trans H; with_reducible exact H2_) | with_reducible exact H | (rw [hy241]; exact H) | exact H
           have Ny241 := Aside0.mk hy241
           clear hy241
           by_cases c66 : (wrap64 (1 + t208)) = 1
           ·rw [if_pos c66] at H
            have c66b0 : ((wrap64 (1 + t208)) == 1) = true := beq_iff_eq.mpr c66
            have c66b1 : ((wrap64 (1 + t208)) != 1) = false := bne_eq_false_iff_eq.mpr c66
            clear c66
            obtain ⟨y242, hy242⟩ : ∃ y_ : List Int, y_ = (y241.set (0 : Int).toNat (-1)) := ⟨_, rfl⟩
            replace H : (some (y242, t234)) = some (r1, r2) := by first | (rw [hy242]; with_reducible exact H) | (have H2_ := (Option.bind_some _ _).symm.trans H; rw [hy242]; with_reducible exact H2_) | (have H2_ := (Option.bind_some _ _).symm.trans H; with_reducible exact H2_) | with_reducible exact H | (rw [hy242]; exact H) | exact H
            have Ny242 := Aside0.mk hy242
            clear hy242
            simp only [Option.some.injEq, Prod.mk.injEq] at H
            obtain ⟨rfl, rfl⟩ := H
            try go_wp2_with (first | ((with_reducible refine gate_callee (f := 63) rfl ?_); refine goesL_ (some 64) rfl rfl Try.func63 (by kernel_rfl) rfl #[.pointer (some ⟨g, 0, none⟩), .int .i64 a1] rfl mpq ?_; (with_reducible refine (spec_l20Rd_odd.calls k2 g s0_0 x1001_2 a1 true t232 w0 _ ?side1 ?side2 A45.out).mono ?_); (case side1 => exact IsS73.q HI0.out); (case side2 => exact hbqs HB.out (IsS73.ge HI0.out)); rintro e w68 ⟨rfl, hi, hb, hk⟩; refine ⟨_, rfl, ?_⟩; have n0_ := Aside0.mk (Kd.R_mono (Kd.R_keep (IsS73.apart (show IsS73 w0 _ g s0_0 x1001_2 from IsS73.q HI0.out) (roq HO_6.out) (by decide)) hk (fun _ h => h.2)) (fun _ h => h.1)); have n1_ := Aside0.mk (KeepBut.trans (hkq HK.out) hk (.inl rfl)); have n2_ := Aside0.mk (hb); have n3_ := Aside0.mk (hi); clear HO_6 HK HB HI0; revert n0_ n1_ n2_ n3_; intro HO_6 HK HB HI0; (try clear hb); (try clear hb2); (try clear hk); (try clear hi)) | ((with_reducible refine gate_callee (f := 62) rfl ?_); refine goesL_ (some 66) rfl rfl Try.func62 (by kernel_rfl) rfl #[.pointer (some ⟨g, 0, none⟩), .int .i64 3] rfl mpq ?_; (with_reducible refine (spec_l20Rd_pick.calls k2 g s0_0 t232 3 t233 t234 w0 _ ?side1 ?side2 A47.out).mono ?_); (case side1 => exact IsS73.q HI0.out); (case side2 => exact hbqs HB.out (IsS73.ge HI0.out)); rintro e w69 ⟨rfl, hi, hb, hk⟩; refine ⟨_, rfl, ?_⟩; have n0_ := Aside0.mk (Kd.R_mono (Kd.R_keep (IsS73.apart (show IsS73 w0 _ g s0_0 t232 from IsS73.q HI0.out) (roq HO_6.out) (by decide)) hk (fun _ h => h.2)) (fun _ h => h.1)); have n1_ := Aside0.mk (KeepBut.trans (hkq HK.out) hk (.inl rfl)); have n2_ := Aside0.mk (hb); have n3_ := Aside0.mk (hi); clear HO_6 HK HB HI0; revert n0_ n1_ n2_ n3_; intro HO_6 HK HB HI0; (try clear hb); (try clear hb2); (try clear hk); (try clear hi)))
            have n0_ := Aside0.mk (Kd.R_drew HO_6.out)
            have n1_ := Aside0.mk (IsS73.drew HI0.out)
            have n2_ := Aside0.mk (keep_drew HK.out)
            have n3_ := Aside0.mk (below_drew1 HB.out)
            clear HO_6 HI0 HK HB
            revert n0_ n1_ n2_ n3_
            intro HO_6 HI0 HK HB
            obtain ⟨Ao71, co71, eo71⟩ := Kd.R_slice HO_6.out
            (first | subst eo71 | (injection eo71 with f1_ f2_ f3_; have f4_ := f1_.symm; have f5_ := f3_.symm; clear f1_ f2_ f3_; subst f4_; subst f5_))
            have p240 : 0 ≤ (0 : Int) := (by omega)
            have q240 : 0 < (x6_2.length : Int) := od
            obtain ⟨ad240, e240, hx240_0⟩ := Kd.at_int (Kd.R_reads' HO_6.out).2.2 0 p240 q240
            cases e240
            have qi240 : (0 < x6_2.length) = True := eq_true (by omega)
            (try rw [show ((0 : Int)).toNat = 0 from rfl] at hx240_0)
            (try rw [Addr.add_zero'] at hx240_0)
            replace p240 := eq_true p240
            replace q240 := eq_true q240
            have p65 : 0 ≤ (0 : Int) := (by omega)
            have q65 : (0 : Int) < ((x6_2.length : Int) : Int) := od
            have qi65 : (0 < x6_2.length) = True := eq_true (by omega)
            obtain ⟨go65, co65, eo65, gb65, gl65, cl65, HG65⟩ := Kd.R_form HO_6.out (by omega)
            (first | cases eo65 | (injection eo65 with ea_ en_ ec_; (first | subst ea_ | (injection ea_ with ea_; subst ea_)); subst ec_; clear en_))
            have GB65 := Aside0.mk gb65
            have GG65 := Aside0.mk HG65
            clear gb65 gl65 HG65
            (first | simp only [add_plain] at hx240_0 | skip)
            obtain ⟨hx65_0, hf65_0⟩ := Kd.R_celln 0 HO_6.out (0 : Int) p65 q65
            (try rw [show ((0 : Int)).toNat = 0 from rfl] at hx65_0)
            (try simp only [Nat.reduceMul, Nat.zero_mul, Nat.zero_add, Nat.reduceAdd] at hx65_0)
            (try rw [show ((0 : Int)).toNat = 0 from rfl] at hf65_0)
            (try simp only [Nat.reduceMul, Nat.zero_mul, Nat.zero_add, Nat.reduceAdd] at hf65_0)
            replace p65 := eq_true p65
            replace q65 := eq_true q65
            have HN0_go65 := Aside0.mk (show g ≠ go65 from by have h_ := IsS73.own_ne HI0.out HO_6.out (by decide); intro e_; exact h_ (by rw [e_]; rfl))
            have HP72 := Kd.R_putn HO_6.out (0 : Int) (Go.bits .xor .i64 (rd x6_2 0) (ji64))
            rw [← Ny241.out] at HP72
            have HQ72 := Aside0.mk HP72
            clear HP72
            refine start_ (n := 10) (S := fun w' => w'.cell? ⟨go65, 0, none⟩ = some (.int .i64 (rd x6_2 0))) (ds := [9]) #[false, false, false, false, false, false, false, false, false, false] (by kernel_rfl) rfl rfl (hx240_0) (fun hHeld => ?_); refine with_tabW spec_l20Net.tab19 spec_l20Net.bits19 (fun HT_ HW_ => ?_)
            generalize w69.drew = w70 at HO_6 HI0 HK HB GG65 HQ72 hf65_0 hx240_0 hx65_0 hHeld ⊢
            refine pureq (i := 0) (N := some 67) #[true, false, false, false, false, false, false, false, false, false] rfl rfl HT_.out ?_
            refine pureq (i := 1) (N := some 68) #[true, true, false, false, false, false, false, false, false, false] rfl rfl HT_.out ?_
            refine pureq (i := 2) (N := some 69) #[true, true, true, false, false, false, false, false, false, false] rfl rfl HT_.out ?_
            refine pureq (i := 4) (N := some 71) #[true, true, true, false, true, false, false, false, false, false] rfl rfl HT_.out ?_
            refine pureq (i := 5) (N := some 72) #[true, true, true, false, true, true, false, false, false, false] rfl rfl HT_.out ?_
            refine pureq (i := 6) (N := some 73) #[true, true, true, false, true, true, true, false, false, false] rfl rfl HT_.out ?_
            refine take_ (i := 3) (N := some 70) (v := ?_) (a' := ?_) #[true, true, true, true, true, true, true, false, false, false] rfl rfl (take_ofW HT_.out HW_.out (by kernel_rfl)) (fun _ _ _ h => h) (Or.inl ⟨by rfl, ?_⟩) hHeld ?_ ?_
            rotate_left
            ·intro w' s0
             go_simp
             with_reducible rfl
            rotate_left
            ·simp only [Act.put, List.setIfInBounds_toArray, List.set_cons_zero, List.set_cons_succ, i64_w, i32_w]
             rfl
            refine pureq (i := 7) (N := some 74) #[true, true, true, true, true, true, true, true, false, false] rfl rfl HT_.out ?_
            refine pureq (i := 8) (N := some 75) #[true, true, true, true, true, true, true, true, true, false] rfl rfl HT_.out ?_
            refine last_ (i := 9) (N := none) #[true, true, true, true, true, true, true, true, true, true] rfl rfl (one_of HT_.out (by kernel_rfl)) (by decide) (fun K hK => ?_)
            refine skip_ (w1 := ?_) (by rfl) rfl ?_ ?_
            rotate_left
            ·go_simp
             rfl
            refine hK.out _ _ ?_
            clear hK K
            refine done_ (done_of HT_.out (by kernel_rfl)) ?_
            have n0_ : Aside0 (Kd.R (Kd.int .i64) 3 (w70.setCell ⟨go65, 0, none⟩ (.int .i64 (Go.bits .xor .i64 (rd x6_2 0) (ji64)))) w.heap.size (fun _ => True) (.slice (some ⟨go65, 0, none⟩) x6_2.length co71) y241) := ⟨by refine roq ?_; exact HQ72.out⟩
            have n1_ : Aside0 (IsS73 w0 (w70.setCell ⟨go65, 0, none⟩ (.int .i64 (Go.bits .xor .i64 (rd x6_2 0) (ji64)))) g s0_0 t234) := ⟨by repeat (first | (with_reducible first | exact HI0.out | apply IsS73.alloc | apply IsS73.drewN | apply IsS73.drew | apply IsS73.set_1 | refine IsS73.far ?_ HN0_go65.out _) | exact HI0.out)⟩
            have n2_ : Aside0 (KeepBut w (w70.setCell ⟨go65, 0, none⟩ (.int .i64 (Go.bits .xor .i64 (rd x6_2 0) (ji64)))) g none) := ⟨by repeat (first | (with_reducible first | exact HK.out | apply KeepBut.set_ | apply keep_drewN | apply keep_drew | apply keep_alloc | refine keep_far ?_ GB65.out _) | exact HK.out)⟩
            have n3_ : Aside0 (Below w0.heap.size w0 (w70.setCell ⟨go65, 0, none⟩ (.int .i64 (Go.bits .xor .i64 (rd x6_2 0) (ji64))))) := ⟨by repeat (first | (with_reducible first | exact HB.out | apply below_alloc | apply pw_below_drewN | apply below_drew1 | refine below_set ?_ (Nat.le_trans HL.out GB65.out) | refine below_set ?_ (IsS73.ge HI0.out)) | exact HB.out)⟩
            (try clear HO_6)
            (try clear HI0)
            (try clear HK)
            (try clear HB)
            generalize (w70.setCell ⟨go65, 0, none⟩ (.int .i64 (Go.bits .xor .i64 (rd x6_2 0) (ji64)))) = w73 at n0_ n1_ n2_ n3_ ⊢
            have HO_6 := n0_
            have HI0 := n1_
            have HK := n2_
            have HB := n3_
            clear n0_ n1_ n2_ n3_
            have p67 : 0 ≤ (0 : Int) := (by omega)
            have q67 : (0 : Int) < ((x6_2.length : Int) : Int) := od
            replace p67 := eq_true p67
            replace q67 := eq_true q67
            obtain ⟨hy74_, hz74_⟩ := Kd.R_celln 0 HO_6.out (0 : Int) (by omega) (od)
            (try simp only [Int.reduceToNat, Int.toNat_zero, Int.toNat_ofNat, Nat.reduceMul, Nat.zero_mul, Nat.zero_add] at hy74_ hz74_)
            (try rw [show ((0 : Int)).toNat = 0 from rfl] at hy74_)
            (try rw [show ((0 : Int)).toNat = 0 from rfl] at hz74_)
            have HP74 := Kd.R_putg HO_6.out (0 : Int) (-1)
            try go_wp2_with (first | ((with_reducible refine gate_store (t := 3) (p := 79) rfl ?_); refine store_event (t := 3) (p := 79) (v := ?vo_w75) (w1 := (w73.setCell ⟨go65, (0 : Int).toNat, none⟩ (.int .i64 (-1)))) ?hg ?ho ?hn ?hr ?_; (case ho => rfl); (case hg => rfl); (case hn => rfl); (case hr => first | (go_simp; done) | (go_simp; rfl)); intro w75 hw; have hg : w73.grownBy w75 (some go65) := (by rw [hw]; exact HP74.2); have hp_ : Kd.R (Kd.int .i64) 3 w75 w.heap.size (fun _ => True) (.slice (some ⟨go65, 0, none⟩) x6_2.length co71) y242 := (by rw [hw, Ny242.out]; exact HP74.1); clear HP74; have n0_ := Aside0.mk (hp_); have n1_ := Aside0.mk (IsS73.grown (IsS73.q HI0.out) hg (IsS73.own_ne HI0.out HO_6.out (by decide))); have n2_ := Aside0.mk ((by rw [hw]; exact below_set (HB.out) (Nat.le_trans HL.out GB65.out) : Below w0.heap.size w0 w75)); have n3_ := Aside0.mk (KeepBut.trans (hkq HK.out) (KeepBut.of_grown hg g) (Kd.R_base2 HO_6.out)); clear HO_6 HI0 HB HK; revert n0_ n1_ n2_ n3_; intro HO_6 HI0 HB HK; clear hg hw hp_))
            go_ret
            exact ⟨_, by first | rfl | (simp [errW_none, errW_some] <;> rfl) | (simp only [← hji62, ← hji64]; first | rfl | (simp [errW_none, errW_some] <;> rfl)) | (simp [*, errW_none, errW_some] <;> rfl), by refine roq ?_; exact HO_6.out, IsS73.q HI0.out, hbqs HB.out (IsS73.ge HI0.out), hkq HK.out⟩
           ·rw [if_neg c66] at H
            have c66b0 : ((wrap64 (1 + t208)) == 1) = false := beq_eq_false_iff_ne.mpr c66
            have c66b1 : ((wrap64 (1 + t208)) != 1) = true := bne_iff_ne.mpr c66
            simp only [Option.some.injEq, Prod.mk.injEq] at H
            obtain ⟨rfl, rfl⟩ := H
            try go_wp2_with (first | ((with_reducible refine gate_callee (f := 63) rfl ?_); refine goesL_ (some 64) rfl rfl Try.func63 (by kernel_rfl) rfl #[.pointer (some ⟨g, 0, none⟩), .int .i64 a1] rfl mpq ?_; (with_reducible refine (spec_l20Rd_odd.calls k2 g s0_0 x1001_2 a1 true t232 w0 _ ?side1 ?side2 A45.out).mono ?_); (case side1 => exact IsS73.q HI0.out); (case side2 => exact hbqs HB.out (IsS73.ge HI0.out)); rintro e w76 ⟨rfl, hi, hb, hk⟩; refine ⟨_, rfl, ?_⟩; have n0_ := Aside0.mk (Kd.R_mono (Kd.R_keep (IsS73.apart (show IsS73 w0 _ g s0_0 x1001_2 from IsS73.q HI0.out) (roq HO_6.out) (by decide)) hk (fun _ h => h.2)) (fun _ h => h.1)); have n1_ := Aside0.mk (KeepBut.trans (hkq HK.out) hk (.inl rfl)); have n2_ := Aside0.mk (hb); have n3_ := Aside0.mk (hi); clear HO_6 HK HB HI0; revert n0_ n1_ n2_ n3_; intro HO_6 HK HB HI0; (try clear hb); (try clear hb2); (try clear hk); (try clear hi)) | ((with_reducible refine gate_callee (f := 62) rfl ?_); refine goesL_ (some 66) rfl rfl Try.func62 (by kernel_rfl) rfl #[.pointer (some ⟨g, 0, none⟩), .int .i64 3] rfl mpq ?_; (with_reducible refine (spec_l20Rd_pick.calls k2 g s0_0 t232 3 t233 t234 w0 _ ?side1 ?side2 A47.out).mono ?_); (case side1 => exact IsS73.q HI0.out); (case side2 => exact hbqs HB.out (IsS73.ge HI0.out)); rintro e w77 ⟨rfl, hi, hb, hk⟩; refine ⟨_, rfl, ?_⟩; have n0_ := Aside0.mk (Kd.R_mono (Kd.R_keep (IsS73.apart (show IsS73 w0 _ g s0_0 t232 from IsS73.q HI0.out) (roq HO_6.out) (by decide)) hk (fun _ h => h.2)) (fun _ h => h.1)); have n1_ := Aside0.mk (KeepBut.trans (hkq HK.out) hk (.inl rfl)); have n2_ := Aside0.mk (hb); have n3_ := Aside0.mk (hi); clear HO_6 HK HB HI0; revert n0_ n1_ n2_ n3_; intro HO_6 HK HB HI0; (try clear hb); (try clear hb2); (try clear hk); (try clear hi)))
            have n0_ := Aside0.mk (Kd.R_drew HO_6.out)
            have n1_ := Aside0.mk (IsS73.drew HI0.out)
            have n2_ := Aside0.mk (keep_drew HK.out)
            have n3_ := Aside0.mk (below_drew1 HB.out)
            clear HO_6 HI0 HK HB
            revert n0_ n1_ n2_ n3_
            intro HO_6 HI0 HK HB
            obtain ⟨Ao79, co79, eo79⟩ := Kd.R_slice HO_6.out
            (first | subst eo79 | (injection eo79 with f1_ f2_ f3_; have f4_ := f1_.symm; have f5_ := f3_.symm; clear f1_ f2_ f3_; subst f4_; subst f5_))
            have p240 : 0 ≤ (0 : Int) := (by omega)
            have q240 : 0 < (x6_2.length : Int) := od
            obtain ⟨ad240, e240, hx240_0⟩ := Kd.at_int (Kd.R_reads' HO_6.out).2.2 0 p240 q240
            cases e240
            have qi240 : (0 < x6_2.length) = True := eq_true (by omega)
            (try rw [show ((0 : Int)).toNat = 0 from rfl] at hx240_0)
            (try rw [Addr.add_zero'] at hx240_0)
            replace p240 := eq_true p240
            replace q240 := eq_true q240
            have p65 : 0 ≤ (0 : Int) := (by omega)
            have q65 : (0 : Int) < ((x6_2.length : Int) : Int) := od
            have qi65 : (0 < x6_2.length) = True := eq_true (by omega)
            obtain ⟨go65, co65, eo65, gb65, gl65, cl65, HG65⟩ := Kd.R_form HO_6.out (by omega)
            (first | cases eo65 | (injection eo65 with ea_ en_ ec_; (first | subst ea_ | (injection ea_ with ea_; subst ea_)); subst ec_; clear en_))
            have GB65 := Aside0.mk gb65
            have GG65 := Aside0.mk HG65
            clear gb65 gl65 HG65
            (first | simp only [add_plain] at hx240_0 | skip)
            obtain ⟨hx65_0, hf65_0⟩ := Kd.R_celln 0 HO_6.out (0 : Int) p65 q65
            (try rw [show ((0 : Int)).toNat = 0 from rfl] at hx65_0)
            (try simp only [Nat.reduceMul, Nat.zero_mul, Nat.zero_add, Nat.reduceAdd] at hx65_0)
            (try rw [show ((0 : Int)).toNat = 0 from rfl] at hf65_0)
            (try simp only [Nat.reduceMul, Nat.zero_mul, Nat.zero_add, Nat.reduceAdd] at hf65_0)
            replace p65 := eq_true p65
            replace q65 := eq_true q65
            have HN0_go65 := Aside0.mk (show g ≠ go65 from by have h_ := IsS73.own_ne HI0.out HO_6.out (by decide); intro e_; exact h_ (by rw [e_]; rfl))
            have HP80 := Kd.R_putn HO_6.out (0 : Int) (Go.bits .xor .i64 (rd x6_2 0) (ji64))
            rw [← Ny241.out] at HP80
            have HQ80 := Aside0.mk HP80
            clear HP80
            refine start_ (n := 10) (S := fun w' => w'.cell? ⟨go65, 0, none⟩ = some (.int .i64 (rd x6_2 0))) (ds := [9]) #[false, false, false, false, false, false, false, false, false, false] (by kernel_rfl) rfl rfl (hx240_0) (fun hHeld => ?_); refine with_tabW spec_l20Net.tab19 spec_l20Net.bits19 (fun HT_ HW_ => ?_)
            generalize w77.drew = w78 at HO_6 HI0 HK HB GG65 HQ80 hf65_0 hx240_0 hx65_0 hHeld ⊢
            refine pureq (i := 0) (N := some 67) #[true, false, false, false, false, false, false, false, false, false] rfl rfl HT_.out ?_
            refine pureq (i := 1) (N := some 68) #[true, true, false, false, false, false, false, false, false, false] rfl rfl HT_.out ?_
            refine pureq (i := 2) (N := some 69) #[true, true, true, false, false, false, false, false, false, false] rfl rfl HT_.out ?_
            refine pureq (i := 4) (N := some 71) #[true, true, true, false, true, false, false, false, false, false] rfl rfl HT_.out ?_
            refine pureq (i := 5) (N := some 72) #[true, true, true, false, true, true, false, false, false, false] rfl rfl HT_.out ?_
            refine pureq (i := 6) (N := some 73) #[true, true, true, false, true, true, true, false, false, false] rfl rfl HT_.out ?_
            refine take_ (i := 3) (N := some 70) (v := ?_) (a' := ?_) #[true, true, true, true, true, true, true, false, false, false] rfl rfl (take_ofW HT_.out HW_.out (by kernel_rfl)) (fun _ _ _ h => h) (Or.inl ⟨by rfl, ?_⟩) hHeld ?_ ?_
            rotate_left
            ·intro w' s0
             go_simp
             with_reducible rfl
            rotate_left
            ·simp only [Act.put, List.setIfInBounds_toArray, List.set_cons_zero, List.set_cons_succ, i64_w, i32_w]
             rfl
            refine pureq (i := 7) (N := some 74) #[true, true, true, true, true, true, true, true, false, false] rfl rfl HT_.out ?_
            refine pureq (i := 8) (N := some 75) #[true, true, true, true, true, true, true, true, true, false] rfl rfl HT_.out ?_
            refine last_ (i := 9) (N := none) #[true, true, true, true, true, true, true, true, true, true] rfl rfl (one_of HT_.out (by kernel_rfl)) (by decide) (fun K hK => ?_)
            refine skip_ (w1 := ?_) (by rfl) rfl ?_ ?_
            rotate_left
            ·go_simp
             rfl
            refine hK.out _ _ ?_
            clear hK K
            refine done_ (done_of HT_.out (by kernel_rfl)) ?_
            try go_wp2
            go_ret
            exact ⟨_, by first | rfl | (simp [errW_none, errW_some] <;> rfl) | (simp only [← hji62, ← hji64]; first | rfl | (simp [errW_none, errW_some] <;> rfl)) | (simp [*, errW_none, errW_some] <;> rfl), by refine roq ?_; exact HQ80.out, by repeat (first | (with_reducible first | exact HI0.out | apply IsS73.alloc | apply IsS73.drewN | apply IsS73.drew | apply IsS73.set_1 | refine IsS73.far ?_ HN0_go65.out _) | exact HI0.out), by repeat (first | (with_reducible first | exact HB.out | apply below_alloc | apply pw_below_drewN | apply below_drew1 | refine below_set ?_ (Nat.le_trans HL.out GB65.out) | refine below_set ?_ (IsS73.ge HI0.out)) | exact HB.out), by repeat (first | (with_reducible first | exact HK.out | apply KeepBut.set_ | apply keep_drewN | apply keep_drew | apply keep_alloc | refine keep_far ?_ GB65.out _) | exact HK.out)⟩
          ·rw [if_neg c63] at H
           exact absurd H (by simp)
         ·rw [if_neg c61] at H
          exact absurd H (by simp)
      ·replace c46 := Bool.eq_false_iff.mpr c46
       subst c46
       have H1 : (some (x6_2, t232)) = some (r1, r2) := by rw [if_neg (show ¬ (false = true) by decide)] at H; exact H
       clear H
       have H := H1
       clear H1
       simp only [Option.some.injEq, Prod.mk.injEq] at H
       obtain ⟨rfl, rfl⟩ := H
       go_wp2_with (first | ((with_reducible refine gate_callee (f := 63) rfl ?_); refine goesL_ (some 64) rfl rfl Try.func63 (by kernel_rfl) rfl #[.pointer (some ⟨g, 0, none⟩), .int .i64 a1] rfl mpq ?_; (with_reducible refine (spec_l20Rd_odd.calls k2 g s0_0 x1001_2 a1 false t232 w0 _ ?side1 ?side2 A45.out).mono ?_); (case side1 => exact IsS73.q HI0.out); (case side2 => exact hbqs HB.out (IsS73.ge HI0.out)); rintro e w81 ⟨rfl, hi, hb, hk⟩; refine ⟨_, rfl, ?_⟩; have n0_ := Aside0.mk (Kd.R_mono (Kd.R_keep (IsS73.apart (show IsS73 w0 _ g s0_0 x1001_2 from IsS73.q HI0.out) (roq HO_6.out) (by decide)) hk (fun _ h => h.2)) (fun _ h => h.1)); have n1_ := Aside0.mk (KeepBut.trans (hkq HK.out) hk (.inl rfl)); have n2_ := Aside0.mk (hb); have n3_ := Aside0.mk (hi); clear HO_6 HK HB HI0; revert n0_ n1_ n2_ n3_; intro HO_6 HK HB HI0; (try clear hb); (try clear hb2); (try clear hk); (try clear hi)))
       go_ret
       exact ⟨_, by first | rfl | (simp [errW_none, errW_some] <;> rfl) | (simp [*, errW_none, errW_some] <;> rfl), by refine roq ?_; exact HO_6.out, IsS73.q HI0.out, hbqs HB.out (IsS73.ge HI0.out), hkq HK.out⟩

/-! ### spec_l20Place: function 66 -/
def spec_l20Place.f (k : Nat) (s0_0 : List Int) (s0_1 : Int) (a1 : Int) : Option (List Int × Int × List Int × Int) := (spec_l20Net.f k s0_0 s0_1 0).bind fun bt244 => ((spec_l20Rd_pick.f k s0_0 bt244.2 3).bind fun bt248 => ((spec_l20Rd_pick.f k s0_0 bt248.2 2).bind fun bt250 => ((spec_l20State.f k s0_0 bt250.2 (bt244.1.length : Int) (wrap64 (3 + (wrap64 (bt248.1 * bt250.1)))) 0).bind fun bt253 => ((spec_l20Rd_odd.f k s0_0 bt253.2 a1).bind fun bt257 => (if bt257.1 = true then ((spec_l20Rd_pick.f k s0_0 bt257.2 3).bind fun bt259 => (if bt259.1 = 0 then (if bt253.1.length < 17592186044416 then (some (bt244.1, wrap64 (3 + (wrap64 (bt248.1 * bt250.1))), (bt253.1 ++ [0]), bt259.2)) else (none)) else (if bt259.1 = 1 then ((some (([2, 6] : List Int) : List Int)).bind fun y264 => ((spec_l20Rd_pick.f k s0_0 bt259.2 2).bind fun bt267 => (if 0 ≤ bt267.1 then (if bt267.1 < (y264.length : Int) then (some (bt244.1, rd y264 bt267.1, bt253.1, bt267.2)) else (none)) else (none)))) else (some (([] : List Int), 0, ([] : List Int), bt259.2))))) else (some (bt244.1, wrap64 (3 + (wrap64 (bt248.1 * bt250.1))), bt253.1, bt257.2)))))))
theorem spec_l20Place.mono : ∀ a0 a1 a2 k, LeO (spec_l20Place.f k a0 a1 a2) (spec_l20Place.f (k + 1) a0 a1 a2) := by
 intro a0 a1 a2 k
 unfold spec_l20Place.f
 repeat' first
   | (with_reducible exact spec_l20Net.mono _ _ _ _)
   | (with_reducible exact spec_l20Rd_odd.mono _ _ _ _)
   | (with_reducible exact spec_l20Rd_pick.mono _ _ _ _)
   | (with_reducible exact spec_l20State.mono _ _ _ _ _ _)
   | (with_reducible exact LeO.refl _)
   | (with_reducible exact LeO.none _)
   | (with_reducible refine LeO.ite ?_ ?_)
   | (with_reducible refine LeO.bind ?_ (fun _ => ?_))
   | exact spec_l20Net.mono _ _ _ _
   | exact spec_l20Rd_odd.mono _ _ _ _
   | exact spec_l20Rd_pick.mono _ _ _ _
   | exact spec_l20State.mono _ _ _ _ _ _
   | exact LeO.none _
   | refine LeO.ite ?_ ?_
   | refine LeO.bind ?_ (fun _ => ?_)
set_option maxHeartbeats 8000000 in
set_option maxRecDepth 100000 in
theorem spec_l20Place.calls (k : Nat) (g : Nat) (s0_0 : List Int) (s0_1 : Int) (a1 : Int) (r1 : List Int) (r2 : Int) (r3 : List Int) (r4 : Int) (w0 w : World) (hI : IsS73 w0 w g s0_0 s0_1) (hB : Below w0.heap.size w0 w) (h : spec_l20Place.f k s0_0 s0_1 a1 = some (r1, r2, r3, r4)) :
  Calls Try.prog 66 #[.pointer (some ⟨g, 0, none⟩), .int .i64 a1] w fun e w' => ∃ v0_ v2_ : Value, e = .returned (.agg #[v0_, .int .i64 r2, v2_]) ∧ Kd.R (Kd.int .i64) 3 w' w.heap.size (fun k_ => some k_ ≠ (v2_ : Value).ownBlock) v0_ r1 ∧ Kd.R (Kd.int .i64) 3 w' w.heap.size (fun k_ => some k_ ≠ (v0_ : Value).ownBlock) v2_ r3 ∧ IsS73 w0 w' g s0_0 r4 ∧ Below w0.heap.size w0 w' ∧ KeepBut w w' g none := by
 have hu26 := Try.underlying26
 have HI0 := Aside0.mk hI
 have HK := Aside0.mk (KeepBut.refl w g none)
 have HL := Aside0.mk hB.size
 clear hI
 have HW0 := Aside0.mk hB.size
 have HB := Aside0.mk hB
 clear hB
 have H : ((spec_l20Net.f k s0_0 s0_1 0).bind fun bt244 => ((spec_l20Rd_pick.f k s0_0 bt244.2 3).bind fun bt248 => ((spec_l20Rd_pick.f k s0_0 bt248.2 2).bind fun bt250 => ((spec_l20State.f k s0_0 bt250.2 (bt244.1.length : Int) (wrap64 (3 + (wrap64 (bt248.1 * bt250.1)))) 0).bind fun bt253 => ((spec_l20Rd_odd.f k s0_0 bt253.2 a1).bind fun bt257 => (if bt257.1 = true then ((spec_l20Rd_pick.f k s0_0 bt257.2 3).bind fun bt259 => (if bt259.1 = 0 then (if bt253.1.length < 17592186044416 then (some (bt244.1, wrap64 (3 + (wrap64 (bt248.1 * bt250.1))), (bt253.1 ++ [0]), bt259.2)) else (none)) else (if bt259.1 = 1 then ((some (([2, 6] : List Int) : List Int)).bind fun y264 => ((spec_l20Rd_pick.f k s0_0 bt259.2 2).bind fun bt267 => (if 0 ≤ bt267.1 then (if bt267.1 < (y264.length : Int) then (some (bt244.1, rd y264 bt267.1, bt253.1, bt267.2)) else (none)) else (none)))) else (some (([] : List Int), 0, ([] : List Int), bt259.2))))) else (some (bt244.1, wrap64 (3 + (wrap64 (bt248.1 * bt250.1))), bt253.1, bt257.2)))))))) = some (r1, r2, r3, r4) := h
 clear h
 replace H := Option.bind_eq_some_iff.mp H
 obtain ⟨⟨t244, t247⟩, A30, H⟩ := H
 replace H : ((spec_l20Rd_pick.f k s0_0 t247 3).bind fun bt248 => ((spec_l20Rd_pick.f k s0_0 bt248.2 2).bind fun bt250 => ((spec_l20State.f k s0_0 bt250.2 (t244.length : Int) (wrap64 (3 + (wrap64 (bt248.1 * bt250.1)))) 0).bind fun bt253 => ((spec_l20Rd_odd.f k s0_0 bt253.2 a1).bind fun bt257 => (if bt257.1 = true then ((spec_l20Rd_pick.f k s0_0 bt257.2 3).bind fun bt259 => (if bt259.1 = 0 then (if bt253.1.length < 17592186044416 then (some (t244, wrap64 (3 + (wrap64 (bt248.1 * bt250.1))), (bt253.1 ++ [0]), bt259.2)) else (none)) else (if bt259.1 = 1 then ((some (([2, 6] : List Int) : List Int)).bind fun y264 => ((spec_l20Rd_pick.f k s0_0 bt259.2 2).bind fun bt267 => (if 0 ≤ bt267.1 then (if bt267.1 < (y264.length : Int) then (some (t244, rd y264 bt267.1, bt253.1, bt267.2)) else (none)) else (none)))) else (some (([] : List Int), 0, ([] : List Int), bt259.2))))) else (some (t244, wrap64 (3 + (wrap64 (bt248.1 * bt250.1))), bt253.1, bt257.2))))))) = some (r1, r2, r3, r4) := H
 have A3 := Aside0.mk A30
 clear A30
 replace H := Option.bind_eq_some_iff.mp H
 obtain ⟨⟨t248, t249⟩, A40, H⟩ := H
 replace H : ((spec_l20Rd_pick.f k s0_0 t249 2).bind fun bt250 => ((spec_l20State.f k s0_0 bt250.2 (t244.length : Int) (wrap64 (3 + (wrap64 (t248 * bt250.1)))) 0).bind fun bt253 => ((spec_l20Rd_odd.f k s0_0 bt253.2 a1).bind fun bt257 => (if bt257.1 = true then ((spec_l20Rd_pick.f k s0_0 bt257.2 3).bind fun bt259 => (if bt259.1 = 0 then (if bt253.1.length < 17592186044416 then (some (t244, wrap64 (3 + (wrap64 (t248 * bt250.1))), (bt253.1 ++ [0]), bt259.2)) else (none)) else (if bt259.1 = 1 then ((some (([2, 6] : List Int) : List Int)).bind fun y264 => ((spec_l20Rd_pick.f k s0_0 bt259.2 2).bind fun bt267 => (if 0 ≤ bt267.1 then (if bt267.1 < (y264.length : Int) then (some (t244, rd y264 bt267.1, bt253.1, bt267.2)) else (none)) else (none)))) else (some (([] : List Int), 0, ([] : List Int), bt259.2))))) else (some (t244, wrap64 (3 + (wrap64 (t248 * bt250.1))), bt253.1, bt257.2)))))) = some (r1, r2, r3, r4) := H
 have A4 := Aside0.mk A40
 clear A40
 replace H := Option.bind_eq_some_iff.mp H
 obtain ⟨⟨t250, t251⟩, A50, H⟩ := H
 replace H : ((spec_l20State.f k s0_0 t251 (t244.length : Int) (wrap64 (3 + (wrap64 (t248 * t250)))) 0).bind fun bt253 => ((spec_l20Rd_odd.f k s0_0 bt253.2 a1).bind fun bt257 => (if bt257.1 = true then ((spec_l20Rd_pick.f k s0_0 bt257.2 3).bind fun bt259 => (if bt259.1 = 0 then (if bt253.1.length < 17592186044416 then (some (t244, wrap64 (3 + (wrap64 (t248 * t250))), (bt253.1 ++ [0]), bt259.2)) else (none)) else (if bt259.1 = 1 then ((some (([2, 6] : List Int) : List Int)).bind fun y264 => ((spec_l20Rd_pick.f k s0_0 bt259.2 2).bind fun bt267 => (if 0 ≤ bt267.1 then (if bt267.1 < (y264.length : Int) then (some (t244, rd y264 bt267.1, bt253.1, bt267.2)) else (none)) else (none)))) else (some (([] : List Int), 0, ([] : List Int), bt259.2))))) else (some (t244, wrap64 (3 + (wrap64 (t248 * t250))), bt253.1, bt257.2))))) = some (r1, r2, r3, r4) := H
 have A5 := Aside0.mk A50
 clear A50
 replace H := Option.bind_eq_some_iff.mp H
 obtain ⟨⟨t253, t256⟩, A60, H⟩ := H
 replace H : ((spec_l20Rd_odd.f k s0_0 t256 a1).bind fun bt257 => (if bt257.1 = true then ((spec_l20Rd_pick.f k s0_0 bt257.2 3).bind fun bt259 => (if bt259.1 = 0 then (if t253.length < 17592186044416 then (some (t244, wrap64 (3 + (wrap64 (t248 * t250))), (t253 ++ [0]), bt259.2)) else (none)) else (if bt259.1 = 1 then ((some (([2, 6] : List Int) : List Int)).bind fun y264 => ((spec_l20Rd_pick.f k s0_0 bt259.2 2).bind fun bt267 => (if 0 ≤ bt267.1 then (if bt267.1 < (y264.length : Int) then (some (t244, rd y264 bt267.1, t253, bt267.2)) else (none)) else (none)))) else (some (([] : List Int), 0, ([] : List Int), bt259.2))))) else (some (t244, wrap64 (3 + (wrap64 (t248 * t250))), t253, bt257.2)))) = some (r1, r2, r3, r4) := H
 have A6 := Aside0.mk A60
 clear A60
 replace H := Option.bind_eq_some_iff.mp H
 obtain ⟨⟨t257, t258⟩, A70, H⟩ := H
 replace H : (if t257 = true then ((spec_l20Rd_pick.f k s0_0 t258 3).bind fun bt259 => (if bt259.1 = 0 then (if t253.length < 17592186044416 then (some (t244, wrap64 (3 + (wrap64 (t248 * t250))), (t253 ++ [0]), bt259.2)) else (none)) else (if bt259.1 = 1 then ((some (([2, 6] : List Int) : List Int)).bind fun y264 => ((spec_l20Rd_pick.f k s0_0 bt259.2 2).bind fun bt267 => (if 0 ≤ bt267.1 then (if bt267.1 < (y264.length : Int) then (some (t244, rd y264 bt267.1, t253, bt267.2)) else (none)) else (none)))) else (some (([] : List Int), 0, ([] : List Int), bt259.2))))) else (some (t244, wrap64 (3 + (wrap64 (t248 * t250))), t253, t258))) = some (r1, r2, r3, r4) := H
 have A7 := Aside0.mk A70
 clear A70
 by_cases c8 : t257 = true
 ·subst c8
  have H1 : ((spec_l20Rd_pick.f k s0_0 t258 3).bind fun bt259 => (if bt259.1 = 0 then (if t253.length < 17592186044416 then (some (t244, wrap64 (3 + (wrap64 (t248 * t250))), (t253 ++ [0]), bt259.2)) else (none)) else (if bt259.1 = 1 then ((some (([2, 6] : List Int) : List Int)).bind fun y264 => ((spec_l20Rd_pick.f k s0_0 bt259.2 2).bind fun bt267 => (if 0 ≤ bt267.1 then (if bt267.1 < (y264.length : Int) then (some (t244, rd y264 bt267.1, t253, bt267.2)) else (none)) else (none)))) else (some (([] : List Int), 0, ([] : List Int), bt259.2))))) = some (r1, r2, r3, r4) := by rw [if_pos rfl] at H; exact H
  clear H
  have H := H1
  clear H1
  replace H := Option.bind_eq_some_iff.mp H
  obtain ⟨⟨t259, t260⟩, A90, H⟩ := H
  replace H : (if t259 = 0 then (if t253.length < 17592186044416 then (some (t244, wrap64 (3 + (wrap64 (t248 * t250))), (t253 ++ [0]), t260)) else (none)) else (if t259 = 1 then ((some (([2, 6] : List Int) : List Int)).bind fun y264 => ((spec_l20Rd_pick.f k s0_0 t260 2).bind fun bt267 => (if 0 ≤ bt267.1 then (if bt267.1 < (y264.length : Int) then (some (t244, rd y264 bt267.1, t253, bt267.2)) else (none)) else (none)))) else (some (([] : List Int), 0, ([] : List Int), t260)))) = some (r1, r2, r3, r4) := H
  have A9 := Aside0.mk A90
  clear A90
  by_cases c10 : t259 = 0
  ·rw [if_pos c10] at H
   have c10b0 : (t259 == 0) = true := beq_iff_eq.mpr c10
   have c10b1 : (t259 != 0) = false := bne_eq_false_iff_eq.mpr c10
   clear c10
   by_cases c11 : t253.length < 17592186044416
   ·rw [if_pos c11] at H
    have LMc11 := Aside0.mk c11
    clear c11
    obtain ⟨y261, hy261⟩ : ∃ y_ : List Int, y_ = (t253 ++ [0]) := ⟨_, rfl⟩
    replace H : (some (t244, wrap64 (3 + (wrap64 (t248 * t250))), y261, t260)) = some (r1, r2, r3, r4) := by first | (rw [hy261]; with_reducible exact H) | (have H2_ := (Option.bind_some _ _).symm.trans H; rw [hy261]; with_reducible exact H2_) | (have H2_ := (Option.bind_some _ _).symm.trans H; with_reducible exact H2_) | with_reducible exact H | (rw [hy261]; exact H) | exact H
    have Ny261 := Aside0.mk hy261
    clear hy261
    simp only [Option.some.injEq, Prod.mk.injEq] at H
    obtain ⟨rfl, rfl, rfl, rfl⟩ := H
    go_enter Try.func66, Try.ntmps66
    go_wp2_with (first | ((with_reducible refine gate_dst (N := 4) rfl ?_); refine box_event ?hg (N := 4) ?hd (cs := #[.slice none 0 0, .int .i64 0, .slice none 0 0]) (t := 26) ?hr ?_; (case hd => rfl); (case hg => rfl); (case hr => first | (go_simp; done) | (go_simp; rfl)); intro gb243 hg w12 hbox hb; have n0_ := Aside0.mk (IsS73.below (IsS73.q HI0.out) hb); have n1_ := Aside0.mk (KeepBut.trans (hkq HK.out) (KeepBut.of_below hb g none) (.inl rfl)); have n2_ := Aside0.mk (below_step (hbqs HB.out (IsS73.ge HI0.out)) hb); have n3_ := Aside0.mk (hbox); have n4_ := Aside0.mk ((by rw [hg]; exact (ksq (hkq HK.out)) : w.heap.size ≤ gb243)); have n5_ := Aside0.mk ((Nat.le_trans HW0.out (by rw [hg]; exact (ksq (hkq HK.out)) : w.heap.size ≤ gb243) : w0.heap.size ≤ gb243)); have n6_ := Aside0.mk ((by rw [hg]; exact Nat.ne_of_lt (IsS73.lt (show IsS73 w0 _ g s0_0 s0_1 from IsS73.q HI0.out)) : g ≠ gb243)); have n7_ := Aside0.mk ((by rw [hg]; exact Nat.ne_of_gt (IsS73.lt (show IsS73 w0 _ g s0_0 s0_1 from IsS73.q HI0.out)) : gb243 ≠ g)); clear HI0 HK HB; revert n0_ n1_ n2_ n3_ n4_ n5_ n6_ n7_; intro HI0 HK HB BK243 GW243 GE243 NB0_243 NB243_0; clear hb hbox hg) | ((with_reducible refine gate_callee (f := 72) rfl ?_); refine goesL_ (some 7) rfl rfl Try.func72 (by kernel_rfl) rfl #[.pointer (some ⟨g, 0, none⟩), .int .i64 0] rfl mpq ?_; (with_reducible refine (spec_l20Net.calls k g s0_0 s0_1 0 t244 t247 w0 _ ?side1 ?side2 A3.out).mono ?_); (case side1 => exact IsS73.q HI0.out); (case side2 => exact hbqs HB.out (IsS73.ge HI0.out)); rintro e w13 ⟨v245, rfl, ho0, hi, hb, hk⟩; refine ⟨_, rfl, ?_⟩; have n0_ := Aside0.mk (KeepBut.blk hk (bkq BK243.out) NB243_0.out (by simp)); have n1_ := Aside0.mk (Kd.R_lower ho0 (ksq (hkqa HK.out))); have n2_ := Aside0.mk (KeepBut.trans (hkqa HK.out) hk (.inl rfl)); have n3_ := Aside0.mk (hb); have n4_ := Aside0.mk (hi); clear BK243 HK HB HI0; revert n0_ n1_ n2_ n3_ n4_; intro BK243 HO246 HK HB HI0; (try clear hb); (try clear hb2); (try clear hk); (try clear hi); (try clear ho0)) | ((with_reducible refine gate_callee (f := 62) rfl ?_); refine goesL_ (some 9) rfl rfl Try.func62 (by kernel_rfl) rfl #[.pointer (some ⟨g, 0, none⟩), .int .i64 3] rfl mpq ?_; (with_reducible refine (spec_l20Rd_pick.calls k g s0_0 t247 3 t248 t249 w0 _ ?side1 ?side2 A4.out).mono ?_); (case side1 => exact IsS73.q HI0.out); (case side2 => exact hbqs HB.out (IsS73.ge HI0.out)); rintro e w14 ⟨rfl, hi, hb, hk⟩; refine ⟨_, rfl, ?_⟩; have n0_ := Aside0.mk (KeepBut.blk hk (bkq BK243.out) NB243_0.out (by simp)); have n1_ := Aside0.mk (Kd.R_mono (Kd.R_keep (IsS73.apart (show IsS73 w0 _ g s0_0 t247 from IsS73.q HI0.out) (roq HO246.out) (by decide)) hk (fun _ h => h.2)) (fun _ h => h.1)); have n2_ := Aside0.mk (KeepBut.trans (hkqa HK.out) hk (.inl rfl)); have n3_ := Aside0.mk (hb); have n4_ := Aside0.mk (hi); clear BK243 HO246 HK HB HI0; revert n0_ n1_ n2_ n3_ n4_; intro BK243 HO246 HK HB HI0; (try clear hb); (try clear hb2); (try clear hk); (try clear hi)) | ((with_reducible refine gate_callee (f := 62) rfl ?_); refine goesL_ (some 11) rfl rfl Try.func62 (by kernel_rfl) rfl #[.pointer (some ⟨g, 0, none⟩), .int .i64 2] rfl mpq ?_; (with_reducible refine (spec_l20Rd_pick.calls k g s0_0 t249 2 t250 t251 w0 _ ?side1 ?side2 A5.out).mono ?_); (case side1 => exact IsS73.q HI0.out); (case side2 => exact hbqs HB.out (IsS73.ge HI0.out)); rintro e w15 ⟨rfl, hi, hb, hk⟩; refine ⟨_, rfl, ?_⟩; have n0_ := Aside0.mk (KeepBut.blk hk (bkq BK243.out) NB243_0.out (by simp)); have n1_ := Aside0.mk (Kd.R_mono (Kd.R_keep (IsS73.apart (show IsS73 w0 _ g s0_0 t249 from IsS73.q HI0.out) (roq HO246.out) (by decide)) hk (fun _ h => h.2)) (fun _ h => h.1)); have n2_ := Aside0.mk (KeepBut.trans (hkqa HK.out) hk (.inl rfl)); have n3_ := Aside0.mk (hb); have n4_ := Aside0.mk (hi); clear BK243 HO246 HK HB HI0; revert n0_ n1_ n2_ n3_ n4_; intro BK243 HO246 HK HB HI0; (try clear hb); (try clear hb2); (try clear hk); (try clear hi); obtain ⟨Ao16, co16, eo16⟩ := Kd.R_slice HO246.out; subst eo16) | ((with_reducible refine gate_dst (N := 5) rfl ?_); refine box_event ?hg (N := 5) ?hd (cs := #[.slice none 0 0, .int .i64 0, .slice none 0 0]) (t := 26) ?hr ?_; (case hd => rfl); (case hg => rfl); (case hr => first | (go_simp; done) | (go_simp; rfl)); intro gb252 hg w17 hbox hb; have n0_ := Aside0.mk (Kd.R_below (roq HO246.out) hb); have n1_ := Aside0.mk (IsS73.below (IsS73.q HI0.out) hb); have n2_ := Aside0.mk (blk_below (bkq BK243.out) hb); have n3_ := Aside0.mk (KeepBut.trans (hkqa HK.out) (KeepBut.of_below hb g none) (.inl rfl)); have n4_ := Aside0.mk (below_step (hbqs HB.out (IsS73.ge HI0.out)) hb); have n5_ := Aside0.mk (hbox); have n6_ := Aside0.mk ((by rw [hg]; exact (ksq (hkqa HK.out)) : w.heap.size ≤ gb252)); have n7_ := Aside0.mk ((Nat.le_trans HW0.out (by rw [hg]; exact (ksq (hkqa HK.out)) : w.heap.size ≤ gb252) : w0.heap.size ≤ gb252)); have n8_ := Aside0.mk ((by rw [hg]; exact Nat.ne_of_lt (blk_lt (bkq BK243.out)) : gb243 ≠ gb252)); have n9_ := Aside0.mk ((by rw [hg]; exact Nat.ne_of_gt (blk_lt (bkq BK243.out)) : gb252 ≠ gb243)); have n10_ := Aside0.mk ((by rw [hg]; exact Nat.ne_of_lt (IsS73.lt (show IsS73 w0 _ g s0_0 t251 from IsS73.q HI0.out)) : g ≠ gb252)); have n11_ := Aside0.mk ((by rw [hg]; exact Nat.ne_of_gt (IsS73.lt (show IsS73 w0 _ g s0_0 t251 from IsS73.q HI0.out)) : gb252 ≠ g)); clear HO246 HI0 BK243 HK HB; revert n0_ n1_ n2_ n3_ n4_ n5_ n6_ n7_ n8_ n9_ n10_ n11_; intro HO246 HI0 BK243 HK HB BK252 GW252 GE252 NB243_252 NB252_243 NB0_252 NB252_0; clear hb hbox hg; have hnb18 := NB252_243.out; have hnc18 := NB243_252.out; have hnb19 := NB252_0.out; have hnc19 := NB0_252.out; have hcz20_0 : w17.cell? ⟨gb252, 0, none⟩ = some (.slice none 0 0) := (blk_cell BK252.out 0).trans rfl; have hcz20_1 : w17.cell? ⟨gb252, 1, none⟩ = some (.int .i64 0) := (blk_cell BK252.out 1).trans rfl; have hcz20_2 : w17.cell? ⟨gb252, 2, none⟩ = some (.slice none 0 0) := (blk_cell BK252.out 2).trans rfl; have hfz20_0 := blk_frozen BK252.out 0; have hfz20_1 := blk_frozen BK252.out 1; have hfz20_2 := blk_frozen BK252.out 2) | ((with_reducible refine gate_callee (f := 49) rfl ?_); refine goesL_ (some 21) rfl rfl Try.func49 (by kernel_rfl) rfl #[.pointer (some ⟨g, 0, none⟩), .int .i64 (t244.length : Int), .int .i64 (wrap64 (3 + (wrap64 (t248 * t250)))), .int .i64 0] rfl mpq ?_; (with_reducible refine (spec_l20State.calls k g s0_0 t251 (t244.length : Int) (wrap64 (3 + (wrap64 (t248 * t250)))) 0 t253 t256 w0 _ ?side1 ?side2 A6.out).mono ?_); (case side1 => exact IsS73.q HI0.out); (case side2 => exact hbqs HB.out (IsS73.ge HI0.out)); rintro e w21 ⟨v254, rfl, ho0, hi, hb, hk⟩; refine ⟨_, rfl, ?_⟩; have n0_ := Aside0.mk (KeepBut.blk hk (g' := gb243) (o := .cells #[.slice none 0 0, .int .i64 0, .slice none 0 0] 26 (0, 0)) (by refine bkq ?_; refine blk_far ?_ NB243_252.out _; refine bkq ?_; refine blk_far ?_ NB243_252.out _; refine bkq ?_; refine blk_far ?_ NB243_252.out _; refine bkq ?_; exact BK243.out) NB243_0.out (by simp)); have n1_ := Aside0.mk (Kd.R_mono (Kd.R_told (Kd.R_oldK (IsS73.apart (show IsS73 w0 _ g s0_0 t251 from IsS73.q HI0.out) (roq (Kd.R_mono (Kd.R_far (p := ⟨gb252, 2, none⟩) (Kd.R_far (p := ⟨gb252, 1, none⟩) (Kd.R_far (p := ⟨gb252, 0, none⟩) (Kd.R_types HO246.out BK252.out (by decide)) (fun _ hk => hk.2) (.slice Ao16 t244.length co16)) (fun _ hk => hk.2) (.int .i64 (wrap64 (3 + (wrap64 (t248 * t250)))))) (fun _ hk => hk.2) (.slice none 0 0)) (fun _ h_ => h_.1))) (by decide)) hk) (Kd.R_base ho0)) (fun _ h_ => h_.1)); have n2_ := Aside0.mk (KeepBut.blk hk (g' := gb252) (o := .cells #[.slice Ao16 t244.length co16, .int .i64 (wrap64 (3 + (wrap64 (t248 * t250)))), .slice none 0 0] 26 (0, 0)) (by refine bkq ?_; refine blk_put (cs := #[.slice Ao16 t244.length co16, .int .i64 (wrap64 (3 + (wrap64 (t248 * t250)))), .slice none 0 0]) ?_ 2 _ rfl; refine bkq ?_; refine blk_put (cs := #[.slice Ao16 t244.length co16, .int .i64 0, .slice none 0 0]) ?_ 1 _ rfl; refine bkq ?_; refine blk_put (cs := #[.slice none 0 0, .int .i64 0, .slice none 0 0]) ?_ 0 _ rfl; refine bkq ?_; exact BK252.out) NB252_0.out (by simp)); have n3_ := Aside0.mk (Kd.R_lower (Kd.R_new' ho0 (Kd.R_lt (roq (Kd.R_mono (Kd.R_far (p := ⟨gb252, 2, none⟩) (Kd.R_far (p := ⟨gb252, 1, none⟩) (Kd.R_far (p := ⟨gb252, 0, none⟩) (Kd.R_types HO246.out BK252.out (by decide)) (fun _ hk => hk.2) (.slice Ao16 t244.length co16)) (fun _ hk => hk.2) (.int .i64 (wrap64 (3 + (wrap64 (t248 * t250)))))) (fun _ hk => hk.2) (.slice none 0 0)) (fun _ h_ => h_.1))))) (ksq (hkqa HK.out))); have n4_ := Aside0.mk (KeepBut.trans (hkqa HK.out) hk (.inl rfl)); have n5_ := Aside0.mk (hb); have n6_ := Aside0.mk (hi); clear BK243 HO246 BK252 HK HB HI0; revert n0_ n1_ n2_ n3_ n4_ n5_ n6_; intro BK243 HO246 BK252 HO255 HK HB HI0; (try clear hb); (try clear hb2); (try clear hk); (try clear hi); (try clear ho0); obtain ⟨Ao22, co22, eo22⟩ := Kd.R_slice HO255.out; subst eo22; have hcz23_0 : w21.cell? ⟨gb252, 0, none⟩ = some (.slice Ao16 t244.length co16) := (blk_cell BK252.out 0).trans rfl; have hcz23_1 : w21.cell? ⟨gb252, 1, none⟩ = some (.int .i64 (wrap64 (3 + (wrap64 (t248 * t250))))) := (blk_cell BK252.out 1).trans rfl; have hcz23_2 : w21.cell? ⟨gb252, 2, none⟩ = some (.slice none 0 0) := (blk_cell BK252.out 2).trans rfl; have hfz23_0 := blk_frozen BK252.out 0; have hfz23_1 := blk_frozen BK252.out 1; have hfz23_2 := blk_frozen BK252.out 2) | ((with_reducible refine gate_callee (f := 63) rfl ?_); refine goesL_ (some 25) rfl rfl Try.func63 (by kernel_rfl) rfl #[.pointer (some ⟨g, 0, none⟩), .int .i64 a1] rfl mpq ?_; (with_reducible refine (spec_l20Rd_odd.calls k g s0_0 t256 a1 true t258 w0 _ ?side1 ?side2 A7.out).mono ?_); (case side1 => exact IsS73.q HI0.out); (case side2 => exact hbqs HB.out (IsS73.ge HI0.out)); rintro e w24 ⟨rfl, hi, hb, hk⟩; refine ⟨_, rfl, ?_⟩; have n0_ := Aside0.mk (KeepBut.blk hk (g' := gb243) (o := .cells #[.slice none 0 0, .int .i64 0, .slice none 0 0] 26 (0, 0)) (by refine bkq ?_; refine blk_far ?_ NB243_252.out _; refine bkq ?_; exact BK243.out) NB243_0.out (by simp)); have n1_ := Aside0.mk (Kd.R_mono (Kd.R_keep (IsS73.apart (show IsS73 w0 _ g s0_0 t256 from IsS73.q HI0.out) (roq (Kd.R_mono (Kd.R_far (p := ⟨gb252, 2, none⟩) (Kd.R_types HO246.out BK252.out (by decide)) (fun _ hk => hk.2) (.slice Ao22 t253.length co22)) (fun _ h_ => h_.1))) (by decide)) hk (fun _ h => h.2)) (fun _ h => h.1)); have n2_ := Aside0.mk (KeepBut.blk hk (g' := gb252) (o := .cells #[.slice Ao16 t244.length co16, .int .i64 (wrap64 (3 + (wrap64 (t248 * t250)))), .slice Ao22 t253.length co22] 26 (0, 0)) (by refine bkq ?_; refine blk_put (cs := #[.slice Ao16 t244.length co16, .int .i64 (wrap64 (3 + (wrap64 (t248 * t250)))), .slice none 0 0]) ?_ 2 _ rfl; refine bkq ?_; exact BK252.out) NB252_0.out (by simp)); have n3_ := Aside0.mk (Kd.R_mono (Kd.R_keep (IsS73.apart (show IsS73 w0 _ g s0_0 t256 from IsS73.q HI0.out) (roq (Kd.R_mono (Kd.R_far (p := ⟨gb252, 2, none⟩) (Kd.R_types HO255.out BK252.out (by decide)) (fun _ hk => hk.2) (.slice Ao22 t253.length co22)) (fun _ h_ => h_.1))) (by decide)) hk (fun _ h => h.2)) (fun _ h => h.1)); have n4_ := Aside0.mk (KeepBut.trans (hkqa HK.out) hk (.inl rfl)); have n5_ := Aside0.mk (hb); have n6_ := Aside0.mk (hi); clear BK243 HO246 BK252 HO255 HK HB HI0; revert n0_ n1_ n2_ n3_ n4_ n5_ n6_; intro BK243 HO246 BK252 HO255 HK HB HI0; (try clear hb); (try clear hb2); (try clear hk); (try clear hi)) | ((with_reducible refine gate_callee (f := 62) rfl ?_); refine goesL_ (some 27) rfl rfl Try.func62 (by kernel_rfl) rfl #[.pointer (some ⟨g, 0, none⟩), .int .i64 3] rfl mpq ?_; (with_reducible refine (spec_l20Rd_pick.calls k g s0_0 t258 3 t259 t260 w0 _ ?side1 ?side2 A9.out).mono ?_); (case side1 => exact IsS73.q HI0.out); (case side2 => exact hbqs HB.out (IsS73.ge HI0.out)); rintro e w25 ⟨rfl, hi, hb, hk⟩; refine ⟨_, rfl, ?_⟩; have n0_ := Aside0.mk (KeepBut.blk hk (bkq BK243.out) NB243_0.out (by simp)); have n1_ := Aside0.mk (Kd.R_mono (Kd.R_keep (IsS73.apart (show IsS73 w0 _ g s0_0 t258 from IsS73.q HI0.out) (roq HO246.out) (by decide)) hk (fun _ h => h.2)) (fun _ h => h.1)); have n2_ := Aside0.mk (KeepBut.blk hk (bkq BK252.out) NB252_0.out (by simp)); have n3_ := Aside0.mk (Kd.R_mono (Kd.R_keep (IsS73.apart (show IsS73 w0 _ g s0_0 t258 from IsS73.q HI0.out) (roq HO255.out) (by decide)) hk (fun _ h => h.2)) (fun _ h => h.1)); have n4_ := Aside0.mk (KeepBut.trans (hkqa HK.out) hk (.inl rfl)); have n5_ := Aside0.mk (hb); have n6_ := Aside0.mk (hi); clear BK243 HO246 BK252 HO255 HK HB HI0; revert n0_ n1_ n2_ n3_ n4_ n5_ n6_; intro BK243 HO246 BK252 HO255 HK HB HI0; (try clear hb); (try clear hb2); (try clear hk); (try clear hi); have hcz26_0 : w25.cell? ⟨gb252, 0, none⟩ = some (.slice Ao16 t244.length co16) := (blk_cell BK252.out 0).trans rfl; have hcz26_1 : w25.cell? ⟨gb252, 1, none⟩ = some (.int .i64 (wrap64 (3 + (wrap64 (t248 * t250))))) := (blk_cell BK252.out 1).trans rfl; have hcz26_2 : w25.cell? ⟨gb252, 2, none⟩ = some (.slice Ao22 t253.length co22) := (blk_cell BK252.out 2).trans rfl; have hfz26_0 := blk_frozen BK252.out 0; have hfz26_1 := blk_frozen BK252.out 1; have hfz26_2 := blk_frozen BK252.out 2) | ((with_reducible refine gate_builtin (b := .append) (xs := #[.tmp 32, .tmp 33]) rfl ?_); at_builtin; refine Kd.R_append (Kd.int .i64) w.heap.size rfl (.tmp 32) (.tmp 33) 22 3 (.int .i64 0) 8 rfl Try.underlying22 info3 rfl (by decide) (by omega) (.slice Ao22 t253.length co22) t253 0 [.int .i64 0] (fun k_ => some k_ ≠ (.slice Ao16 t244.length co16 : Value).ownBlock) (fun _ => False) rfl rfl ?aP (fun _ hk => hk.elim) ?aF ?aO (Below.refl _ _) ?aS ?aL ?_; (case aP => exact rfl); (case aF => exact (fun k_ hk => Kd.fresh' (Kd.R_lt (roq HO246.out)) k_ hk)); (case aO => exact (roq (Kd.R_mono HO255.out (fun _ hk => hk.2)))); (case aS => exact (ksq (hkqa HK.out))); (case aL => have := LMc11.out; omega); intro v262 w27 ho hb hg hat; rw [← Ny261.out] at ho; have n0_ := Aside0.mk (IsS73.grown (IsS73.q HI0.out) hg (IsS73.own_ne HI0.out HO255.out (by decide))); have n1_ := Aside0.mk (blk_grown (bkq BK243.out) hg (Kd.R_ne HO255.out BK243.out (by decide))); have n2_ := Aside0.mk (Kd.R_after (ok := (fun _ => True)) (roq HO246.out) hg hat); have n3_ := Aside0.mk (blk_grown (bkq BK252.out) hg (Kd.R_ne HO255.out BK252.out (by decide))); have n4_ := Aside0.mk (below_weaken (hbqs HB.out (IsS73.ge HI0.out)) HL.out hb); have n5_ := Aside0.mk (KeepBut.trans (hkqa HK.out) (KeepBut.of_grown hg g) (Kd.R_base2 HO255.out)); have n6_ := Aside0.mk (ho); clear HI0 BK243 HO246 BK252 HB HK HO255; revert n0_ n1_ n2_ n3_ n4_ n5_ n6_; intro HI0 BK243 HO246 BK252 HB HK HO263; clear ho hb hg hat; obtain ⟨Ao28, co28, eo28⟩ := Kd.R_slice HO263.out; subst eo28; have hcz29_0 : w27.cell? ⟨gb252, 0, none⟩ = some (.slice Ao16 t244.length co16) := (blk_cell BK252.out 0).trans rfl; have hcz29_1 : w27.cell? ⟨gb252, 1, none⟩ = some (.int .i64 (wrap64 (3 + (wrap64 (t248 * t250))))) := (blk_cell BK252.out 1).trans rfl; have hcz29_2 : w27.cell? ⟨gb252, 2, none⟩ = some (.slice Ao22 t253.length co22) := (blk_cell BK252.out 2).trans rfl; have hfz29_0 := blk_frozen BK252.out 0; have hfz29_1 := blk_frozen BK252.out 1; have hfz29_2 := blk_frozen BK252.out 2; have hnb30 := NB243_0.out; have hnc30 := NB0_243.out; have hcz31_0 : w27.cell? ⟨gb243, 0, none⟩ = some (.slice none 0 0) := (blk_cell BK243.out 0).trans rfl; have hcz31_1 : w27.cell? ⟨gb243, 1, none⟩ = some (.int .i64 0) := (blk_cell BK243.out 1).trans rfl; have hcz31_2 : w27.cell? ⟨gb243, 2, none⟩ = some (.slice none 0 0) := (blk_cell BK243.out 2).trans rfl; have hfz31_0 := blk_frozen BK243.out 0; have hfz31_1 := blk_frozen BK243.out 1; have hfz31_2 := blk_frozen BK243.out 2))
    refine bodyPost_ret (results_cell_row rfl _ _ gb243 26 #[.slice Ao16 t244.length co16, .int .i64 (wrap64 (3 + (wrap64 (t248 * t250)))), .slice Ao28 y261.length co28] (0, 0) _ rfl (by refine bkq ?_; refine blk_put (cs := #[.slice Ao16 t244.length co16, .int .i64 (wrap64 (3 + (wrap64 (t248 * t250)))), .slice none 0 0]) ?_ 2 _ rfl; refine bkq ?_; refine blk_put (cs := #[.slice Ao16 t244.length co16, .int .i64 0, .slice none 0 0]) ?_ 1 _ rfl; refine bkq ?_; refine blk_put (cs := #[.slice none 0 0, .int .i64 0, .slice none 0 0]) ?_ 0 _ rfl; refine bkq ?_; refine blk_far ?_ NB243_252.out _; refine bkq ?_; exact BK243.out) Try.underlying26 rfl (by kernel_rfl)) rfl ?_
    exact ⟨_, _, by first | rfl | (simp [errW_none, errW_some] <;> rfl) | (simp [*, errW_none, errW_some] <;> rfl), by refine roq ?_; exact Kd.R_mono (Kd.R_far (p := ⟨gb243, 2, none⟩) (Kd.R_far (p := ⟨gb243, 1, none⟩) (Kd.R_far (p := ⟨gb243, 0, none⟩) (Kd.R_far (p := ⟨gb252, 2, none⟩) (Kd.R_types (Kd.R_types HO246.out BK252.out (by decide)) BK243.out (by decide)) (fun _ hk => hk.1.2) (.slice Ao28 y261.length co28)) (fun _ hk => hk.2) (.slice Ao16 t244.length co16)) (fun _ hk => hk.2) (.int .i64 (wrap64 (3 + (wrap64 (t248 * t250)))))) (fun _ hk => hk.2) (.slice Ao28 y261.length co28)) (fun _ hk => hk.1.1.2), by refine roq ?_; exact Kd.R_mono (Kd.R_far (p := ⟨gb243, 2, none⟩) (Kd.R_far (p := ⟨gb243, 1, none⟩) (Kd.R_far (p := ⟨gb243, 0, none⟩) (Kd.R_far (p := ⟨gb252, 2, none⟩) (Kd.R_types (Kd.R_types HO263.out BK252.out (by decide)) BK243.out (by decide)) (fun _ hk => hk.1.2) (.slice Ao28 y261.length co28)) (fun _ hk => hk.2) (.slice Ao16 t244.length co16)) (fun _ hk => hk.2) (.int .i64 (wrap64 (3 + (wrap64 (t248 * t250)))))) (fun _ hk => hk.2) (.slice Ao28 y261.length co28)) (fun _ hk => hk.1.1), IsS73.q HI0.out, hbqs HB.out (IsS73.ge HI0.out), hkqa HK.out⟩
   ·rw [if_neg c11] at H
    exact absurd H (by simp)
  ·rw [if_neg c10] at H
   have c10b0 : (t259 == 0) = false := beq_eq_false_iff_ne.mpr c10
   have c10b1 : (t259 != 0) = true := bne_iff_ne.mpr c10
   by_cases c32 : t259 = 1
   ·rw [if_pos c32] at H
    have c32b0 : (t259 == 1) = true := beq_iff_eq.mpr c32
    have c32b1 : (t259 != 1) = false := bne_eq_false_iff_eq.mpr c32
    clear c32
    obtain ⟨y264, hy264⟩ : ∃ y_ : List Int, y_ = (([2, 6] : List Int)) := ⟨_, rfl⟩
    replace H : ((spec_l20Rd_pick.f k s0_0 t260 2).bind fun bt267 => (if 0 ≤ bt267.1 then (if bt267.1 < (y264.length : Int) then (some (t244, rd y264 bt267.1, t253, bt267.2)) else (none)) else (none))) = some (r1, r2, r3, r4) := by first | (rw [hy264]; with_reducible exact H) | (have H2_ := (Option.bind_some _ _).symm.trans H; rw [hy264]; with_reducible exact H2_) | (have H2_ := (Option.bind_some _ _).symm.trans H; with_reducible exact H2_) | with_reducible exact H | (rw [hy264]; exact H) | exact H
    have Ny264 := Aside0.mk hy264
    clear hy264
    replace H := Option.bind_eq_some_iff.mp H
    obtain ⟨⟨t267, t268⟩, A330, H⟩ := H
    replace H : (if 0 ≤ t267 then (if t267 < (y264.length : Int) then (some (t244, rd y264 t267, t253, t268)) else (none)) else (none)) = some (r1, r2, r3, r4) := H
    have A33 := Aside0.mk A330
    clear A330
    by_cases c34 : 0 ≤ t267
    ·rw [if_pos c34] at H
     have c34b0 : decide (0 ≤ t267) = true := decide_eq_true c34
     clear c34
     by_cases c35 : t267 < (y264.length : Int)
     ·rw [if_pos c35] at H
      have c35b0 : decide (t267 < (y264.length : Int)) = true := decide_eq_true c35
      clear c35
      simp only [Option.some.injEq, Prod.mk.injEq] at H
      obtain ⟨rfl, rfl, rfl, rfl⟩ := H
      go_enter Try.func66, Try.ntmps66
      go_wp2_with (first | ((with_reducible refine gate_dst (N := 4) rfl ?_); refine box_event ?hg (N := 4) ?hd (cs := #[.slice none 0 0, .int .i64 0, .slice none 0 0]) (t := 26) ?hr ?_; (case hd => rfl); (case hg => rfl); (case hr => first | (go_simp; done) | (go_simp; rfl)); intro gb243 hg w36 hbox hb; have n0_ := Aside0.mk (IsS73.below (IsS73.q HI0.out) hb); have n1_ := Aside0.mk (KeepBut.trans (hkq HK.out) (KeepBut.of_below hb g none) (.inl rfl)); have n2_ := Aside0.mk (below_step (hbqs HB.out (IsS73.ge HI0.out)) hb); have n3_ := Aside0.mk (hbox); have n4_ := Aside0.mk ((by rw [hg]; exact (ksq (hkq HK.out)) : w.heap.size ≤ gb243)); have n5_ := Aside0.mk ((Nat.le_trans HW0.out (by rw [hg]; exact (ksq (hkq HK.out)) : w.heap.size ≤ gb243) : w0.heap.size ≤ gb243)); have n6_ := Aside0.mk ((by rw [hg]; exact Nat.ne_of_lt (IsS73.lt (show IsS73 w0 _ g s0_0 s0_1 from IsS73.q HI0.out)) : g ≠ gb243)); have n7_ := Aside0.mk ((by rw [hg]; exact Nat.ne_of_gt (IsS73.lt (show IsS73 w0 _ g s0_0 s0_1 from IsS73.q HI0.out)) : gb243 ≠ g)); clear HI0 HK HB; revert n0_ n1_ n2_ n3_ n4_ n5_ n6_ n7_; intro HI0 HK HB BK243 GW243 GE243 NB0_243 NB243_0; clear hb hbox hg) | ((with_reducible refine gate_callee (f := 72) rfl ?_); refine goesL_ (some 7) rfl rfl Try.func72 (by kernel_rfl) rfl #[.pointer (some ⟨g, 0, none⟩), .int .i64 0] rfl mpq ?_; (with_reducible refine (spec_l20Net.calls k g s0_0 s0_1 0 t244 t247 w0 _ ?side1 ?side2 A3.out).mono ?_); (case side1 => exact IsS73.q HI0.out); (case side2 => exact hbqs HB.out (IsS73.ge HI0.out)); rintro e w37 ⟨v245, rfl, ho0, hi, hb, hk⟩; refine ⟨_, rfl, ?_⟩; have n0_ := Aside0.mk (KeepBut.blk hk (bkq BK243.out) NB243_0.out (by simp)); have n1_ := Aside0.mk (Kd.R_lower ho0 (ksq (hkqa HK.out))); have n2_ := Aside0.mk (KeepBut.trans (hkqa HK.out) hk (.inl rfl)); have n3_ := Aside0.mk (hb); have n4_ := Aside0.mk (hi); clear BK243 HK HB HI0; revert n0_ n1_ n2_ n3_ n4_; intro BK243 HO246 HK HB HI0; (try clear hb); (try clear hb2); (try clear hk); (try clear hi); (try clear ho0)) | ((with_reducible refine gate_callee (f := 62) rfl ?_); refine goesL_ (some 9) rfl rfl Try.func62 (by kernel_rfl) rfl #[.pointer (some ⟨g, 0, none⟩), .int .i64 3] rfl mpq ?_; (with_reducible refine (spec_l20Rd_pick.calls k g s0_0 t247 3 t248 t249 w0 _ ?side1 ?side2 A4.out).mono ?_); (case side1 => exact IsS73.q HI0.out); (case side2 => exact hbqs HB.out (IsS73.ge HI0.out)); rintro e w38 ⟨rfl, hi, hb, hk⟩; refine ⟨_, rfl, ?_⟩; have n0_ := Aside0.mk (KeepBut.blk hk (bkq BK243.out) NB243_0.out (by simp)); have n1_ := Aside0.mk (Kd.R_mono (Kd.R_keep (IsS73.apart (show IsS73 w0 _ g s0_0 t247 from IsS73.q HI0.out) (roq HO246.out) (by decide)) hk (fun _ h => h.2)) (fun _ h => h.1)); have n2_ := Aside0.mk (KeepBut.trans (hkqa HK.out) hk (.inl rfl)); have n3_ := Aside0.mk (hb); have n4_ := Aside0.mk (hi); clear BK243 HO246 HK HB HI0; revert n0_ n1_ n2_ n3_ n4_; intro BK243 HO246 HK HB HI0; (try clear hb); (try clear hb2); (try clear hk); (try clear hi)) | ((with_reducible refine gate_callee (f := 62) rfl ?_); refine goesL_ (some 11) rfl rfl Try.func62 (by kernel_rfl) rfl #[.pointer (some ⟨g, 0, none⟩), .int .i64 2] rfl mpq ?_; (with_reducible refine (spec_l20Rd_pick.calls k g s0_0 t249 2 t250 t251 w0 _ ?side1 ?side2 A5.out).mono ?_); (case side1 => exact IsS73.q HI0.out); (case side2 => exact hbqs HB.out (IsS73.ge HI0.out)); rintro e w39 ⟨rfl, hi, hb, hk⟩; refine ⟨_, rfl, ?_⟩; have n0_ := Aside0.mk (KeepBut.blk hk (bkq BK243.out) NB243_0.out (by simp)); have n1_ := Aside0.mk (Kd.R_mono (Kd.R_keep (IsS73.apart (show IsS73 w0 _ g s0_0 t249 from IsS73.q HI0.out) (roq HO246.out) (by decide)) hk (fun _ h => h.2)) (fun _ h => h.1)); have n2_ := Aside0.mk (KeepBut.trans (hkqa HK.out) hk (.inl rfl)); have n3_ := Aside0.mk (hb); have n4_ := Aside0.mk (hi); clear BK243 HO246 HK HB HI0; revert n0_ n1_ n2_ n3_ n4_; intro BK243 HO246 HK HB HI0; (try clear hb); (try clear hb2); (try clear hk); (try clear hi); obtain ⟨Ao40, co40, eo40⟩ := Kd.R_slice HO246.out; subst eo40) | ((with_reducible refine gate_dst (N := 5) rfl ?_); refine box_event ?hg (N := 5) ?hd (cs := #[.slice none 0 0, .int .i64 0, .slice none 0 0]) (t := 26) ?hr ?_; (case hd => rfl); (case hg => rfl); (case hr => first | (go_simp; done) | (go_simp; rfl)); intro gb252 hg w41 hbox hb; have n0_ := Aside0.mk (Kd.R_below (roq HO246.out) hb); have n1_ := Aside0.mk (IsS73.below (IsS73.q HI0.out) hb); have n2_ := Aside0.mk (blk_below (bkq BK243.out) hb); have n3_ := Aside0.mk (KeepBut.trans (hkqa HK.out) (KeepBut.of_below hb g none) (.inl rfl)); have n4_ := Aside0.mk (below_step (hbqs HB.out (IsS73.ge HI0.out)) hb); have n5_ := Aside0.mk (hbox); have n6_ := Aside0.mk ((by rw [hg]; exact (ksq (hkqa HK.out)) : w.heap.size ≤ gb252)); have n7_ := Aside0.mk ((Nat.le_trans HW0.out (by rw [hg]; exact (ksq (hkqa HK.out)) : w.heap.size ≤ gb252) : w0.heap.size ≤ gb252)); have n8_ := Aside0.mk ((by rw [hg]; exact Nat.ne_of_lt (blk_lt (bkq BK243.out)) : gb243 ≠ gb252)); have n9_ := Aside0.mk ((by rw [hg]; exact Nat.ne_of_gt (blk_lt (bkq BK243.out)) : gb252 ≠ gb243)); have n10_ := Aside0.mk ((by rw [hg]; exact Nat.ne_of_lt (IsS73.lt (show IsS73 w0 _ g s0_0 t251 from IsS73.q HI0.out)) : g ≠ gb252)); have n11_ := Aside0.mk ((by rw [hg]; exact Nat.ne_of_gt (IsS73.lt (show IsS73 w0 _ g s0_0 t251 from IsS73.q HI0.out)) : gb252 ≠ g)); clear HO246 HI0 BK243 HK HB; revert n0_ n1_ n2_ n3_ n4_ n5_ n6_ n7_ n8_ n9_ n10_ n11_; intro HO246 HI0 BK243 HK HB BK252 GW252 GE252 NB243_252 NB252_243 NB0_252 NB252_0; clear hb hbox hg; have hnb42 := NB252_243.out; have hnc42 := NB243_252.out; have hnb43 := NB252_0.out; have hnc43 := NB0_252.out; have hcz44_0 : w41.cell? ⟨gb252, 0, none⟩ = some (.slice none 0 0) := (blk_cell BK252.out 0).trans rfl; have hcz44_1 : w41.cell? ⟨gb252, 1, none⟩ = some (.int .i64 0) := (blk_cell BK252.out 1).trans rfl; have hcz44_2 : w41.cell? ⟨gb252, 2, none⟩ = some (.slice none 0 0) := (blk_cell BK252.out 2).trans rfl; have hfz44_0 := blk_frozen BK252.out 0; have hfz44_1 := blk_frozen BK252.out 1; have hfz44_2 := blk_frozen BK252.out 2) | ((with_reducible refine gate_callee (f := 49) rfl ?_); refine goesL_ (some 21) rfl rfl Try.func49 (by kernel_rfl) rfl #[.pointer (some ⟨g, 0, none⟩), .int .i64 (t244.length : Int), .int .i64 (wrap64 (3 + (wrap64 (t248 * t250)))), .int .i64 0] rfl mpq ?_; (with_reducible refine (spec_l20State.calls k g s0_0 t251 (t244.length : Int) (wrap64 (3 + (wrap64 (t248 * t250)))) 0 t253 t256 w0 _ ?side1 ?side2 A6.out).mono ?_); (case side1 => exact IsS73.q HI0.out); (case side2 => exact hbqs HB.out (IsS73.ge HI0.out)); rintro e w45 ⟨v254, rfl, ho0, hi, hb, hk⟩; refine ⟨_, rfl, ?_⟩; have n0_ := Aside0.mk (KeepBut.blk hk (g' := gb243) (o := .cells #[.slice none 0 0, .int .i64 0, .slice none 0 0] 26 (0, 0)) (by refine bkq ?_; refine blk_far ?_ NB243_252.out _; refine bkq ?_; refine blk_far ?_ NB243_252.out _; refine bkq ?_; refine blk_far ?_ NB243_252.out _; refine bkq ?_; exact BK243.out) NB243_0.out (by simp)); have n1_ := Aside0.mk (Kd.R_mono (Kd.R_told (Kd.R_oldK (IsS73.apart (show IsS73 w0 _ g s0_0 t251 from IsS73.q HI0.out) (roq (Kd.R_mono (Kd.R_far (p := ⟨gb252, 2, none⟩) (Kd.R_far (p := ⟨gb252, 1, none⟩) (Kd.R_far (p := ⟨gb252, 0, none⟩) (Kd.R_types HO246.out BK252.out (by decide)) (fun _ hk => hk.2) (.slice Ao40 t244.length co40)) (fun _ hk => hk.2) (.int .i64 (wrap64 (3 + (wrap64 (t248 * t250)))))) (fun _ hk => hk.2) (.slice none 0 0)) (fun _ h_ => h_.1))) (by decide)) hk) (Kd.R_base ho0)) (fun _ h_ => h_.1)); have n2_ := Aside0.mk (KeepBut.blk hk (g' := gb252) (o := .cells #[.slice Ao40 t244.length co40, .int .i64 (wrap64 (3 + (wrap64 (t248 * t250)))), .slice none 0 0] 26 (0, 0)) (by refine bkq ?_; refine blk_put (cs := #[.slice Ao40 t244.length co40, .int .i64 (wrap64 (3 + (wrap64 (t248 * t250)))), .slice none 0 0]) ?_ 2 _ rfl; refine bkq ?_; refine blk_put (cs := #[.slice Ao40 t244.length co40, .int .i64 0, .slice none 0 0]) ?_ 1 _ rfl; refine bkq ?_; refine blk_put (cs := #[.slice none 0 0, .int .i64 0, .slice none 0 0]) ?_ 0 _ rfl; refine bkq ?_; exact BK252.out) NB252_0.out (by simp)); have n3_ := Aside0.mk (Kd.R_lower (Kd.R_new' ho0 (Kd.R_lt (roq (Kd.R_mono (Kd.R_far (p := ⟨gb252, 2, none⟩) (Kd.R_far (p := ⟨gb252, 1, none⟩) (Kd.R_far (p := ⟨gb252, 0, none⟩) (Kd.R_types HO246.out BK252.out (by decide)) (fun _ hk => hk.2) (.slice Ao40 t244.length co40)) (fun _ hk => hk.2) (.int .i64 (wrap64 (3 + (wrap64 (t248 * t250)))))) (fun _ hk => hk.2) (.slice none 0 0)) (fun _ h_ => h_.1))))) (ksq (hkqa HK.out))); have n4_ := Aside0.mk (KeepBut.trans (hkqa HK.out) hk (.inl rfl)); have n5_ := Aside0.mk (hb); have n6_ := Aside0.mk (hi); clear BK243 HO246 BK252 HK HB HI0; revert n0_ n1_ n2_ n3_ n4_ n5_ n6_; intro BK243 HO246 BK252 HO255 HK HB HI0; (try clear hb); (try clear hb2); (try clear hk); (try clear hi); (try clear ho0); obtain ⟨Ao46, co46, eo46⟩ := Kd.R_slice HO255.out; subst eo46; have hcz47_0 : w45.cell? ⟨gb252, 0, none⟩ = some (.slice Ao40 t244.length co40) := (blk_cell BK252.out 0).trans rfl; have hcz47_1 : w45.cell? ⟨gb252, 1, none⟩ = some (.int .i64 (wrap64 (3 + (wrap64 (t248 * t250))))) := (blk_cell BK252.out 1).trans rfl; have hcz47_2 : w45.cell? ⟨gb252, 2, none⟩ = some (.slice none 0 0) := (blk_cell BK252.out 2).trans rfl; have hfz47_0 := blk_frozen BK252.out 0; have hfz47_1 := blk_frozen BK252.out 1; have hfz47_2 := blk_frozen BK252.out 2) | ((with_reducible refine gate_callee (f := 63) rfl ?_); refine goesL_ (some 25) rfl rfl Try.func63 (by kernel_rfl) rfl #[.pointer (some ⟨g, 0, none⟩), .int .i64 a1] rfl mpq ?_; (with_reducible refine (spec_l20Rd_odd.calls k g s0_0 t256 a1 true t258 w0 _ ?side1 ?side2 A7.out).mono ?_); (case side1 => exact IsS73.q HI0.out); (case side2 => exact hbqs HB.out (IsS73.ge HI0.out)); rintro e w48 ⟨rfl, hi, hb, hk⟩; refine ⟨_, rfl, ?_⟩; have n0_ := Aside0.mk (KeepBut.blk hk (g' := gb243) (o := .cells #[.slice none 0 0, .int .i64 0, .slice none 0 0] 26 (0, 0)) (by refine bkq ?_; refine blk_far ?_ NB243_252.out _; refine bkq ?_; exact BK243.out) NB243_0.out (by simp)); have n1_ := Aside0.mk (Kd.R_mono (Kd.R_keep (IsS73.apart (show IsS73 w0 _ g s0_0 t256 from IsS73.q HI0.out) (roq (Kd.R_mono (Kd.R_far (p := ⟨gb252, 2, none⟩) (Kd.R_types HO246.out BK252.out (by decide)) (fun _ hk => hk.2) (.slice Ao46 t253.length co46)) (fun _ h_ => h_.1))) (by decide)) hk (fun _ h => h.2)) (fun _ h => h.1)); have n2_ := Aside0.mk (KeepBut.blk hk (g' := gb252) (o := .cells #[.slice Ao40 t244.length co40, .int .i64 (wrap64 (3 + (wrap64 (t248 * t250)))), .slice Ao46 t253.length co46] 26 (0, 0)) (by refine bkq ?_; refine blk_put (cs := #[.slice Ao40 t244.length co40, .int .i64 (wrap64 (3 + (wrap64 (t248 * t250)))), .slice none 0 0]) ?_ 2 _ rfl; refine bkq ?_; exact BK252.out) NB252_0.out (by simp)); have n3_ := Aside0.mk (Kd.R_mono (Kd.R_keep (IsS73.apart (show IsS73 w0 _ g s0_0 t256 from IsS73.q HI0.out) (roq (Kd.R_mono (Kd.R_far (p := ⟨gb252, 2, none⟩) (Kd.R_types HO255.out BK252.out (by decide)) (fun _ hk => hk.2) (.slice Ao46 t253.length co46)) (fun _ h_ => h_.1))) (by decide)) hk (fun _ h => h.2)) (fun _ h => h.1)); have n4_ := Aside0.mk (KeepBut.trans (hkqa HK.out) hk (.inl rfl)); have n5_ := Aside0.mk (hb); have n6_ := Aside0.mk (hi); clear BK243 HO246 BK252 HO255 HK HB HI0; revert n0_ n1_ n2_ n3_ n4_ n5_ n6_; intro BK243 HO246 BK252 HO255 HK HB HI0; (try clear hb); (try clear hb2); (try clear hk); (try clear hi)) | ((with_reducible refine gate_callee (f := 62) rfl ?_); refine goesL_ (some 27) rfl rfl Try.func62 (by kernel_rfl) rfl #[.pointer (some ⟨g, 0, none⟩), .int .i64 3] rfl mpq ?_; (with_reducible refine (spec_l20Rd_pick.calls k g s0_0 t258 3 t259 t260 w0 _ ?side1 ?side2 A9.out).mono ?_); (case side1 => exact IsS73.q HI0.out); (case side2 => exact hbqs HB.out (IsS73.ge HI0.out)); rintro e w49 ⟨rfl, hi, hb, hk⟩; refine ⟨_, rfl, ?_⟩; have n0_ := Aside0.mk (KeepBut.blk hk (bkq BK243.out) NB243_0.out (by simp)); have n1_ := Aside0.mk (Kd.R_mono (Kd.R_keep (IsS73.apart (show IsS73 w0 _ g s0_0 t258 from IsS73.q HI0.out) (roq HO246.out) (by decide)) hk (fun _ h => h.2)) (fun _ h => h.1)); have n2_ := Aside0.mk (KeepBut.blk hk (bkq BK252.out) NB252_0.out (by simp)); have n3_ := Aside0.mk (Kd.R_mono (Kd.R_keep (IsS73.apart (show IsS73 w0 _ g s0_0 t258 from IsS73.q HI0.out) (roq HO255.out) (by decide)) hk (fun _ h => h.2)) (fun _ h => h.1)); have n4_ := Aside0.mk (KeepBut.trans (hkqa HK.out) hk (.inl rfl)); have n5_ := Aside0.mk (hb); have n6_ := Aside0.mk (hi); clear BK243 HO246 BK252 HO255 HK HB HI0; revert n0_ n1_ n2_ n3_ n4_ n5_ n6_; intro BK243 HO246 BK252 HO255 HK HB HI0; (try clear hb); (try clear hb2); (try clear hk); (try clear hi)) | ((with_reducible refine gate_dst (N := 38) rfl ?_); refine Kd.R_lit (Kd.int .i64) _ 3 ?hg (N := 38) ?hd (xs := ([2, 6] : List Int)) (inner := [.int .i64 2, .int .i64 6]) (ok := fun _ => True) (okp := fun _ => True) ?hr ?hp (fun _ hk => hk) trivial (Below.refl _ _) (Nat.le_refl _) (by simp) ?_; (case hd => rfl); (case hg => rfl); (case hr => first | (go_simp; done) | (go_simp; rfl)); (case hp => exact (Reps.one (show Kd.M (Kd.int .i64) _ _ _ 2 [.int .i64 2] from rfl) (Reps.one (show Kd.M (Kd.int .i64) _ _ _ 6 [.int .i64 6] from rfl) (Reps.none _ _)))); intro v265 w50 ho51 hb hg_ hnew_; clear hg_ hnew_; (first | rw [← Ny264.out] at ho51 | (simp only [Int.reduceToNat] at ho51; rw [← Ny264.out] at ho51)); have n0_ := Aside0.mk (Kd.R_elder' (roq HO246.out) (Kd.R_base ho51) hb); have n1_ := Aside0.mk (Kd.R_elder' (roq HO255.out) (Kd.R_base ho51) hb); have n2_ := Aside0.mk (Kd.R_lower (Kd.R_new' (Kd.R_new' ho51 (Kd.R_lt (roq HO246.out))) (Kd.R_lt (roq HO255.out))) (ksq (hkqa HK.out))); have n3_ := Aside0.mk (IsS73.below (IsS73.q HI0.out) hb); have n4_ := Aside0.mk (blk_below (bkq BK243.out) hb); have n5_ := Aside0.mk (blk_below (bkq BK252.out) hb); have n6_ := Aside0.mk (KeepBut.trans (hkqa HK.out) (KeepBut.of_below hb g none) (.inl rfl)); have n7_ := Aside0.mk (below_step (hbqs HB.out (IsS73.ge HI0.out)) hb); clear HO246 HO255 HI0 BK243 BK252 HK HB; revert n0_ n1_ n2_ n3_ n4_ n5_ n6_ n7_; intro HO246 HO255 HO266 HI0 BK243 BK252 HK HB; clear hb ho51) | ((with_reducible refine gate_callee (f := 62) rfl ?_); refine goesL_ (some 40) rfl rfl Try.func62 (by kernel_rfl) rfl #[.pointer (some ⟨g, 0, none⟩), .int .i64 2] rfl mpq ?_; (with_reducible refine (spec_l20Rd_pick.calls k g s0_0 t260 2 t267 t268 w0 _ ?side1 ?side2 A33.out).mono ?_); (case side1 => exact IsS73.q HI0.out); (case side2 => exact hbqs HB.out (IsS73.ge HI0.out)); rintro e w52 ⟨rfl, hi, hb, hk⟩; refine ⟨_, rfl, ?_⟩; have n0_ := Aside0.mk (KeepBut.blk hk (bkq BK243.out) NB243_0.out (by simp)); have n1_ := Aside0.mk (Kd.R_mono (Kd.R_keep (IsS73.apart (show IsS73 w0 _ g s0_0 t260 from IsS73.q HI0.out) (roq HO246.out) (by decide)) hk (fun _ h => h.2)) (fun _ h => h.1)); have n2_ := Aside0.mk (KeepBut.blk hk (bkq BK252.out) NB252_0.out (by simp)); have n3_ := Aside0.mk (Kd.R_mono (Kd.R_keep (IsS73.apart (show IsS73 w0 _ g s0_0 t260 from IsS73.q HI0.out) (roq HO255.out) (by decide)) hk (fun _ h => h.2)) (fun _ h => h.1)); have n4_ := Aside0.mk (Kd.R_mono (Kd.R_keep (IsS73.apart (show IsS73 w0 _ g s0_0 t260 from IsS73.q HI0.out) (roq HO266.out) (by decide)) hk (fun _ h => h.2)) (fun _ h => h.1)); have n5_ := Aside0.mk (KeepBut.trans (hkqa HK.out) hk (.inl rfl)); have n6_ := Aside0.mk (hb); have n7_ := Aside0.mk (hi); clear BK243 HO246 BK252 HO255 HO266 HK HB HI0; revert n0_ n1_ n2_ n3_ n4_ n5_ n6_ n7_; intro BK243 HO246 BK252 HO255 HO266 HK HB HI0; (try clear hb); (try clear hb2); (try clear hk); (try clear hi); obtain ⟨Ao53, co53, eo53⟩ := Kd.R_slice HO266.out; subst eo53; have p269 : 0 ≤ (t267 : Int) := od; have q269 : t267 < (y264.length : Int) := od; obtain ⟨ad269, e269, hx269_0⟩ := Kd.at_int (Kd.R_reads' HO266.out).2.2 t267 p269 q269; cases e269; replace p269 := eq_true p269; replace q269 := eq_true q269; have hcz54_0 : w52.cell? ⟨gb252, 0, none⟩ = some (.slice Ao40 t244.length co40) := (blk_cell BK252.out 0).trans rfl; have hcz54_1 : w52.cell? ⟨gb252, 1, none⟩ = some (.int .i64 (wrap64 (3 + (wrap64 (t248 * t250))))) := (blk_cell BK252.out 1).trans rfl; have hcz54_2 : w52.cell? ⟨gb252, 2, none⟩ = some (.slice Ao46 t253.length co46) := (blk_cell BK252.out 2).trans rfl; have hfz54_0 := blk_frozen BK252.out 0; have hfz54_1 := blk_frozen BK252.out 1; have hfz54_2 := blk_frozen BK252.out 2; have hnb55 := NB243_0.out; have hnc55 := NB0_243.out; have hcz56_0 : w52.cell? ⟨gb243, 0, none⟩ = some (.slice none 0 0) := (blk_cell BK243.out 0).trans rfl; have hcz56_1 : w52.cell? ⟨gb243, 1, none⟩ = some (.int .i64 0) := (blk_cell BK243.out 1).trans rfl; have hcz56_2 : w52.cell? ⟨gb243, 2, none⟩ = some (.slice none 0 0) := (blk_cell BK243.out 2).trans rfl; have hfz56_0 := blk_frozen BK243.out 0; have hfz56_1 := blk_frozen BK243.out 1; have hfz56_2 := blk_frozen BK243.out 2))
      refine bodyPost_ret (results_cell_row rfl _ _ gb243 26 #[.slice Ao40 t244.length co40, .int .i64 (rd y264 t267), .slice Ao46 t253.length co46] (0, 0) _ rfl (by refine bkq ?_; refine blk_put (cs := #[.slice Ao40 t244.length co40, .int .i64 (rd y264 t267), .slice none 0 0]) ?_ 2 _ rfl; refine bkq ?_; refine blk_put (cs := #[.slice Ao40 t244.length co40, .int .i64 0, .slice none 0 0]) ?_ 1 _ rfl; refine bkq ?_; refine blk_put (cs := #[.slice none 0 0, .int .i64 0, .slice none 0 0]) ?_ 0 _ rfl; refine bkq ?_; refine blk_far ?_ NB243_252.out _; refine bkq ?_; exact BK243.out) Try.underlying26 rfl (by kernel_rfl)) rfl ?_
      exact ⟨_, _, by first | rfl | (simp [errW_none, errW_some] <;> rfl) | (simp [*, errW_none, errW_some] <;> rfl), by refine roq ?_; exact Kd.R_mono (Kd.R_far (p := ⟨gb243, 2, none⟩) (Kd.R_far (p := ⟨gb243, 1, none⟩) (Kd.R_far (p := ⟨gb243, 0, none⟩) (Kd.R_far (p := ⟨gb252, 1, none⟩) (Kd.R_types (Kd.R_types HO246.out BK252.out (by decide)) BK243.out (by decide)) (fun _ hk => hk.1.2) (.int .i64 (rd y264 t267))) (fun _ hk => hk.2) (.slice Ao40 t244.length co40)) (fun _ hk => hk.2) (.int .i64 (rd y264 t267))) (fun _ hk => hk.2) (.slice Ao46 t253.length co46)) (fun _ hk => hk.1.1.1.2), by refine roq ?_; exact Kd.R_mono (Kd.R_far (p := ⟨gb243, 2, none⟩) (Kd.R_far (p := ⟨gb243, 1, none⟩) (Kd.R_far (p := ⟨gb243, 0, none⟩) (Kd.R_far (p := ⟨gb252, 1, none⟩) (Kd.R_types (Kd.R_types HO255.out BK252.out (by decide)) BK243.out (by decide)) (fun _ hk => hk.1.2) (.int .i64 (rd y264 t267))) (fun _ hk => hk.2) (.slice Ao40 t244.length co40)) (fun _ hk => hk.2) (.int .i64 (rd y264 t267))) (fun _ hk => hk.2) (.slice Ao46 t253.length co46)) (fun _ hk => hk.1.1.1.2), IsS73.q HI0.out, hbqs HB.out (IsS73.ge HI0.out), hkqa HK.out⟩
     ·rw [if_neg c35] at H
      exact absurd H (by simp)
    ·rw [if_neg c34] at H
     exact absurd H (by simp)
   ·rw [if_neg c32] at H
    have c32b0 : (t259 == 1) = false := beq_eq_false_iff_ne.mpr c32
    have c32b1 : (t259 != 1) = true := bne_iff_ne.mpr c32
    simp only [Option.some.injEq, Prod.mk.injEq] at H
    obtain ⟨rfl, rfl, rfl, rfl⟩ := H
    go_enter Try.func66, Try.ntmps66
    go_wp2_with (first | ((with_reducible refine gate_dst (N := 4) rfl ?_); refine box_event ?hg (N := 4) ?hd (cs := #[.slice none 0 0, .int .i64 0, .slice none 0 0]) (t := 26) ?hr ?_; (case hd => rfl); (case hg => rfl); (case hr => first | (go_simp; done) | (go_simp; rfl)); intro gb243 hg w57 hbox hb; have n0_ := Aside0.mk (IsS73.below (IsS73.q HI0.out) hb); have n1_ := Aside0.mk (KeepBut.trans (hkq HK.out) (KeepBut.of_below hb g none) (.inl rfl)); have n2_ := Aside0.mk (below_step (hbqs HB.out (IsS73.ge HI0.out)) hb); have n3_ := Aside0.mk (hbox); have n4_ := Aside0.mk ((by rw [hg]; exact (ksq (hkq HK.out)) : w.heap.size ≤ gb243)); have n5_ := Aside0.mk ((Nat.le_trans HW0.out (by rw [hg]; exact (ksq (hkq HK.out)) : w.heap.size ≤ gb243) : w0.heap.size ≤ gb243)); have n6_ := Aside0.mk ((by rw [hg]; exact Nat.ne_of_lt (IsS73.lt (show IsS73 w0 _ g s0_0 s0_1 from IsS73.q HI0.out)) : g ≠ gb243)); have n7_ := Aside0.mk ((by rw [hg]; exact Nat.ne_of_gt (IsS73.lt (show IsS73 w0 _ g s0_0 s0_1 from IsS73.q HI0.out)) : gb243 ≠ g)); clear HI0 HK HB; revert n0_ n1_ n2_ n3_ n4_ n5_ n6_ n7_; intro HI0 HK HB BK243 GW243 GE243 NB0_243 NB243_0; clear hb hbox hg) | ((with_reducible refine gate_callee (f := 72) rfl ?_); refine goesL_ (some 7) rfl rfl Try.func72 (by kernel_rfl) rfl #[.pointer (some ⟨g, 0, none⟩), .int .i64 0] rfl mpq ?_; (with_reducible refine (spec_l20Net.calls k g s0_0 s0_1 0 t244 t247 w0 _ ?side1 ?side2 A3.out).mono ?_); (case side1 => exact IsS73.q HI0.out); (case side2 => exact hbqs HB.out (IsS73.ge HI0.out)); rintro e w58 ⟨v245, rfl, ho0, hi, hb, hk⟩; refine ⟨_, rfl, ?_⟩; have n0_ := Aside0.mk (KeepBut.blk hk (bkq BK243.out) NB243_0.out (by simp)); have n1_ := Aside0.mk (Kd.R_lower ho0 (ksq (hkqa HK.out))); have n2_ := Aside0.mk (KeepBut.trans (hkqa HK.out) hk (.inl rfl)); have n3_ := Aside0.mk (hb); have n4_ := Aside0.mk (hi); clear BK243 HK HB HI0; revert n0_ n1_ n2_ n3_ n4_; intro BK243 HO246 HK HB HI0; (try clear hb); (try clear hb2); (try clear hk); (try clear hi); (try clear ho0)) | ((with_reducible refine gate_callee (f := 62) rfl ?_); refine goesL_ (some 9) rfl rfl Try.func62 (by kernel_rfl) rfl #[.pointer (some ⟨g, 0, none⟩), .int .i64 3] rfl mpq ?_; (with_reducible refine (spec_l20Rd_pick.calls k g s0_0 t247 3 t248 t249 w0 _ ?side1 ?side2 A4.out).mono ?_); (case side1 => exact IsS73.q HI0.out); (case side2 => exact hbqs HB.out (IsS73.ge HI0.out)); rintro e w59 ⟨rfl, hi, hb, hk⟩; refine ⟨_, rfl, ?_⟩; have n0_ := Aside0.mk (KeepBut.blk hk (bkq BK243.out) NB243_0.out (by simp)); have n1_ := Aside0.mk (Kd.R_mono (Kd.R_keep (IsS73.apart (show IsS73 w0 _ g s0_0 t247 from IsS73.q HI0.out) (roq HO246.out) (by decide)) hk (fun _ h => h.2)) (fun _ h => h.1)); have n2_ := Aside0.mk (KeepBut.trans (hkqa HK.out) hk (.inl rfl)); have n3_ := Aside0.mk (hb); have n4_ := Aside0.mk (hi); clear BK243 HO246 HK HB HI0; revert n0_ n1_ n2_ n3_ n4_; intro BK243 HO246 HK HB HI0; (try clear hb); (try clear hb2); (try clear hk); (try clear hi)) | ((with_reducible refine gate_callee (f := 62) rfl ?_); refine goesL_ (some 11) rfl rfl Try.func62 (by kernel_rfl) rfl #[.pointer (some ⟨g, 0, none⟩), .int .i64 2] rfl mpq ?_; (with_reducible refine (spec_l20Rd_pick.calls k g s0_0 t249 2 t250 t251 w0 _ ?side1 ?side2 A5.out).mono ?_); (case side1 => exact IsS73.q HI0.out); (case side2 => exact hbqs HB.out (IsS73.ge HI0.out)); rintro e w60 ⟨rfl, hi, hb, hk⟩; refine ⟨_, rfl, ?_⟩; have n0_ := Aside0.mk (KeepBut.blk hk (bkq BK243.out) NB243_0.out (by simp)); have n1_ := Aside0.mk (Kd.R_mono (Kd.R_keep (IsS73.apart (show IsS73 w0 _ g s0_0 t249 from IsS73.q HI0.out) (roq HO246.out) (by decide)) hk (fun _ h => h.2)) (fun _ h => h.1)); have n2_ := Aside0.mk (KeepBut.trans (hkqa HK.out) hk (.inl rfl)); have n3_ := Aside0.mk (hb); have n4_ := Aside0.mk (hi); clear BK243 HO246 HK HB HI0; revert n0_ n1_ n2_ n3_ n4_; intro BK243 HO246 HK HB HI0; (try clear hb); (try clear hb2); (try clear hk); (try clear hi); obtain ⟨Ao61, co61, eo61⟩ := Kd.R_slice HO246.out; subst eo61) | ((with_reducible refine gate_dst (N := 5) rfl ?_); refine box_event ?hg (N := 5) ?hd (cs := #[.slice none 0 0, .int .i64 0, .slice none 0 0]) (t := 26) ?hr ?_; (case hd => rfl); (case hg => rfl); (case hr => first | (go_simp; done) | (go_simp; rfl)); intro gb252 hg w62 hbox hb; have n0_ := Aside0.mk (Kd.R_below (roq HO246.out) hb); have n1_ := Aside0.mk (IsS73.below (IsS73.q HI0.out) hb); have n2_ := Aside0.mk (blk_below (bkq BK243.out) hb); have n3_ := Aside0.mk (KeepBut.trans (hkqa HK.out) (KeepBut.of_below hb g none) (.inl rfl)); have n4_ := Aside0.mk (below_step (hbqs HB.out (IsS73.ge HI0.out)) hb); have n5_ := Aside0.mk (hbox); have n6_ := Aside0.mk ((by rw [hg]; exact (ksq (hkqa HK.out)) : w.heap.size ≤ gb252)); have n7_ := Aside0.mk ((Nat.le_trans HW0.out (by rw [hg]; exact (ksq (hkqa HK.out)) : w.heap.size ≤ gb252) : w0.heap.size ≤ gb252)); have n8_ := Aside0.mk ((by rw [hg]; exact Nat.ne_of_lt (blk_lt (bkq BK243.out)) : gb243 ≠ gb252)); have n9_ := Aside0.mk ((by rw [hg]; exact Nat.ne_of_gt (blk_lt (bkq BK243.out)) : gb252 ≠ gb243)); have n10_ := Aside0.mk ((by rw [hg]; exact Nat.ne_of_lt (IsS73.lt (show IsS73 w0 _ g s0_0 t251 from IsS73.q HI0.out)) : g ≠ gb252)); have n11_ := Aside0.mk ((by rw [hg]; exact Nat.ne_of_gt (IsS73.lt (show IsS73 w0 _ g s0_0 t251 from IsS73.q HI0.out)) : gb252 ≠ g)); clear HO246 HI0 BK243 HK HB; revert n0_ n1_ n2_ n3_ n4_ n5_ n6_ n7_ n8_ n9_ n10_ n11_; intro HO246 HI0 BK243 HK HB BK252 GW252 GE252 NB243_252 NB252_243 NB0_252 NB252_0; clear hb hbox hg; have hnb63 := NB252_243.out; have hnc63 := NB243_252.out; have hnb64 := NB252_0.out; have hnc64 := NB0_252.out; have hcz65_0 : w62.cell? ⟨gb252, 0, none⟩ = some (.slice none 0 0) := (blk_cell BK252.out 0).trans rfl; have hcz65_1 : w62.cell? ⟨gb252, 1, none⟩ = some (.int .i64 0) := (blk_cell BK252.out 1).trans rfl; have hcz65_2 : w62.cell? ⟨gb252, 2, none⟩ = some (.slice none 0 0) := (blk_cell BK252.out 2).trans rfl; have hfz65_0 := blk_frozen BK252.out 0; have hfz65_1 := blk_frozen BK252.out 1; have hfz65_2 := blk_frozen BK252.out 2) | ((with_reducible refine gate_callee (f := 49) rfl ?_); refine goesL_ (some 21) rfl rfl Try.func49 (by kernel_rfl) rfl #[.pointer (some ⟨g, 0, none⟩), .int .i64 (t244.length : Int), .int .i64 (wrap64 (3 + (wrap64 (t248 * t250)))), .int .i64 0] rfl mpq ?_; (with_reducible refine (spec_l20State.calls k g s0_0 t251 (t244.length : Int) (wrap64 (3 + (wrap64 (t248 * t250)))) 0 t253 t256 w0 _ ?side1 ?side2 A6.out).mono ?_); (case side1 => exact IsS73.q HI0.out); (case side2 => exact hbqs HB.out (IsS73.ge HI0.out)); rintro e w66 ⟨v254, rfl, ho0, hi, hb, hk⟩; refine ⟨_, rfl, ?_⟩; have n0_ := Aside0.mk (KeepBut.blk hk (g' := gb243) (o := .cells #[.slice none 0 0, .int .i64 0, .slice none 0 0] 26 (0, 0)) (by refine bkq ?_; refine blk_far ?_ NB243_252.out _; refine bkq ?_; refine blk_far ?_ NB243_252.out _; refine bkq ?_; refine blk_far ?_ NB243_252.out _; refine bkq ?_; exact BK243.out) NB243_0.out (by simp)); have n1_ := Aside0.mk (Kd.R_mono (Kd.R_told (Kd.R_oldK (IsS73.apart (show IsS73 w0 _ g s0_0 t251 from IsS73.q HI0.out) (roq (Kd.R_mono (Kd.R_far (p := ⟨gb252, 2, none⟩) (Kd.R_far (p := ⟨gb252, 1, none⟩) (Kd.R_far (p := ⟨gb252, 0, none⟩) (Kd.R_types HO246.out BK252.out (by decide)) (fun _ hk => hk.2) (.slice Ao61 t244.length co61)) (fun _ hk => hk.2) (.int .i64 (wrap64 (3 + (wrap64 (t248 * t250)))))) (fun _ hk => hk.2) (.slice none 0 0)) (fun _ h_ => h_.1))) (by decide)) hk) (Kd.R_base ho0)) (fun _ h_ => h_.1)); have n2_ := Aside0.mk (KeepBut.blk hk (g' := gb252) (o := .cells #[.slice Ao61 t244.length co61, .int .i64 (wrap64 (3 + (wrap64 (t248 * t250)))), .slice none 0 0] 26 (0, 0)) (by refine bkq ?_; refine blk_put (cs := #[.slice Ao61 t244.length co61, .int .i64 (wrap64 (3 + (wrap64 (t248 * t250)))), .slice none 0 0]) ?_ 2 _ rfl; refine bkq ?_; refine blk_put (cs := #[.slice Ao61 t244.length co61, .int .i64 0, .slice none 0 0]) ?_ 1 _ rfl; refine bkq ?_; refine blk_put (cs := #[.slice none 0 0, .int .i64 0, .slice none 0 0]) ?_ 0 _ rfl; refine bkq ?_; exact BK252.out) NB252_0.out (by simp)); have n3_ := Aside0.mk (Kd.R_lower (Kd.R_new' ho0 (Kd.R_lt (roq (Kd.R_mono (Kd.R_far (p := ⟨gb252, 2, none⟩) (Kd.R_far (p := ⟨gb252, 1, none⟩) (Kd.R_far (p := ⟨gb252, 0, none⟩) (Kd.R_types HO246.out BK252.out (by decide)) (fun _ hk => hk.2) (.slice Ao61 t244.length co61)) (fun _ hk => hk.2) (.int .i64 (wrap64 (3 + (wrap64 (t248 * t250)))))) (fun _ hk => hk.2) (.slice none 0 0)) (fun _ h_ => h_.1))))) (ksq (hkqa HK.out))); have n4_ := Aside0.mk (KeepBut.trans (hkqa HK.out) hk (.inl rfl)); have n5_ := Aside0.mk (hb); have n6_ := Aside0.mk (hi); clear BK243 HO246 BK252 HK HB HI0; revert n0_ n1_ n2_ n3_ n4_ n5_ n6_; intro BK243 HO246 BK252 HO255 HK HB HI0; (try clear hb); (try clear hb2); (try clear hk); (try clear hi); (try clear ho0); obtain ⟨Ao67, co67, eo67⟩ := Kd.R_slice HO255.out; subst eo67; have hcz68_0 : w66.cell? ⟨gb252, 0, none⟩ = some (.slice Ao61 t244.length co61) := (blk_cell BK252.out 0).trans rfl; have hcz68_1 : w66.cell? ⟨gb252, 1, none⟩ = some (.int .i64 (wrap64 (3 + (wrap64 (t248 * t250))))) := (blk_cell BK252.out 1).trans rfl; have hcz68_2 : w66.cell? ⟨gb252, 2, none⟩ = some (.slice none 0 0) := (blk_cell BK252.out 2).trans rfl; have hfz68_0 := blk_frozen BK252.out 0; have hfz68_1 := blk_frozen BK252.out 1; have hfz68_2 := blk_frozen BK252.out 2) | ((with_reducible refine gate_callee (f := 63) rfl ?_); refine goesL_ (some 25) rfl rfl Try.func63 (by kernel_rfl) rfl #[.pointer (some ⟨g, 0, none⟩), .int .i64 a1] rfl mpq ?_; (with_reducible refine (spec_l20Rd_odd.calls k g s0_0 t256 a1 true t258 w0 _ ?side1 ?side2 A7.out).mono ?_); (case side1 => exact IsS73.q HI0.out); (case side2 => exact hbqs HB.out (IsS73.ge HI0.out)); rintro e w69 ⟨rfl, hi, hb, hk⟩; refine ⟨_, rfl, ?_⟩; have n0_ := Aside0.mk (KeepBut.blk hk (g' := gb243) (o := .cells #[.slice none 0 0, .int .i64 0, .slice none 0 0] 26 (0, 0)) (by refine bkq ?_; refine blk_far ?_ NB243_252.out _; refine bkq ?_; exact BK243.out) NB243_0.out (by simp)); have n1_ := Aside0.mk (Kd.R_mono (Kd.R_keep (IsS73.apart (show IsS73 w0 _ g s0_0 t256 from IsS73.q HI0.out) (roq (Kd.R_mono (Kd.R_far (p := ⟨gb252, 2, none⟩) (Kd.R_types HO246.out BK252.out (by decide)) (fun _ hk => hk.2) (.slice Ao67 t253.length co67)) (fun _ h_ => h_.1))) (by decide)) hk (fun _ h => h.2)) (fun _ h => h.1)); have n2_ := Aside0.mk (KeepBut.blk hk (g' := gb252) (o := .cells #[.slice Ao61 t244.length co61, .int .i64 (wrap64 (3 + (wrap64 (t248 * t250)))), .slice Ao67 t253.length co67] 26 (0, 0)) (by refine bkq ?_; refine blk_put (cs := #[.slice Ao61 t244.length co61, .int .i64 (wrap64 (3 + (wrap64 (t248 * t250)))), .slice none 0 0]) ?_ 2 _ rfl; refine bkq ?_; exact BK252.out) NB252_0.out (by simp)); have n3_ := Aside0.mk (Kd.R_mono (Kd.R_keep (IsS73.apart (show IsS73 w0 _ g s0_0 t256 from IsS73.q HI0.out) (roq (Kd.R_mono (Kd.R_far (p := ⟨gb252, 2, none⟩) (Kd.R_types HO255.out BK252.out (by decide)) (fun _ hk => hk.2) (.slice Ao67 t253.length co67)) (fun _ h_ => h_.1))) (by decide)) hk (fun _ h => h.2)) (fun _ h => h.1)); have n4_ := Aside0.mk (KeepBut.trans (hkqa HK.out) hk (.inl rfl)); have n5_ := Aside0.mk (hb); have n6_ := Aside0.mk (hi); clear BK243 HO246 BK252 HO255 HK HB HI0; revert n0_ n1_ n2_ n3_ n4_ n5_ n6_; intro BK243 HO246 BK252 HO255 HK HB HI0; (try clear hb); (try clear hb2); (try clear hk); (try clear hi)) | ((with_reducible refine gate_callee (f := 62) rfl ?_); refine goesL_ (some 27) rfl rfl Try.func62 (by kernel_rfl) rfl #[.pointer (some ⟨g, 0, none⟩), .int .i64 3] rfl mpq ?_; (with_reducible refine (spec_l20Rd_pick.calls k g s0_0 t258 3 t259 t260 w0 _ ?side1 ?side2 A9.out).mono ?_); (case side1 => exact IsS73.q HI0.out); (case side2 => exact hbqs HB.out (IsS73.ge HI0.out)); rintro e w70 ⟨rfl, hi, hb, hk⟩; refine ⟨_, rfl, ?_⟩; have n0_ := Aside0.mk (KeepBut.blk hk (bkq BK243.out) NB243_0.out (by simp)); have n1_ := Aside0.mk (Kd.R_mono (Kd.R_keep (IsS73.apart (show IsS73 w0 _ g s0_0 t258 from IsS73.q HI0.out) (roq HO246.out) (by decide)) hk (fun _ h => h.2)) (fun _ h => h.1)); have n2_ := Aside0.mk (KeepBut.blk hk (bkq BK252.out) NB252_0.out (by simp)); have n3_ := Aside0.mk (Kd.R_mono (Kd.R_keep (IsS73.apart (show IsS73 w0 _ g s0_0 t258 from IsS73.q HI0.out) (roq HO255.out) (by decide)) hk (fun _ h => h.2)) (fun _ h => h.1)); have n4_ := Aside0.mk (KeepBut.trans (hkqa HK.out) hk (.inl rfl)); have n5_ := Aside0.mk (hb); have n6_ := Aside0.mk (hi); clear BK243 HO246 BK252 HO255 HK HB HI0; revert n0_ n1_ n2_ n3_ n4_ n5_ n6_; intro BK243 HO246 BK252 HO255 HK HB HI0; (try clear hb); (try clear hb2); (try clear hk); (try clear hi); have hnb71 := NB243_0.out; have hnc71 := NB0_243.out; have hcz72_0 : w70.cell? ⟨gb243, 0, none⟩ = some (.slice none 0 0) := (blk_cell BK243.out 0).trans rfl; have hcz72_1 : w70.cell? ⟨gb243, 1, none⟩ = some (.int .i64 0) := (blk_cell BK243.out 1).trans rfl; have hcz72_2 : w70.cell? ⟨gb243, 2, none⟩ = some (.slice none 0 0) := (blk_cell BK243.out 2).trans rfl; have hfz72_0 := blk_frozen BK243.out 0; have hfz72_1 := blk_frozen BK243.out 1; have hfz72_2 := blk_frozen BK243.out 2))
    refine bodyPost_ret (results_cell_row rfl _ _ gb243 26 #[.slice none 0 0, .int .i64 0, .slice none 0 0] (0, 0) _ rfl (by refine bkq ?_; refine blk_put (cs := #[.slice none 0 0, .int .i64 0, .slice none 0 0]) ?_ 2 _ rfl; refine bkq ?_; refine blk_put (cs := #[.slice none 0 0, .int .i64 0, .slice none 0 0]) ?_ 1 _ rfl; refine bkq ?_; refine blk_put (cs := #[.slice none 0 0, .int .i64 0, .slice none 0 0]) ?_ 0 _ rfl; refine bkq ?_; exact BK243.out) Try.underlying26 rfl (by kernel_rfl)) rfl ?_
    exact ⟨_, _, by first | rfl | (simp [errW_none, errW_some] <;> rfl) | (simp [*, errW_none, errW_some] <;> rfl), by first | exact Kd.R_nil _ _ _ _ _ | exact Kd.N_nil _ _ _ _ _ | exact Kd.V_nil _ _ _ _ _ | exact Kd.Q_nil _ _ _ _ _ | exact Kd.S_nil _ _ _ _ _, by first | exact Kd.R_nil _ _ _ _ _ | exact Kd.N_nil _ _ _ _ _ | exact Kd.V_nil _ _ _ _ _ | exact Kd.Q_nil _ _ _ _ _ | exact Kd.S_nil _ _ _ _ _, IsS73.q HI0.out, hbqs HB.out (IsS73.ge HI0.out), hkqa HK.out⟩
 ·replace c8 := Bool.eq_false_iff.mpr c8
  subst c8
  have H1 : (some (t244, wrap64 (3 + (wrap64 (t248 * t250))), t253, t258)) = some (r1, r2, r3, r4) := by rw [if_neg (show ¬ (false = true) by decide)] at H; exact H
  clear H
  have H := H1
  clear H1
  simp only [Option.some.injEq, Prod.mk.injEq] at H
  obtain ⟨rfl, rfl, rfl, rfl⟩ := H
  go_enter Try.func66, Try.ntmps66
  go_wp2_with (first | ((with_reducible refine gate_dst (N := 4) rfl ?_); refine box_event ?hg (N := 4) ?hd (cs := #[.slice none 0 0, .int .i64 0, .slice none 0 0]) (t := 26) ?hr ?_; (case hd => rfl); (case hg => rfl); (case hr => first | (go_simp; done) | (go_simp; rfl)); intro gb243 hg w73 hbox hb; have n0_ := Aside0.mk (IsS73.below (IsS73.q HI0.out) hb); have n1_ := Aside0.mk (KeepBut.trans (hkq HK.out) (KeepBut.of_below hb g none) (.inl rfl)); have n2_ := Aside0.mk (below_step (hbqs HB.out (IsS73.ge HI0.out)) hb); have n3_ := Aside0.mk (hbox); have n4_ := Aside0.mk ((by rw [hg]; exact (ksq (hkq HK.out)) : w.heap.size ≤ gb243)); have n5_ := Aside0.mk ((Nat.le_trans HW0.out (by rw [hg]; exact (ksq (hkq HK.out)) : w.heap.size ≤ gb243) : w0.heap.size ≤ gb243)); have n6_ := Aside0.mk ((by rw [hg]; exact Nat.ne_of_lt (IsS73.lt (show IsS73 w0 _ g s0_0 s0_1 from IsS73.q HI0.out)) : g ≠ gb243)); have n7_ := Aside0.mk ((by rw [hg]; exact Nat.ne_of_gt (IsS73.lt (show IsS73 w0 _ g s0_0 s0_1 from IsS73.q HI0.out)) : gb243 ≠ g)); clear HI0 HK HB; revert n0_ n1_ n2_ n3_ n4_ n5_ n6_ n7_; intro HI0 HK HB BK243 GW243 GE243 NB0_243 NB243_0; clear hb hbox hg) | ((with_reducible refine gate_callee (f := 72) rfl ?_); refine goesL_ (some 7) rfl rfl Try.func72 (by kernel_rfl) rfl #[.pointer (some ⟨g, 0, none⟩), .int .i64 0] rfl mpq ?_; (with_reducible refine (spec_l20Net.calls k g s0_0 s0_1 0 t244 t247 w0 _ ?side1 ?side2 A3.out).mono ?_); (case side1 => exact IsS73.q HI0.out); (case side2 => exact hbqs HB.out (IsS73.ge HI0.out)); rintro e w74 ⟨v245, rfl, ho0, hi, hb, hk⟩; refine ⟨_, rfl, ?_⟩; have n0_ := Aside0.mk (KeepBut.blk hk (bkq BK243.out) NB243_0.out (by simp)); have n1_ := Aside0.mk (Kd.R_lower ho0 (ksq (hkqa HK.out))); have n2_ := Aside0.mk (KeepBut.trans (hkqa HK.out) hk (.inl rfl)); have n3_ := Aside0.mk (hb); have n4_ := Aside0.mk (hi); clear BK243 HK HB HI0; revert n0_ n1_ n2_ n3_ n4_; intro BK243 HO246 HK HB HI0; (try clear hb); (try clear hb2); (try clear hk); (try clear hi); (try clear ho0)) | ((with_reducible refine gate_callee (f := 62) rfl ?_); refine goesL_ (some 9) rfl rfl Try.func62 (by kernel_rfl) rfl #[.pointer (some ⟨g, 0, none⟩), .int .i64 3] rfl mpq ?_; (with_reducible refine (spec_l20Rd_pick.calls k g s0_0 t247 3 t248 t249 w0 _ ?side1 ?side2 A4.out).mono ?_); (case side1 => exact IsS73.q HI0.out); (case side2 => exact hbqs HB.out (IsS73.ge HI0.out)); rintro e w75 ⟨rfl, hi, hb, hk⟩; refine ⟨_, rfl, ?_⟩; have n0_ := Aside0.mk (KeepBut.blk hk (bkq BK243.out) NB243_0.out (by simp)); have n1_ := Aside0.mk (Kd.R_mono (Kd.R_keep (IsS73.apart (show IsS73 w0 _ g s0_0 t247 from IsS73.q HI0.out) (roq HO246.out) (by decide)) hk (fun _ h => h.2)) (fun _ h => h.1)); have n2_ := Aside0.mk (KeepBut.trans (hkqa HK.out) hk (.inl rfl)); have n3_ := Aside0.mk (hb); have n4_ := Aside0.mk (hi); clear BK243 HO246 HK HB HI0; revert n0_ n1_ n2_ n3_ n4_; intro BK243 HO246 HK HB HI0; (try clear hb); (try clear hb2); (try clear hk); (try clear hi)) | ((with_reducible refine gate_callee (f := 62) rfl ?_); refine goesL_ (some 11) rfl rfl Try.func62 (by kernel_rfl) rfl #[.pointer (some ⟨g, 0, none⟩), .int .i64 2] rfl mpq ?_; (with_reducible refine (spec_l20Rd_pick.calls k g s0_0 t249 2 t250 t251 w0 _ ?side1 ?side2 A5.out).mono ?_); (case side1 => exact IsS73.q HI0.out); (case side2 => exact hbqs HB.out (IsS73.ge HI0.out)); rintro e w76 ⟨rfl, hi, hb, hk⟩; refine ⟨_, rfl, ?_⟩; have n0_ := Aside0.mk (KeepBut.blk hk (bkq BK243.out) NB243_0.out (by simp)); have n1_ := Aside0.mk (Kd.R_mono (Kd.R_keep (IsS73.apart (show IsS73 w0 _ g s0_0 t249 from IsS73.q HI0.out) (roq HO246.out) (by decide)) hk (fun _ h => h.2)) (fun _ h => h.1)); have n2_ := Aside0.mk (KeepBut.trans (hkqa HK.out) hk (.inl rfl)); have n3_ := Aside0.mk (hb); have n4_ := Aside0.mk (hi); clear BK243 HO246 HK HB HI0; revert n0_ n1_ n2_ n3_ n4_; intro BK243 HO246 HK HB HI0; (try clear hb); (try clear hb2); (try clear hk); (try clear hi); obtain ⟨Ao77, co77, eo77⟩ := Kd.R_slice HO246.out; subst eo77) | ((with_reducible refine gate_dst (N := 5) rfl ?_); refine box_event ?hg (N := 5) ?hd (cs := #[.slice none 0 0, .int .i64 0, .slice none 0 0]) (t := 26) ?hr ?_; (case hd => rfl); (case hg => rfl); (case hr => first | (go_simp; done) | (go_simp; rfl)); intro gb252 hg w78 hbox hb; have n0_ := Aside0.mk (Kd.R_below (roq HO246.out) hb); have n1_ := Aside0.mk (IsS73.below (IsS73.q HI0.out) hb); have n2_ := Aside0.mk (blk_below (bkq BK243.out) hb); have n3_ := Aside0.mk (KeepBut.trans (hkqa HK.out) (KeepBut.of_below hb g none) (.inl rfl)); have n4_ := Aside0.mk (below_step (hbqs HB.out (IsS73.ge HI0.out)) hb); have n5_ := Aside0.mk (hbox); have n6_ := Aside0.mk ((by rw [hg]; exact (ksq (hkqa HK.out)) : w.heap.size ≤ gb252)); have n7_ := Aside0.mk ((Nat.le_trans HW0.out (by rw [hg]; exact (ksq (hkqa HK.out)) : w.heap.size ≤ gb252) : w0.heap.size ≤ gb252)); have n8_ := Aside0.mk ((by rw [hg]; exact Nat.ne_of_lt (blk_lt (bkq BK243.out)) : gb243 ≠ gb252)); have n9_ := Aside0.mk ((by rw [hg]; exact Nat.ne_of_gt (blk_lt (bkq BK243.out)) : gb252 ≠ gb243)); have n10_ := Aside0.mk ((by rw [hg]; exact Nat.ne_of_lt (IsS73.lt (show IsS73 w0 _ g s0_0 t251 from IsS73.q HI0.out)) : g ≠ gb252)); have n11_ := Aside0.mk ((by rw [hg]; exact Nat.ne_of_gt (IsS73.lt (show IsS73 w0 _ g s0_0 t251 from IsS73.q HI0.out)) : gb252 ≠ g)); clear HO246 HI0 BK243 HK HB; revert n0_ n1_ n2_ n3_ n4_ n5_ n6_ n7_ n8_ n9_ n10_ n11_; intro HO246 HI0 BK243 HK HB BK252 GW252 GE252 NB243_252 NB252_243 NB0_252 NB252_0; clear hb hbox hg; have hnb79 := NB252_243.out; have hnc79 := NB243_252.out; have hnb80 := NB252_0.out; have hnc80 := NB0_252.out; have hcz81_0 : w78.cell? ⟨gb252, 0, none⟩ = some (.slice none 0 0) := (blk_cell BK252.out 0).trans rfl; have hcz81_1 : w78.cell? ⟨gb252, 1, none⟩ = some (.int .i64 0) := (blk_cell BK252.out 1).trans rfl; have hcz81_2 : w78.cell? ⟨gb252, 2, none⟩ = some (.slice none 0 0) := (blk_cell BK252.out 2).trans rfl; have hfz81_0 := blk_frozen BK252.out 0; have hfz81_1 := blk_frozen BK252.out 1; have hfz81_2 := blk_frozen BK252.out 2) | ((with_reducible refine gate_callee (f := 49) rfl ?_); refine goesL_ (some 21) rfl rfl Try.func49 (by kernel_rfl) rfl #[.pointer (some ⟨g, 0, none⟩), .int .i64 (t244.length : Int), .int .i64 (wrap64 (3 + (wrap64 (t248 * t250)))), .int .i64 0] rfl mpq ?_; (with_reducible refine (spec_l20State.calls k g s0_0 t251 (t244.length : Int) (wrap64 (3 + (wrap64 (t248 * t250)))) 0 t253 t256 w0 _ ?side1 ?side2 A6.out).mono ?_); (case side1 => exact IsS73.q HI0.out); (case side2 => exact hbqs HB.out (IsS73.ge HI0.out)); rintro e w82 ⟨v254, rfl, ho0, hi, hb, hk⟩; refine ⟨_, rfl, ?_⟩; have n0_ := Aside0.mk (KeepBut.blk hk (g' := gb243) (o := .cells #[.slice none 0 0, .int .i64 0, .slice none 0 0] 26 (0, 0)) (by refine bkq ?_; refine blk_far ?_ NB243_252.out _; refine bkq ?_; refine blk_far ?_ NB243_252.out _; refine bkq ?_; refine blk_far ?_ NB243_252.out _; refine bkq ?_; exact BK243.out) NB243_0.out (by simp)); have n1_ := Aside0.mk (Kd.R_mono (Kd.R_told (Kd.R_oldK (IsS73.apart (show IsS73 w0 _ g s0_0 t251 from IsS73.q HI0.out) (roq (Kd.R_mono (Kd.R_far (p := ⟨gb252, 2, none⟩) (Kd.R_far (p := ⟨gb252, 1, none⟩) (Kd.R_far (p := ⟨gb252, 0, none⟩) (Kd.R_types HO246.out BK252.out (by decide)) (fun _ hk => hk.2) (.slice Ao77 t244.length co77)) (fun _ hk => hk.2) (.int .i64 (wrap64 (3 + (wrap64 (t248 * t250)))))) (fun _ hk => hk.2) (.slice none 0 0)) (fun _ h_ => h_.1))) (by decide)) hk) (Kd.R_base ho0)) (fun _ h_ => h_.1)); have n2_ := Aside0.mk (KeepBut.blk hk (g' := gb252) (o := .cells #[.slice Ao77 t244.length co77, .int .i64 (wrap64 (3 + (wrap64 (t248 * t250)))), .slice none 0 0] 26 (0, 0)) (by refine bkq ?_; refine blk_put (cs := #[.slice Ao77 t244.length co77, .int .i64 (wrap64 (3 + (wrap64 (t248 * t250)))), .slice none 0 0]) ?_ 2 _ rfl; refine bkq ?_; refine blk_put (cs := #[.slice Ao77 t244.length co77, .int .i64 0, .slice none 0 0]) ?_ 1 _ rfl; refine bkq ?_; refine blk_put (cs := #[.slice none 0 0, .int .i64 0, .slice none 0 0]) ?_ 0 _ rfl; refine bkq ?_; exact BK252.out) NB252_0.out (by simp)); have n3_ := Aside0.mk (Kd.R_lower (Kd.R_new' ho0 (Kd.R_lt (roq (Kd.R_mono (Kd.R_far (p := ⟨gb252, 2, none⟩) (Kd.R_far (p := ⟨gb252, 1, none⟩) (Kd.R_far (p := ⟨gb252, 0, none⟩) (Kd.R_types HO246.out BK252.out (by decide)) (fun _ hk => hk.2) (.slice Ao77 t244.length co77)) (fun _ hk => hk.2) (.int .i64 (wrap64 (3 + (wrap64 (t248 * t250)))))) (fun _ hk => hk.2) (.slice none 0 0)) (fun _ h_ => h_.1))))) (ksq (hkqa HK.out))); have n4_ := Aside0.mk (KeepBut.trans (hkqa HK.out) hk (.inl rfl)); have n5_ := Aside0.mk (hb); have n6_ := Aside0.mk (hi); clear BK243 HO246 BK252 HK HB HI0; revert n0_ n1_ n2_ n3_ n4_ n5_ n6_; intro BK243 HO246 BK252 HO255 HK HB HI0; (try clear hb); (try clear hb2); (try clear hk); (try clear hi); (try clear ho0); obtain ⟨Ao83, co83, eo83⟩ := Kd.R_slice HO255.out; subst eo83; have hcz84_0 : w82.cell? ⟨gb252, 0, none⟩ = some (.slice Ao77 t244.length co77) := (blk_cell BK252.out 0).trans rfl; have hcz84_1 : w82.cell? ⟨gb252, 1, none⟩ = some (.int .i64 (wrap64 (3 + (wrap64 (t248 * t250))))) := (blk_cell BK252.out 1).trans rfl; have hcz84_2 : w82.cell? ⟨gb252, 2, none⟩ = some (.slice none 0 0) := (blk_cell BK252.out 2).trans rfl; have hfz84_0 := blk_frozen BK252.out 0; have hfz84_1 := blk_frozen BK252.out 1; have hfz84_2 := blk_frozen BK252.out 2) | ((with_reducible refine gate_callee (f := 63) rfl ?_); refine goesL_ (some 25) rfl rfl Try.func63 (by kernel_rfl) rfl #[.pointer (some ⟨g, 0, none⟩), .int .i64 a1] rfl mpq ?_; (with_reducible refine (spec_l20Rd_odd.calls k g s0_0 t256 a1 false t258 w0 _ ?side1 ?side2 A7.out).mono ?_); (case side1 => exact IsS73.q HI0.out); (case side2 => exact hbqs HB.out (IsS73.ge HI0.out)); rintro e w85 ⟨rfl, hi, hb, hk⟩; refine ⟨_, rfl, ?_⟩; have n0_ := Aside0.mk (KeepBut.blk hk (g' := gb243) (o := .cells #[.slice none 0 0, .int .i64 0, .slice none 0 0] 26 (0, 0)) (by refine bkq ?_; refine blk_far ?_ NB243_252.out _; refine bkq ?_; exact BK243.out) NB243_0.out (by simp)); have n1_ := Aside0.mk (Kd.R_mono (Kd.R_keep (IsS73.apart (show IsS73 w0 _ g s0_0 t256 from IsS73.q HI0.out) (roq (Kd.R_mono (Kd.R_far (p := ⟨gb252, 2, none⟩) (Kd.R_types HO246.out BK252.out (by decide)) (fun _ hk => hk.2) (.slice Ao83 t253.length co83)) (fun _ h_ => h_.1))) (by decide)) hk (fun _ h => h.2)) (fun _ h => h.1)); have n2_ := Aside0.mk (KeepBut.blk hk (g' := gb252) (o := .cells #[.slice Ao77 t244.length co77, .int .i64 (wrap64 (3 + (wrap64 (t248 * t250)))), .slice Ao83 t253.length co83] 26 (0, 0)) (by refine bkq ?_; refine blk_put (cs := #[.slice Ao77 t244.length co77, .int .i64 (wrap64 (3 + (wrap64 (t248 * t250)))), .slice none 0 0]) ?_ 2 _ rfl; refine bkq ?_; exact BK252.out) NB252_0.out (by simp)); have n3_ := Aside0.mk (Kd.R_mono (Kd.R_keep (IsS73.apart (show IsS73 w0 _ g s0_0 t256 from IsS73.q HI0.out) (roq (Kd.R_mono (Kd.R_far (p := ⟨gb252, 2, none⟩) (Kd.R_types HO255.out BK252.out (by decide)) (fun _ hk => hk.2) (.slice Ao83 t253.length co83)) (fun _ h_ => h_.1))) (by decide)) hk (fun _ h => h.2)) (fun _ h => h.1)); have n4_ := Aside0.mk (KeepBut.trans (hkqa HK.out) hk (.inl rfl)); have n5_ := Aside0.mk (hb); have n6_ := Aside0.mk (hi); clear BK243 HO246 BK252 HO255 HK HB HI0; revert n0_ n1_ n2_ n3_ n4_ n5_ n6_; intro BK243 HO246 BK252 HO255 HK HB HI0; (try clear hb); (try clear hb2); (try clear hk); (try clear hi); have hcz86_0 : w85.cell? ⟨gb252, 0, none⟩ = some (.slice Ao77 t244.length co77) := (blk_cell BK252.out 0).trans rfl; have hcz86_1 : w85.cell? ⟨gb252, 1, none⟩ = some (.int .i64 (wrap64 (3 + (wrap64 (t248 * t250))))) := (blk_cell BK252.out 1).trans rfl; have hcz86_2 : w85.cell? ⟨gb252, 2, none⟩ = some (.slice Ao83 t253.length co83) := (blk_cell BK252.out 2).trans rfl; have hfz86_0 := blk_frozen BK252.out 0; have hfz86_1 := blk_frozen BK252.out 1; have hfz86_2 := blk_frozen BK252.out 2; have hnb87 := NB243_0.out; have hnc87 := NB0_243.out; have hcz88_0 : w85.cell? ⟨gb243, 0, none⟩ = some (.slice none 0 0) := (blk_cell BK243.out 0).trans rfl; have hcz88_1 : w85.cell? ⟨gb243, 1, none⟩ = some (.int .i64 0) := (blk_cell BK243.out 1).trans rfl; have hcz88_2 : w85.cell? ⟨gb243, 2, none⟩ = some (.slice none 0 0) := (blk_cell BK243.out 2).trans rfl; have hfz88_0 := blk_frozen BK243.out 0; have hfz88_1 := blk_frozen BK243.out 1; have hfz88_2 := blk_frozen BK243.out 2))
  refine bodyPost_ret (results_cell_row rfl _ _ gb243 26 #[.slice Ao77 t244.length co77, .int .i64 (wrap64 (3 + (wrap64 (t248 * t250)))), .slice Ao83 t253.length co83] (0, 0) _ rfl (by refine bkq ?_; refine blk_put (cs := #[.slice Ao77 t244.length co77, .int .i64 (wrap64 (3 + (wrap64 (t248 * t250)))), .slice none 0 0]) ?_ 2 _ rfl; refine bkq ?_; refine blk_put (cs := #[.slice Ao77 t244.length co77, .int .i64 0, .slice none 0 0]) ?_ 1 _ rfl; refine bkq ?_; refine blk_put (cs := #[.slice none 0 0, .int .i64 0, .slice none 0 0]) ?_ 0 _ rfl; refine bkq ?_; exact BK243.out) Try.underlying26 rfl (by kernel_rfl)) rfl ?_
  exact ⟨_, _, by first | rfl | (simp [errW_none, errW_some] <;> rfl) | (simp [*, errW_none, errW_some] <;> rfl), by refine roq ?_; exact Kd.R_mono (Kd.R_far (p := ⟨gb243, 2, none⟩) (Kd.R_far (p := ⟨gb243, 1, none⟩) (Kd.R_far (p := ⟨gb243, 0, none⟩) (Kd.R_types HO246.out BK243.out (by decide)) (fun _ hk => hk.2) (.slice Ao77 t244.length co77)) (fun _ hk => hk.2) (.int .i64 (wrap64 (3 + (wrap64 (t248 * t250)))))) (fun _ hk => hk.2) (.slice Ao83 t253.length co83)) (fun _ hk => hk.1.2), by refine roq ?_; exact Kd.R_mono (Kd.R_far (p := ⟨gb243, 2, none⟩) (Kd.R_far (p := ⟨gb243, 1, none⟩) (Kd.R_far (p := ⟨gb243, 0, none⟩) (Kd.R_types HO255.out BK243.out (by decide)) (fun _ hk => hk.2) (.slice Ao77 t244.length co77)) (fun _ hk => hk.2) (.int .i64 (wrap64 (3 + (wrap64 (t248 * t250)))))) (fun _ hk => hk.2) (.slice Ao83 t253.length co83)) (fun _ hk => hk.1.2), IsS73.q HI0.out, hbqs HB.out (IsS73.ge HI0.out), hkqa HK.out⟩

end Go.Proofs.Ytnhgiincboocaaa.PFnDeskOk
