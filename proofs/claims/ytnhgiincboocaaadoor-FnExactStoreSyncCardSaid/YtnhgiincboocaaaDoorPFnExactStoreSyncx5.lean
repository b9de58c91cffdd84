-- written by wip/tools/pstub.py (my own program, over the kit's print)
import Derived.Test.YtnhgiincboocaaaDoorPFnExactStoreSyncx0
import Derived.Test.YtnhgiincboocaaaDoorPFnExactStoreSyncx1
import Derived.Test.YtnhgiincboocaaaDoorPFnExactStoreSyncx4
namespace Go.Proofs.YtnhgiincboocaaaDoor.PFnExactStoreSync
open Go.RowKit Go.Proofs.YtnhgiincboocaaaDoorW.PrintWords Go.Proofs.YtnhgiincboocaaaDoorW.PrintLast Go.Proofs.YtnhgiincboocaaaDoorW.PrintMore
attribute [local go_sem] max2_int min2_int max_two min_two max_three min_three max_four min_four   -- for this text's walks alone
set_option linter.unusedVariables false
set_option linter.unusedSimpArgs false

/-! ### spec_ReadPlace: function 16 -/
mutual
def spec_ReadPlace.j0 : Nat → ByteArray → List ByteArray → Bool → Option (List Int × Int × List Int × Bool)
  | 0, _, _, _ => none
  | k + 1, x0, x4, x23 => if x23 = true then (some (([] : List Int), 0, ([] : List Int), false)) else (if 0 < (x4.length : Int) then ((spec_l1Digits.f k (rdOf ByteArray.empty x4 0)).bind fun t159 => (if 0 ≤ t159 then (if (t159 : Int).toNat ≤ 35184372088832 then (if 2 < (x4.length : Int) then ((spec_l1Digits.f k (rdOf ByteArray.empty x4 2)).bind fun t164 => (if 1 < (x4.length : Int) then ((spec_l1Cut.f k (rdOf ByteArray.empty x4 1) 44).bind fun t167 => (spec_ReadPlace.l0 k x0 x4 t167 0 (List.replicate (t159 : Int).toNat 0) t164)) else (none))) else (none)) else (none)) else (none))) else (none))
def spec_ReadPlace.l0 : Nat → ByteArray → List ByteArray → List ByteArray → Int → List Int → Int → Option (List Int × Int × List Int × Bool)
  | 0, _, _, _, _, _, _ => none
  | k + 1, x0, x4, x6, x7, x166000, x166001 => if x7 < (x6.length : Int) then (if 1 < (x4.length : Int) then (spec_ReadPlace.j2 k x0 x4 x6 x7 ((rdOf ByteArray.empty x4 1).toList != ([46] : List UInt8)) x166000 x166001) else (none)) else (spec_ReadPlace.j2 k x0 x4 x6 x7 false x166000 x166001)
def spec_ReadPlace.j2 : Nat → ByteArray → List ByteArray → List ByteArray → Int → Bool → List Int → Int → Option (List Int × Int × List Int × Bool)
  | 0, _, _, _, _, _, _, _ => none
  | k + 1, x0, x4, x6, x7, x48, x166000, x166001 => if x48 = true then (if 0 ≤ x7 then (if x7 < (x6.length : Int) then (if ((rdOf ByteArray.empty x6 x7).size : Int) = 2 then (if 0 < ((rdOf ByteArray.empty x6 x7).size : Int) then (if 1 < ((rdOf ByteArray.empty x6 x7).size : Int) then ((spec_l1In.f (wrap64 ((wrap64 (bt (rdOf ByteArray.empty x6 x7) 0)) - 48)) 0 (wrap64 ((x166000.length : Int) - 1))).bind fun t174 => (if t174 = true then ((spec_l1In.f (wrap64 ((wrap64 (bt (rdOf ByteArray.empty x6 x7) 1)) - 48)) 0 (wrap64 ((x166000.length : Int) - 1))).bind fun t175 => (if t175 = true then (if 0 ≤ (wrap64 ((wrap64 (bt (rdOf ByteArray.empty x6 x7) 0)) - 48)) then (if (wrap64 ((wrap64 (bt (rdOf ByteArray.empty x6 x7) 0)) - 48)) < (x166000.length : Int) then (if 0 ≤ (wrap64 ((wrap64 (bt (rdOf ByteArray.empty x6 x7) 1)) - 48)) then ((some (x166000.set ((wrap64 ((wrap64 (bt (rdOf ByteArray.empty x6 x7) 0)) - 48)) : Int).toNat (Go.bits .or .i64 (rd x166000 (wrap64 ((wrap64 (bt (rdOf ByteArray.empty x6 x7) 0)) - 48))) (shl .i64 1 (wrap64 ((wrap64 (bt (rdOf ByteArray.empty x6 x7) 1)) - 48)))) : List Int)).bind fun y177 => (if (wrap64 ((wrap64 (bt (rdOf ByteArray.empty x6 x7) 1)) - 48)) < (x166000.length : Int) then (spec_ReadPlace.l0 k x0 x4 x6 (wrap64 (x7 + 1)) (y177.set ((wrap64 ((wrap64 (bt (rdOf ByteArray.empty x6 x7) 1)) - 48)) : Int).toNat (Go.bits .or .i64 (rd y177 (wrap64 ((wrap64 (bt (rdOf ByteArray.empty x6 x7) 1)) - 48))) (shl .i64 1 (wrap64 ((wrap64 (bt (rdOf ByteArray.empty x6 x7) 0)) - 48))))) x166001) else (none))) else (none)) else (none)) else (none)) else (some (([] : List Int), 0, ([] : List Int), false)))) else (some (([] : List Int), 0, ([] : List Int), false)))) else (none)) else (none)) else (some (([] : List Int), 0, ([] : List Int), false))) else (none)) else (none)) else (spec_ReadPlace.l1 k x0 x4 0 x166000 x166001 ([] : List Int))
def spec_ReadPlace.l1 : Nat → ByteArray → List ByteArray → Int → List Int → Int → List Int → Option (List Int × Int × List Int × Bool)
  | 0, _, _, _, _, _, _ => none
  | k + 1, x0, x4, x10, x166000, x166001, x166002 => if 3 < (x4.length : Int) then (if x10 < ((rdOf ByteArray.empty x4 3).size : Int) then (if 0 ≤ x10 then (if x166002.length < 17592186044416 then (spec_ReadPlace.l1 k x0 x4 (wrap64 (x10 + 1)) x166000 x166001 (x166002 ++ [wrap64 ((wrap64 (bt (rdOf ByteArray.empty x4 3) x10)) - 48)])) else (none)) else (none)) else ((spec_PlaceText.f k x166000 x166001 x166002).bind fun t185 => (if t185.toList = x0.toList then (some (x166000, x166001, x166002, true)) else (some (([] : List Int), 0, ([] : List Int), false))))) else (none)
end
def spec_ReadPlace.f (k : Nat) (a0 : ByteArray) : Option (List Int × Int × List Int × Bool) := (spec_l1Cut.f k a0 32).bind fun t152 => (if (t152.length : Int) = 4 then (if 0 < (t152.length : Int) then ((spec_l1Digits.f k (rdOf ByteArray.empty t152 0)).bind fun t156 => ((spec_l1In.f t156 1 6).bind fun t157 => (spec_ReadPlace.j0 k a0 t152 (!t157)))) else (none)) else (spec_ReadPlace.j0 k a0 t152 true))
theorem spec_ReadPlace.mono_l : ∀ k, (∀ y0 y1 y2, LeO (spec_ReadPlace.j0 k y0 y1 y2) (spec_ReadPlace.j0 (k + 1) y0 y1 y2)) ∧ (∀ y0 y1 y2 y3 y4 y5, LeO (spec_ReadPlace.l0 k y0 y1 y2 y3 y4 y5) (spec_ReadPlace.l0 (k + 1) y0 y1 y2 y3 y4 y5)) ∧ (∀ y0 y1 y2 y3 y4 y5 y6, LeO (spec_ReadPlace.j2 k y0 y1 y2 y3 y4 y5 y6) (spec_ReadPlace.j2 (k + 1) y0 y1 y2 y3 y4 y5 y6)) ∧ (∀ y0 y1 y2 y3 y4 y5, LeO (spec_ReadPlace.l1 k y0 y1 y2 y3 y4 y5) (spec_ReadPlace.l1 (k + 1) y0 y1 y2 y3 y4 y5))
  | 0 => ⟨fun _ _ _ r h => by simp [spec_ReadPlace.j0] at h, fun _ _ _ _ _ _ r h => by simp [spec_ReadPlace.l0] at h, fun _ _ _ _ _ _ _ r h => by simp [spec_ReadPlace.j2] at h, fun _ _ _ _ _ _ r h => by simp [spec_ReadPlace.l1] at h⟩
  | k + 1 => by
    obtain ⟨ih0, ih1, ih2, ih3⟩ := spec_ReadPlace.mono_l k
    refine ⟨?_, ?_, ?_, ?_⟩
    · intro y0 y1 y2
      unfold spec_ReadPlace.j0
      repeat' first
      | (with_reducible exact ih0 _ _ _)
      | (with_reducible exact ih1 _ _ _ _ _ _)
      | (with_reducible exact ih2 _ _ _ _ _ _ _)
      | (with_reducible exact ih3 _ _ _ _ _ _)
      | (with_reducible exact spec_PlaceText.mono _ _ _ _)
      | (with_reducible exact spec_l1Cut.mono _ _ _)
      | (with_reducible exact spec_l1Digits.mono _ _)
      | (with_reducible exact LeO.refl _)
      | (with_reducible exact LeO.none _)
      | (with_reducible refine LeO.ite ?_ ?_)
      | (with_reducible refine LeO.bind ?_ (fun _ => ?_))
      | exact ih0 _ _ _
      | exact ih1 _ _ _ _ _ _
      | exact ih2 _ _ _ _ _ _ _
      | exact ih3 _ _ _ _ _ _
      | exact spec_PlaceText.mono _ _ _ _
      | exact spec_l1Cut.mono _ _ _
      | exact spec_l1Digits.mono _ _
      | exact LeO.none _
      | refine LeO.ite ?_ ?_
      | refine LeO.bind ?_ (fun _ => ?_)
    · intro y0 y1 y2 y3 y4 y5
      unfold spec_ReadPlace.l0
      repeat' first
      | (with_reducible exact ih0 _ _ _)
      | (with_reducible exact ih1 _ _ _ _ _ _)
      | (with_reducible exact ih2 _ _ _ _ _ _ _)
      | (with_reducible exact ih3 _ _ _ _ _ _)
      | (with_reducible exact spec_PlaceText.mono _ _ _ _)
      | (with_reducible exact spec_l1Cut.mono _ _ _)
      | (with_reducible exact spec_l1Digits.mono _ _)
      | (with_reducible exact LeO.refl _)
      | (with_reducible exact LeO.none _)
      | (with_reducible refine LeO.ite ?_ ?_)
      | (with_reducible refine LeO.bind ?_ (fun _ => ?_))
      | exact ih0 _ _ _
      | exact ih1 _ _ _ _ _ _
      | exact ih2 _ _ _ _ _ _ _
      | exact ih3 _ _ _ _ _ _
      | exact spec_PlaceText.mono _ _ _ _
      | exact spec_l1Cut.mono _ _ _
      | exact spec_l1Digits.mono _ _
      | exact LeO.none _
      | refine LeO.ite ?_ ?_
      | refine LeO.bind ?_ (fun _ => ?_)
    · intro y0 y1 y2 y3 y4 y5 y6
      unfold spec_ReadPlace.j2
      repeat' first
      | (with_reducible exact ih0 _ _ _)
      | (with_reducible exact ih1 _ _ _ _ _ _)
      | (with_reducible exact ih2 _ _ _ _ _ _ _)
      | (with_reducible exact ih3 _ _ _ _ _ _)
      | (with_reducible exact spec_PlaceText.mono _ _ _ _)
      | (with_reducible exact spec_l1Cut.mono _ _ _)
      | (with_reducible exact spec_l1Digits.mono _ _)
      | (with_reducible exact LeO.refl _)
      | (with_reducible exact LeO.none _)
      | (with_reducible refine LeO.ite ?_ ?_)
      | (with_reducible refine LeO.bind ?_ (fun _ => ?_))
      | exact ih0 _ _ _
      | exact ih1 _ _ _ _ _ _
      | exact ih2 _ _ _ _ _ _ _
      | exact ih3 _ _ _ _ _ _
      | exact spec_PlaceText.mono _ _ _ _
      | exact spec_l1Cut.mono _ _ _
      | exact spec_l1Digits.mono _ _
      | exact LeO.none _
      | refine LeO.ite ?_ ?_
      | refine LeO.bind ?_ (fun _ => ?_)
    · intro y0 y1 y2 y3 y4 y5
      unfold spec_ReadPlace.l1
      repeat' first
      | (with_reducible exact ih0 _ _ _)
      | (with_reducible exact ih1 _ _ _ _ _ _)
      | (with_reducible exact ih2 _ _ _ _ _ _ _)
      | (with_reducible exact ih3 _ _ _ _ _ _)
      | (with_reducible exact spec_PlaceText.mono _ _ _ _)
      | (with_reducible exact spec_l1Cut.mono _ _ _)
      | (with_reducible exact spec_l1Digits.mono _ _)
      | (with_reducible exact LeO.refl _)
      | (with_reducible exact LeO.none _)
      | (with_reducible refine LeO.ite ?_ ?_)
      | (with_reducible refine LeO.bind ?_ (fun _ => ?_))
      | exact ih0 _ _ _
      | exact ih1 _ _ _ _ _ _
      | exact ih2 _ _ _ _ _ _ _
      | exact ih3 _ _ _ _ _ _
      | exact spec_PlaceText.mono _ _ _ _
      | exact spec_l1Cut.mono _ _ _
      | exact spec_l1Digits.mono _ _
      | exact LeO.none _
      | refine LeO.ite ?_ ?_
      | refine LeO.bind ?_ (fun _ => ?_)
theorem spec_ReadPlace.mono : ∀ a0 k, LeO (spec_ReadPlace.f k a0) (spec_ReadPlace.f (k + 1) a0) := by
  intro a0 k
  obtain ⟨ih0, ih1, ih2, ih3⟩ := spec_ReadPlace.mono_l k
  unfold spec_ReadPlace.f
  repeat' first
      | (with_reducible exact ih0 _ _ _)
      | (with_reducible exact ih1 _ _ _ _ _ _)
      | (with_reducible exact ih2 _ _ _ _ _ _ _)
      | (with_reducible exact ih3 _ _ _ _ _ _)
      | (with_reducible exact spec_PlaceText.mono _ _ _ _)
      | (with_reducible exact spec_l1Cut.mono _ _ _)
      | (with_reducible exact spec_l1Digits.mono _ _)
      | (with_reducible exact LeO.refl _)
      | (with_reducible exact LeO.none _)
      | (with_reducible refine LeO.ite ?_ ?_)
      | (with_reducible refine LeO.bind ?_ (fun _ => ?_))
      | exact ih0 _ _ _
      | exact ih1 _ _ _ _ _ _
      | exact ih2 _ _ _ _ _ _ _
      | exact ih3 _ _ _ _ _ _
      | exact spec_PlaceText.mono _ _ _ _
      | exact spec_l1Cut.mono _ _ _
      | exact spec_l1Digits.mono _ _
      | exact LeO.none _
      | refine LeO.ite ?_ ?_
      | refine LeO.bind ?_ (fun _ => ?_)
def spec_ReadPlace.T4 : Bool × List (List Nat × List Nat) := (true, [([], []), ([0], [0]), ([1], [1]), ([2], [2]), ([3, 3], [3]), ([], []), ([5], [5]), ([6], [6]), ([7, 3], [7]), ([4, 8], [4, 8]), ([], []), ([10, 9, 8, 0, 1, 2, 3, 4, 5, 6, 7, 8, 9, 10], [9, 10])])
def spec_ReadPlace.B4 : List Nat := [0, 1, 3, 7, 15, 0, 32, 96, 239, 511, 0, 2047]
theorem spec_ReadPlace.tab4 : rtab .any (opsOf Tryd.f16 4) = spec_ReadPlace.T4 := by kernel_rfl
theorem spec_ReadPlace.bits4 : waitsOk spec_ReadPlace.T4.2 spec_ReadPlace.B4 = true := by kernel_rfl
def spec_ReadPlace.T15 : Bool × List (List Nat × List Nat) := (true, [([], []), ([0], [0]), ([], []), ([], []), ([3], [3]), ([], []), ([4, 5], [4, 5]), ([6], [6]), ([], []), ([8], [8]), ([7, 9], [7, 9]), ([1, 2, 0, 1, 2, 3, 4, 5, 6, 7, 8, 9, 10], [1, 2]), ([11, 10, 0, 1, 2, 3, 4, 5, 6, 7, 8, 9, 10], [10, 11])])
def spec_ReadPlace.B15 : List Nat := [0, 1, 0, 0, 8, 0, 56, 120, 0, 256, 1016, 2047, 4095]
theorem spec_ReadPlace.tab15 : rtab .any (opsOf Tryd.f16 15) = spec_ReadPlace.T15 := by kernel_rfl
theorem spec_ReadPlace.bits15 : waitsOk spec_ReadPlace.T15.2 spec_ReadPlace.B15 = true := by kernel_rfl
def spec_ReadPlace.T16 : Bool × List (List Nat × List Nat) := (true, [([], []), ([0], [0]), ([], []), ([], []), ([3], [3]), ([], []), ([4, 5], [4, 5]), ([6], [6]), ([], []), ([8], [8]), ([7, 9], [7, 9]), ([1, 2, 0, 1, 2, 3, 4, 5, 6, 7, 8, 9, 10], [1, 2]), ([11, 10, 0, 1, 2, 3, 4, 5, 6, 7, 8, 9, 10], [10, 11])])
def spec_ReadPlace.B16 : List Nat := [0, 1, 0, 0, 8, 0, 56, 120, 0, 256, 1016, 2047, 4095]
theorem spec_ReadPlace.tab16 : rtab .any (opsOf Tryd.f16 16) = spec_ReadPlace.T16 := by kernel_rfl
theorem spec_ReadPlace.bits16 : waitsOk spec_ReadPlace.T16.2 spec_ReadPlace.B16 = true := by kernel_rfl
def spec_ReadPlace.T20 : Bool × List (List Nat × List Nat) := (true, [([], []), ([0], [0]), ([], []), ([2], [2]), ([3], [3]), ([], []), ([4, 5], [4, 5]), ([6], [6]), ([7], [7]), ([8], [8]), ([1, 9], [1, 9]), ([0, 1, 2, 3, 4, 5, 6, 7, 8, 9, 10], []), ([11, 10, 10, 0, 1, 2, 3, 4, 5, 6, 7, 8, 9, 10], [10, 11])])
def spec_ReadPlace.B20 : List Nat := [0, 1, 0, 4, 12, 0, 60, 124, 252, 508, 1023, 2047, 4095]
theorem spec_ReadPlace.tab20 : rtab .any (opsOf Tryd.f16 20) = spec_ReadPlace.T20 := by kernel_rfl
theorem spec_ReadPlace.bits20 : waitsOk spec_ReadPlace.T20.2 spec_ReadPlace.B20 = true := by kernel_rfl
set_option maxHeartbeats 8000000 in
set_option maxRecDepth 100000 in
theorem spec_ReadPlace.calls (k : Nat) (a0 : ByteArray) (r1 : List Int) (r2 : Int) (r3 : List Int) (r4 : Bool) (w : World) (h : spec_ReadPlace.f k a0 = some (r1, r2, r3, r4)) :
    Calls Tryd.prog 16 #[.string a0] w fun e w' => ∃ v0_ v2_ : Value, e = .returned (.tuple #[.agg #[v0_, .int .i64 r2, v2_], .bool r4]) ∧ Kd.R (Kd.int .i64) 3 w' w.heap.size (fun k_ => some k_ ≠ (v2_ : Value).ownBlock) v0_ r1 ∧ Kd.R (Kd.int .i64) 3 w' w.heap.size (fun k_ => some k_ ≠ (v0_ : Value).ownBlock) v2_ r3 ∧ Below w.heap.size w w' := by
  have hu36 := Tryd.underlying36
  have HB := Aside0.mk (Below.refl w.heap.size w)
  have H : ((spec_l1Cut.f k a0 32).bind fun t152 => (if (t152.length : Int) = 4 then (if 0 < (t152.length : Int) then ((spec_l1Digits.f k (rdOf ByteArray.empty t152 0)).bind fun t156 => ((spec_l1In.f t156 1 6).bind fun t157 => (spec_ReadPlace.j0 k a0 t152 (!t157)))) else (none)) else (spec_ReadPlace.j0 k a0 t152 true))) = some (r1, r2, r3, r4) := h
  clear h
  replace H := Option.bind_eq_some_iff.mp H
  obtain ⟨t152, A20, H⟩ := H
  replace H : (if (t152.length : Int) = 4 then (if 0 < (t152.length : Int) then ((spec_l1Digits.f k (rdOf ByteArray.empty t152 0)).bind fun t156 => ((spec_l1In.f t156 1 6).bind fun t157 => (spec_ReadPlace.j0 k a0 t152 (!t157)))) else (none)) else (spec_ReadPlace.j0 k a0 t152 true)) = some (r1, r2, r3, r4) := H
  have A2 := Aside0.mk A20
  clear A20
  have HC3 := Aside0.mk H
  clear H
  go_enter Tryd.func16, Tryd.ntmps16
  go_upto_region 2 with (first | ((with_reducible refine gate_dst (N := 2) rfl ?_); (try (refine gate_guard (by rfl) ?_; dsimp only)); refine box_event ?hg (N := 2) ?hd (cs := #[.slice none 0 0, .int .i64 0, .slice none 0 0]) (t := 36) ?hr ?_; (case hd => rfl); (case hg => rfl); (case hr => first | (go_simp; done) | (go_simp; rfl)); intro gb151 hg w4 hbox hb; have n0_ := Aside0.mk (below_step (by repeat (first | (with_reducible first | exact HB.out | apply below_alloc | apply pw_below_drewN | apply below_drew1) | exact HB.out)) hb); have n1_ := Aside0.mk (hbox); have n2_ := Aside0.mk ((by rw [hg]; exact (below_size (by repeat (first | (with_reducible first | exact HB.out | apply below_alloc | apply pw_below_drewN | apply below_drew1) | exact HB.out))) : w.heap.size ≤ gb151)); have n3_ := Aside0.mk ((by rw [hg]; exact (below_size (by repeat (first | (with_reducible first | exact HB.out | apply below_alloc | apply pw_below_drewN | apply below_drew1) | exact HB.out))) : w.heap.size ≤ gb151)); clear HB; have HB := n0_; have BK151 := n1_; have GW151 := n2_; have GE151 := n3_; clear n0_ n1_ n2_ n3_; clear hb hbox hg) | ((with_reducible refine gate_callee (f := 22) rfl ?_); refine goesL_ (some 12) rfl rfl Tryd.func22 (by kernel_rfl) rfl #[.string a0, .int .u8 32] rfl (by (try simp only [List.map_toArray, List.map_cons, List.map_nil]); first | done | rfl | (simp only [List.length_drop, List.length_take]; rfl)) ?_; (with_reducible refine (spec_l1Cut.calls k a0 32 t152 _ A2.out).mono ?_); rintro e w5 ⟨v153, rfl, ho0, hb⟩; refine ⟨_, rfl, ?_⟩; have n0_ := Aside0.mk (Kd.R_lower ho0 (below_size (by repeat (first | (with_reducible first | exact HB.out | apply below_alloc | apply pw_below_drewN | apply below_drew1 | refine below_set ?_ GE151.out) | exact HB.out)))); have n1_ := Aside0.mk (blk_below (g := gb151) (o := .cells #[.slice none 0 0, .int .i64 0, .slice none 0 0] 36 (0, 0)) (by (with_reducible repeat (first | refine blk_drewN ?_ _ | refine blk_drew ?_ | refine blk_alloc ?_ _)); exact BK151.out) hb); have n2_ := Aside0.mk (below_step (by repeat (first | (with_reducible first | exact HB.out | apply below_alloc | apply pw_below_drewN | apply below_drew1 | refine below_set ?_ GE151.out) | exact HB.out)) hb); clear BK151; clear HB; have HO154 := n0_; have BK151 := n1_; have HB := n2_; clear n0_ n1_ n2_; (try clear hb); (try clear hb2); (try clear hk); (try clear hi); (try clear ho0)))
  (try simp only [Act.put, List.setIfInBounds_toArray, List.set_cons_zero, List.set_cons_succ])
  go_cut [23] (fun v23 wc => ∃ (kq : Nat) (x23_2 : Bool), v23 = .bool x23_2 ∧ Aside0 (spec_ReadPlace.j0 kq a0 t152 x23_2 = some (r1, r2, r3, r4)) ∧ Aside0 (kq ≤ k) ∧ Aside0 (Kd.R Kd.string 9 wc w.heap.size (fun _ => True) v153 t152) ∧ Aside0 (wc.heap[gb151]? = some (.cells #[(.slice none 0 0), .int .i64 0, (.slice none 0 0)] 36 (0, 0))) ∧ Aside0 (Below w.heap.size w wc))
  case first =>
    have H := HC3.out
    clear HC3
    by_cases c6 : (t152.length : Int) = 4
    · rw [if_pos c6] at H
      have c6b0 : ((t152.length : Int) == 4) = true := beq_iff_eq.mpr c6
      have c6b1 : ((t152.length : Int) != 4) = false := bne_eq_false_iff_eq.mpr c6
      clear c6
      (first | rw [c6b0] | (simp only [i64_w, i32_w]; rw [c6b0]) | skip)
      by_cases c7 : 0 < (t152.length : Int)
      · rw [if_pos c7] at H
        have c7b0 : decide (0 < (t152.length : Int)) = true := decide_eq_true c7
        have c7b1 : decide (0 < t152.length) = true := decide_eq_true (by omega)
        clear c7
        replace H := Option.bind_eq_some_iff.mp H
        obtain ⟨t156, A80, H⟩ := H
        replace H : ((spec_l1In.f t156 1 6).bind fun t157 => (spec_ReadPlace.j0 k a0 t152 (!t157))) = some (r1, r2, r3, r4) := H
        have A8 := Aside0.mk A80
        clear A80
        replace H := Option.bind_eq_some_iff.mp H
        obtain ⟨t157, A90, H⟩ := H
        replace H : (spec_ReadPlace.j0 k a0 t152 (!t157)) = some (r1, r2, r3, r4) := H
        have A9 := Aside0.mk A90
        clear A90
        have H' := Aside0.mk H
        clear H
        obtain ⟨Ao10, co10, eo10⟩ := Kd.R_slice HO154.out
        subst eo10
        have p155 : 0 ≤ (0 : Int) := (by omega)
        have q155 : 0 < (t152.length : Int) := of_decide_eq_true (by first | (with_reducible assumption) | assumption)
        obtain ⟨ad155, e155, hx155_0⟩ := Kd.at_string (Kd.R_reads' HO154.out).2.2 0 p155 q155
        cases e155
        have qi155 : (0 < t152.length) = True := eq_true (by omega)
        (try rw [show ((0 : Int)).toNat = 0 from rfl] at hx155_0)
        (try rw [Addr.add_zero'] at hx155_0)
        replace p155 := eq_true p155
        replace q155 := eq_true q155
        go_wp2_with (first | (go_at_call 23; (with_reducible refine (spec_l1Digits.calls k (rdOf ByteArray.empty t152 0) t156 _ A8.out).mono ?_); rintro e w' ⟨rfl, ⟨nd, rfl⟩⟩) | (go_at_call 21; (with_reducible refine (spec_l1In.calls t156 1 6 t157 _ A9.out).mono ?_); rintro e w' ⟨rfl, ⟨nd, rfl⟩⟩))
        go_meet
        case rel => exact ⟨_, (!t157), (by first | rfl | (simp; done) | (simp [*]; done)), H', ⟨by first | omega | exact Nat.le_refl _⟩, ⟨by (with_reducible repeat (first | apply Kd.R_alloc | apply Kd.R_drewN | apply Kd.R_drew)); exact HO154.out⟩, ⟨by (with_reducible repeat (first | refine blk_drewN ?_ _ | refine blk_drew ?_ | refine blk_alloc ?_ _)); exact BK151.out⟩, ⟨by repeat (first | (with_reducible first | exact HB.out | apply below_alloc | apply pw_below_drewN | apply below_drew1 | refine below_set ?_ GE151.out) | exact HB.out)⟩⟩
      · rw [if_neg c7] at H
        exact absurd H (by simp)
    · rw [if_neg c6] at H
      have c6b0 : ((t152.length : Int) == 4) = false := beq_eq_false_iff_ne.mpr c6
      have c6b1 : ((t152.length : Int) != 4) = true := bne_iff_ne.mpr c6
      (first | rw [c6b0] | (simp only [i64_w, i32_w]; rw [c6b0]) | skip)
      have H' := Aside0.mk H
      clear H
      obtain ⟨Ao11, co11, eo11⟩ := Kd.R_slice HO154.out
      subst eo11
      go_wp2
      go_meet
      case rel => exact ⟨_, (true), (by first | rfl | (simp; done) | (simp [*]; done)), H', ⟨by first | omega | exact Nat.le_refl _⟩, ⟨by (with_reducible repeat (first | apply Kd.R_alloc | apply Kd.R_drewN | apply Kd.R_drew)); exact HO154.out⟩, ⟨by (with_reducible repeat (first | refine blk_drewN ?_ _ | refine blk_drew ?_ | refine blk_alloc ?_ _)); exact BK151.out⟩, ⟨by repeat (first | (with_reducible first | exact HB.out | apply below_alloc | apply pw_below_drewN | apply below_drew1 | refine below_set ?_ GE151.out) | exact HB.out)⟩⟩
  case rest =>
    clear HC3
    try clear c1
    try clear p1
    try clear q1
    try clear hx1
    try clear qi1
    try clear c2
    try clear p2
    try clear c6
    try clear c6b0
    try clear c6b1
    try clear c7
    try clear c7b0
    try clear c7b1
    try clear hx155_0
    try clear p155
    try clear q155
    obtain ⟨kq, x23_2, rfl, HA, HJ2, HO_4, BK151, HB⟩ := hcut
    cases kq with
    | zero => exact absurd HA.out (by simp [spec_ReadPlace.j0])
    | succ kj2 =>
      have H := HA.out
      clear HA
      simp only [spec_ReadPlace.j0] at H
      by_cases c12 : x23_2 = true
      · subst c12
        have H1 : (some (([] : List Int), 0, ([] : List Int), false)) = some (r1, r2, r3, r4) := by rw [if_pos rfl] at H; exact H
        clear H
        have H := H1
        clear H1
        simp only [Option.some.injEq, Prod.mk.injEq] at H
        obtain ⟨rfl, rfl, rfl, rfl⟩ := H
        have hcz13_0 : wc.cell? ⟨gb151, 0, none⟩ = some (.slice none 0 0) := (blk_cell BK151.out 0).trans rfl
        have hcz13_1 : wc.cell? ⟨gb151, 1, none⟩ = some (.int .i64 0) := (blk_cell BK151.out 1).trans rfl
        have hcz13_2 : wc.cell? ⟨gb151, 2, none⟩ = some (.slice none 0 0) := (blk_cell BK151.out 2).trans rfl
        have hfz13_0 := blk_frozen BK151.out 0
        have hfz13_1 := blk_frozen BK151.out 1
        have hfz13_2 := blk_frozen BK151.out 2
        go_wp2
        refine bodyPost_ret (results_ct rfl _ _ gb151 36 #[.slice none 0 0, .int .i64 0, .slice none 0 0] (0, 0) _ rfl (by (with_reducible repeat (first | refine blk_drewN ?_ _ | refine blk_drew ?_ | refine blk_alloc ?_ _)); refine blk_put (cs := #[.slice none 0 0, .int .i64 0, .slice none 0 0]) ?_ 2 _ rfl; (with_reducible repeat (first | refine blk_drewN ?_ _ | refine blk_drew ?_ | refine blk_alloc ?_ _)); refine blk_put (cs := #[.slice none 0 0, .int .i64 0, .slice none 0 0]) ?_ 1 _ rfl; (with_reducible repeat (first | refine blk_drewN ?_ _ | refine blk_drew ?_ | refine blk_alloc ?_ _)); refine blk_put (cs := #[.slice none 0 0, .int .i64 0, .slice none 0 0]) ?_ 0 _ rfl; (with_reducible repeat (first | refine blk_drewN ?_ _ | refine blk_drew ?_ | refine blk_alloc ?_ _)); exact BK151.out) Tryd.underlying36 rfl (by kernel_rfl)) rfl ?_
        exact ⟨_, _, by first | rfl | (simp [errW_none, errW_some] <;> rfl) | (simp [*, errW_none, errW_some] <;> rfl), by first | exact Kd.R_nil _ _ _ _ _ | exact Kd.N_nil _ _ _ _ _ | exact Kd.V_nil _ _ _ _ _ | exact Kd.Q_nil _ _ _ _ _ | exact Kd.S_nil _ _ _ _ _, by first | exact Kd.R_nil _ _ _ _ _ | exact Kd.N_nil _ _ _ _ _ | exact Kd.V_nil _ _ _ _ _ | exact Kd.Q_nil _ _ _ _ _ | exact Kd.S_nil _ _ _ _ _, by repeat (first | (with_reducible first | exact HB.out | apply below_alloc | apply pw_below_drewN | apply below_drew1 | refine below_set ?_ GE151.out) | exact HB.out)⟩
      · replace c12 := Bool.eq_false_iff.mpr c12
        subst c12
        have H1 : (if 0 < (t152.length : Int) then ((spec_l1Digits.f kj2 (rdOf ByteArray.empty t152 0)).bind fun t159 => (if 0 ≤ t159 then (if (t159 : Int).toNat ≤ 35184372088832 then (if 2 < (t152.length : Int) then ((spec_l1Digits.f kj2 (rdOf ByteArray.empty t152 2)).bind fun t164 => (if 1 < (t152.length : Int) then ((spec_l1Cut.f kj2 (rdOf ByteArray.empty t152 1) 44).bind fun t167 => (spec_ReadPlace.l0 kj2 a0 t152 t167 0 (List.replicate (t159 : Int).toNat 0) t164)) else (none))) else (none)) else (none)) else (none))) else (none)) = some (r1, r2, r3, r4) := by rw [if_neg (show ¬ (false = true) by decide)] at H; exact H
        clear H
        have H := H1
        clear H1
        by_cases c14 : 0 < (t152.length : Int)
        · rw [if_pos c14] at H
          have c14b0 : decide (0 < (t152.length : Int)) = true := decide_eq_true c14
          have c14b1 : decide (0 < t152.length) = true := decide_eq_true (by omega)
          clear c14
          replace H := Option.bind_eq_some_iff.mp H
          obtain ⟨t159, A150, H⟩ := H
          replace H : (if 0 ≤ t159 then (if (t159 : Int).toNat ≤ 35184372088832 then (if 2 < (t152.length : Int) then ((spec_l1Digits.f kj2 (rdOf ByteArray.empty t152 2)).bind fun t164 => (if 1 < (t152.length : Int) then ((spec_l1Cut.f kj2 (rdOf ByteArray.empty t152 1) 44).bind fun t167 => (spec_ReadPlace.l0 kj2 a0 t152 t167 0 (List.replicate (t159 : Int).toNat 0) t164)) else (none))) else (none)) else (none)) else (none)) = some (r1, r2, r3, r4) := H
          have A15 := Aside0.mk A150
          clear A150
          by_cases c16 : 0 ≤ t159
          · rw [if_pos c16] at H
            have c16b0 := eq_true c16
            have c16b1 : decide (0 ≤ t159) = true := decide_eq_true c16
            clear c16
            by_cases c17 : (t159 : Int).toNat ≤ 35184372088832
            · rw [if_pos c17] at H
              have c17b0 := eq_true c17
              have c17b1 : decide ((t159 : Int).toNat ≤ 35184372088832) = true := decide_eq_true c17
              clear c17
              obtain ⟨y160, hy160⟩ : ∃ y_ : List Int, y_ = (List.replicate (t159 : Int).toNat 0) := ⟨_, rfl⟩
              replace H : (if 2 < (t152.length : Int) then ((spec_l1Digits.f kj2 (rdOf ByteArray.empty t152 2)).bind fun t164 => (if 1 < (t152.length : Int) then ((spec_l1Cut.f kj2 (rdOf ByteArray.empty t152 1) 44).bind fun t167 => (spec_ReadPlace.l0 kj2 a0 t152 t167 0 y160 t164)) else (none))) else (none)) = some (r1, r2, r3, r4) := by first | (rw [hy160]; with_reducible exact H) | (have H2_ := (Option.bind_some _ _).symm.trans H; rw [hy160]; with_reducible exact H2_) | (have H2_ := (Option.bind_some _ _).symm.trans H; with_reducible exact H2_) | with_reducible exact H | (rw [hy160]; exact H) | exact H
              have Ny160 := Aside0.mk hy160
              clear hy160
              by_cases c18 : 2 < (t152.length : Int)
              · rw [if_pos c18] at H
                have c18b0 : decide (2 < (t152.length : Int)) = true := decide_eq_true c18
                have c18b1 : decide (2 < t152.length) = true := decide_eq_true (by omega)
                clear c18
                replace H := Option.bind_eq_some_iff.mp H
                obtain ⟨t164, A190, H⟩ := H
                replace H : (if 1 < (t152.length : Int) then ((spec_l1Cut.f kj2 (rdOf ByteArray.empty t152 1) 44).bind fun t167 => (spec_ReadPlace.l0 kj2 a0 t152 t167 0 y160 t164)) else (none)) = some (r1, r2, r3, r4) := H
                have A19 := Aside0.mk A190
                clear A190
                by_cases c20 : 1 < (t152.length : Int)
                · rw [if_pos c20] at H
                  have c20b0 : decide (1 < (t152.length : Int)) = true := decide_eq_true c20
                  have c20b1 : decide (1 < t152.length) = true := decide_eq_true (by omega)
                  clear c20
                  replace H := Option.bind_eq_some_iff.mp H
                  obtain ⟨t167, A210, H⟩ := H
                  replace H : (spec_ReadPlace.l0 kj2 a0 t152 t167 0 y160 t164) = some (r1, r2, r3, r4) := H
                  have A21 := Aside0.mk A210
                  clear A210
                  have H' := Aside0.mk H
                  clear H
                  try go_wp2
                  have n0_ := Aside0.mk (Kd.R_drew HO_4.out)
                  have n1_ := Aside0.mk (blk_drew BK151.out)
                  have n2_ := Aside0.mk (below_drew1 HB.out)
                  clear HO_4
                  clear BK151
                  clear HB
                  have HO_4 := n0_
                  have BK151 := n1_
                  have HB := n2_
                  clear n0_ n1_ n2_
                  obtain ⟨Ao23, co23, eo23⟩ := Kd.R_slice HO_4.out
                  (first | subst eo23 | (injection eo23 with f1_ f2_ f3_; have f4_ := f1_.symm; have f5_ := f3_.symm; clear f1_ f2_ f3_; subst f4_; subst f5_))
                  have p158 : 0 ≤ (0 : Int) := (by omega)
                  have q158 : 0 < (t152.length : Int) := of_decide_eq_true (by first | (with_reducible assumption) | assumption)
                  obtain ⟨ad158, e158, hx158_0⟩ := Kd.at_string (Kd.R_reads' HO_4.out).2.2 0 p158 q158
                  cases e158
                  have qi158 : (0 < t152.length) = True := eq_true (by omega)
                  (try rw [show ((0 : Int)).toNat = 0 from rfl] at hx158_0)
                  (try rw [Addr.add_zero'] at hx158_0)
                  replace p158 := eq_true p158
                  replace q158 := eq_true q158
                  have p163 : 0 ≤ (2 : Int) := (by omega)
                  have q163 : 2 < (t152.length : Int) := of_decide_eq_true (by first | (with_reducible assumption) | assumption)
                  obtain ⟨ad163, e163, hx163_0⟩ := Kd.at_string (Kd.R_reads' HO_4.out).2.2 2 p163 q163
                  obtain rfl : ad158 = ad163 := (by injection e163)
                  (try simp only [show (2 : Int).toNat = 2 from rfl, Nat.reduceMul, Nat.reduceEqDiff, Go.Addr.add, ↓reduceIte] at hx163_0)
                  have qi163 : (2 < t152.length) = True := eq_true (by omega)
                  (try rw [show ((2 : Int)).toNat = 2 from rfl] at hx163_0)
                  replace p163 := eq_true p163
                  replace q163 := eq_true q163
                  refine start_ (n := 12) (S := fun w' => w'.cell? ad158 = some (.string (rdOf ByteArray.empty t152 0)) ∧ w'.cell? ⟨ad158.block, ad158.off + 2, none⟩ = some (.string (rdOf ByteArray.empty t152 2))) (ds := []) #[false, false, false, false, false, false, false, false, false, false, false, false] (by kernel_rfl) rfl rfl ⟨hx158_0, hx163_0⟩ (fun hHeld => ?_); refine with_tabW spec_ReadPlace.tab4 spec_ReadPlace.bits4 (fun HT_ HW_ => ?_)
                  generalize wc.drew = w22 at HO_4 BK151 HB hx158_0 hx163_0 hHeld ⊢
                  refine pure_ (i := 0) (N := some 25) (v := ?_) (a' := ?_) #[true, false, false, false, false, false, false, false, false, false, false, false] rfl rfl (any_of HT_.out (by kernel_rfl)) (fun _ _ _ h => h) (Or.inl ⟨by rfl, ?_⟩) ?_ ?_
                  rotate_left
                  · intro w'
                    go_simp
                    with_reducible rfl
                  rotate_left
                  · simp only [Act.put, List.setIfInBounds_toArray, List.set_cons_zero, List.set_cons_succ, i64_w, i32_w]
                    rfl
                  refine pure_ (i := 1) (N := some 26) (v := ?_) (a' := ?_) #[true, true, false, false, false, false, false, false, false, false, false, false] rfl rfl (any_of HT_.out (by kernel_rfl)) (fun _ _ _ h => h) (Or.inl ⟨by rfl, ?_⟩) ?_ ?_
                  rotate_left
                  · intro w'
                    go_simp
                    with_reducible rfl
                  rotate_left
                  · simp only [Act.put, List.setIfInBounds_toArray, List.set_cons_zero, List.set_cons_succ, i64_w, i32_w]
                    rfl
                  refine pure_ (i := 5) (N := some 30) (v := ?_) (a' := ?_) #[true, true, false, false, false, true, false, false, false, false, false, false] rfl rfl (any_of HT_.out (by kernel_rfl)) (fun _ _ _ h => h) (Or.inl ⟨by rfl, ?_⟩) ?_ ?_
                  rotate_left
                  · intro w'
                    go_simp
                    with_reducible rfl
                  rotate_left
                  · simp only [Act.put, List.setIfInBounds_toArray, List.set_cons_zero, List.set_cons_succ, i64_w, i32_w]
                    rfl
                  refine pure_ (i := 6) (N := some 31) (v := ?_) (a' := ?_) #[true, true, false, false, false, true, true, false, false, false, false, false] rfl rfl (any_of HT_.out (by kernel_rfl)) (fun _ _ _ h => h) (Or.inl ⟨by rfl, ?_⟩) ?_ ?_
                  rotate_left
                  · intro w'
                    go_simp
                    with_reducible rfl
                  rotate_left
                  · simp only [Act.put, List.setIfInBounds_toArray, List.set_cons_zero, List.set_cons_succ, i64_w, i32_w]
                    rfl
                  refine take_ (i := 2) (N := some 27) (v := ?_) (a' := ?_) #[true, true, true, false, false, true, true, false, false, false, false, false] rfl rfl (take_ofW HT_.out HW_.out (by kernel_rfl)) (fun _ _ _ h => h) (Or.inl ⟨by rfl, ?_⟩) hHeld ?_ ?_
                  rotate_left
                  · rintro w' ⟨s0, s1⟩
                    go_simp
                    with_reducible rfl
                  rotate_left
                  · simp only [Act.put, List.setIfInBounds_toArray, List.set_cons_zero, List.set_cons_succ, i64_w, i32_w]
                    rfl
                  refine take_ (i := 7) (N := some 32) (v := ?_) (a' := ?_) #[true, true, true, false, false, true, true, true, false, false, false, false] rfl rfl (take_ofW HT_.out HW_.out (by kernel_rfl)) (fun _ _ _ h => h) (Or.inl ⟨by rfl, ?_⟩) hHeld ?_ ?_
                  rotate_left
                  · rintro w' ⟨s0, s1⟩
                    go_simp
                    with_reducible rfl
                  rotate_left
                  · simp only [Act.put, List.setIfInBounds_toArray, List.set_cons_zero, List.set_cons_succ, i64_w, i32_w]
                    rfl
                  refine join_ (σ := Value × Nat) 1 #[true, true, true, true, true, true, true, true, true, true, true, false] (fun s_ => [(28, .int .i64 t159), (29, s_.1), (33, .int .i64 t164), (5, .pointer (some ⟨s_.2, 0, none⟩)), (34, .agg #[s_.1, .int .i64 t164, .slice none 0 0])]) (fun s_ w' => (w'.cell? ad158 = some (.string (rdOf ByteArray.empty t152 0)) ∧ w'.cell? ⟨ad158.block, ad158.off + 2, none⟩ = some (.string (rdOf ByteArray.empty t152 2))) ∧ (Kd.R (Kd.int .i64) 3 w' w.heap.size (fun _ => True) s_.1 y160) ∧ (Kd.R Kd.string 9 w' w.heap.size (fun _ => True) (.slice (some ad158) t152.length co23) t152) ∧ (w'.heap[gb151]? = some (.cells #[.slice none 0 0, .int .i64 0, .slice none 0 0] 36 (0, 0))) ∧ (w'.heap[s_.2]? = some (.cells #[.slice none 0 0, .int .i64 0, .slice none 0 0] 36 (0, 0))) ∧ (w.heap.size ≤ s_.2) ∧ (w.heap.size ≤ s_.2) ∧ (gb151 ≠ s_.2) ∧ (s_.2 ≠ gb151) ∧ (Below w.heap.size w w')) ?_ ?_
                  rotate_left
                  · intro hJ3_4_8_10
                    refine join_ (σ := Value) 2 #[true, true, true, true, true, true, true, true, true, true, false, false] (fun s_ => [(28, .int .i64 t159), (29, s_), (33, .int .i64 t164), (34, .agg #[s_, .int .i64 t164, .slice none 0 0])]) (fun s_ w' => (w'.cell? ad158 = some (.string (rdOf ByteArray.empty t152 0)) ∧ w'.cell? ⟨ad158.block, ad158.off + 2, none⟩ = some (.string (rdOf ByteArray.empty t152 2))) ∧ (Kd.R (Kd.int .i64) 3 w' w.heap.size (fun _ => True) s_ y160) ∧ (Kd.R Kd.string 9 w' w.heap.size (fun _ => True) (.slice (some ad158) t152.length co23) t152) ∧ (w'.heap[gb151]? = some (.cells #[.slice none 0 0, .int .i64 0, .slice none 0 0] 36 (0, 0))) ∧ (Below w.heap.size w w')) ?_ ?_
                    rotate_left
                    · intro hJ3_4_8
                      refine join_ (σ := Value × Nat) 3 #[true, true, true, true, true, true, true, true, false, false, true, false] (fun s_ => [(28, .int .i64 t159), (29, s_.1), (5, .pointer (some ⟨s_.2, 0, none⟩))]) (fun s_ w' => (w'.cell? ad158 = some (.string (rdOf ByteArray.empty t152 0)) ∧ w'.cell? ⟨ad158.block, ad158.off + 2, none⟩ = some (.string (rdOf ByteArray.empty t152 2))) ∧ (Kd.R (Kd.int .i64) 3 w' w.heap.size (fun _ => True) s_.1 y160) ∧ (Kd.R Kd.string 9 w' w.heap.size (fun _ => True) (.slice (some ad158) t152.length co23) t152) ∧ (w'.heap[gb151]? = some (.cells #[.slice none 0 0, .int .i64 0, .slice none 0 0] 36 (0, 0))) ∧ (w'.heap[s_.2]? = some (.cells #[.slice none 0 0, .int .i64 0, .slice none 0 0] 36 (0, 0))) ∧ (w.heap.size ≤ s_.2) ∧ (w.heap.size ≤ s_.2) ∧ (gb151 ≠ s_.2) ∧ (s_.2 ≠ gb151) ∧ (Below w.heap.size w w')) ?_ ?_
                      rotate_left
                      · intro hJ3_4_10
                        refine join_ (σ := Nat) 3 #[true, true, true, true, false, true, true, true, true, false, true, false] (fun s_ => [(28, .int .i64 t159), (33, .int .i64 t164), (5, .pointer (some ⟨s_, 0, none⟩))]) (fun s_ w' => (w'.cell? ad158 = some (.string (rdOf ByteArray.empty t152 0)) ∧ w'.cell? ⟨ad158.block, ad158.off + 2, none⟩ = some (.string (rdOf ByteArray.empty t152 2))) ∧ (Kd.R Kd.string 9 w' w.heap.size (fun _ => True) (.slice (some ad158) t152.length co23) t152) ∧ (w'.heap[gb151]? = some (.cells #[.slice none 0 0, .int .i64 0, .slice none 0 0] 36 (0, 0))) ∧ (w'.heap[s_]? = some (.cells #[.slice none 0 0, .int .i64 0, .slice none 0 0] 36 (0, 0))) ∧ (w.heap.size ≤ s_) ∧ (w.heap.size ≤ s_) ∧ (gb151 ≠ s_) ∧ (s_ ≠ gb151) ∧ (Below w.heap.size w w')) ?_ ?_
                        rotate_left
                        · intro hJ3_8_10
                          refine join_ (σ := Value) 4 #[true, true, true, true, true, true, true, true, false, false, false, false] (fun s_ => [(28, .int .i64 t159), (29, s_)]) (fun s_ w' => (w'.cell? ad158 = some (.string (rdOf ByteArray.empty t152 0)) ∧ w'.cell? ⟨ad158.block, ad158.off + 2, none⟩ = some (.string (rdOf ByteArray.empty t152 2))) ∧ (Kd.R (Kd.int .i64) 3 w' w.heap.size (fun _ => True) s_ y160) ∧ (Kd.R Kd.string 9 w' w.heap.size (fun _ => True) (.slice (some ad158) t152.length co23) t152) ∧ (w'.heap[gb151]? = some (.cells #[.slice none 0 0, .int .i64 0, .slice none 0 0] 36 (0, 0))) ∧ (Below w.heap.size w w')) ?_ ?_
                          rotate_left
                          · intro hJ3_4
                            refine join_ (σ := Unit) 4 #[true, true, true, true, false, true, true, true, true, false, false, false] (fun s_ => [(28, .int .i64 t159), (33, .int .i64 t164)]) (fun s_ w' => (w'.cell? ad158 = some (.string (rdOf ByteArray.empty t152 0)) ∧ w'.cell? ⟨ad158.block, ad158.off + 2, none⟩ = some (.string (rdOf ByteArray.empty t152 2))) ∧ (Kd.R Kd.string 9 w' w.heap.size (fun _ => True) (.slice (some ad158) t152.length co23) t152) ∧ (w'.heap[gb151]? = some (.cells #[.slice none 0 0, .int .i64 0, .slice none 0 0] 36 (0, 0))) ∧ (Below w.heap.size w w')) ?_ ?_
                            rotate_left
                            · intro hJ3_8
                              refine join_ (σ := Nat) 4 #[true, true, true, true, false, true, true, true, false, false, true, false] (fun s_ => [(28, .int .i64 t159), (5, .pointer (some ⟨s_, 0, none⟩))]) (fun s_ w' => (w'.cell? ad158 = some (.string (rdOf ByteArray.empty t152 0)) ∧ w'.cell? ⟨ad158.block, ad158.off + 2, none⟩ = some (.string (rdOf ByteArray.empty t152 2))) ∧ (Kd.R Kd.string 9 w' w.heap.size (fun _ => True) (.slice (some ad158) t152.length co23) t152) ∧ (w'.heap[gb151]? = some (.cells #[.slice none 0 0, .int .i64 0, .slice none 0 0] 36 (0, 0))) ∧ (w'.heap[s_]? = some (.cells #[.slice none 0 0, .int .i64 0, .slice none 0 0] 36 (0, 0))) ∧ (w.heap.size ≤ s_) ∧ (w.heap.size ≤ s_) ∧ (gb151 ≠ s_) ∧ (s_ ≠ gb151) ∧ (Below w.heap.size w w')) ?_ ?_
                              rotate_left
                              · intro hJ3_10
                                refine join_ (σ := Unit) 5 #[true, true, true, true, false, true, true, true, false, false, false, false] (fun s_ => [(28, .int .i64 t159)]) (fun s_ w' => (w'.cell? ad158 = some (.string (rdOf ByteArray.empty t152 0)) ∧ w'.cell? ⟨ad158.block, ad158.off + 2, none⟩ = some (.string (rdOf ByteArray.empty t152 2))) ∧ (Kd.R Kd.string 9 w' w.heap.size (fun _ => True) (.slice (some ad158) t152.length co23) t152) ∧ (w'.heap[gb151]? = some (.cells #[.slice none 0 0, .int .i64 0, .slice none 0 0] 36 (0, 0))) ∧ (Below w.heap.size w w')) ?_ ?_
                                rotate_left
                                · intro hJ3
                                  refine join_ (σ := Nat) 5 #[true, true, true, false, false, true, true, true, false, false, true, false] (fun s_ => [(5, .pointer (some ⟨s_, 0, none⟩))]) (fun s_ w' => (w'.cell? ad158 = some (.string (rdOf ByteArray.empty t152 0)) ∧ w'.cell? ⟨ad158.block, ad158.off + 2, none⟩ = some (.string (rdOf ByteArray.empty t152 2))) ∧ (Kd.R Kd.string 9 w' w.heap.size (fun _ => True) (.slice (some ad158) t152.length co23) t152) ∧ (w'.heap[gb151]? = some (.cells #[.slice none 0 0, .int .i64 0, .slice none 0 0] 36 (0, 0))) ∧ (w'.heap[s_]? = some (.cells #[.slice none 0 0, .int .i64 0, .slice none 0 0] 36 (0, 0))) ∧ (w.heap.size ≤ s_) ∧ (w.heap.size ≤ s_) ∧ (gb151 ≠ s_) ∧ (s_ ≠ gb151) ∧ (Below w.heap.size w w')) ?_ ?_
                                  rotate_left
                                  · intro hJ10
                                    refine two_ (i := 3) (j := 10) (Ni := some 28) (Nj := some 5) #[true, true, true, true, false, true, true, true, false, false, false, false] #[true, true, true, false, false, true, true, true, false, false, true, false] rfl rfl rfl rfl (two_of HT_.out (by kernel_rfl)) (by decide) (by decide) (fun K hK => ?_) (fun K hK => ?_)
                                    · skip
                                      refine goes_ Tryd.func23 (by kernel_rfl) rfl #[.string (rdOf ByteArray.empty t152 0)] (by rfl) rfl rfl (by (try simp only [List.map_toArray, List.map_cons, List.map_nil]); first | done | rfl | (simp only [List.length_drop, List.length_take]; rfl)) ?_
                                      with_reducible refine (spec_l1Digits.calls kj2 (rdOf ByteArray.empty t152 0) t159 _ A15.out).mono ?_
                                      rintro e w' ⟨rfl, ⟨nd, rfl⟩⟩
                                      refine ⟨_, rfl, ?_⟩
                                      refine hK.out _ _ ⟨hHeld.1, hHeld.2⟩ (fun hHeld => ?_)
                                      clear hK K
                                      refine norm_ (a' := ?_) ?_ ?_
                                      rotate_left
                                      · show Act.put _ (some 28) _ = _
                                        simp only [Act.put, List.setIfInBounds_toArray, List.set_cons_zero, List.set_cons_succ, i64_w, i32_w]
                                        rfl
                                      exact norm_ (by first | (simp only [putAll, Act.put, List.setIfInBounds_toArray, List.set_cons_zero, List.set_cons_succ]; done) | (simp only [putAll, Act.put, List.setIfInBounds_toArray, List.set_cons_zero, List.set_cons_succ]; rfl)) (hJ3 () _ ⟨hHeld, (by (with_reducible repeat (first | apply Kd.R_alloc | apply Kd.R_drewN | apply Kd.R_drew)); exact HO_4.out), (by (with_reducible repeat (first | refine blk_drewN ?_ _ | refine blk_drew ?_ | refine blk_alloc ?_ _)); exact BK151.out), (by repeat (first | (with_reducible first | exact HB.out | apply below_alloc | apply pw_below_drewN | apply below_drew1 | refine below_set ?_ GE151.out) | exact HB.out))⟩)
                                    · skip
                                      refine box_step ?hg (N := 5) ?hd (cs := #[.slice none 0 0, .int .i64 0, .slice none 0 0]) (t := 36) ?hr ?_; (case hd => rfl); (case hg => rfl); (case hr => first | (go_simp; done) | (go_simp; rfl))
                                      intro gb165 hg w24 hbox hb
                                      have HS0_ := (hb.cell (World.block_lt_of_cell? _ _ (hHeld.1))).trans (hHeld.1)
                                      have HS1_ := (hb.cell (World.block_lt_of_cell? _ _ (hHeld.2))).trans (hHeld.2)
                                      have n0_ := Aside0.mk (Kd.R_below (by (with_reducible repeat (first | apply Kd.R_alloc | apply Kd.R_drewN | apply Kd.R_drew)); exact HO_4.out) hb)
                                      have n1_ := Aside0.mk (blk_below (g := gb151) (o := .cells #[.slice none 0 0, .int .i64 0, .slice none 0 0] 36 (0, 0)) (by (with_reducible repeat (first | refine blk_drewN ?_ _ | refine blk_drew ?_ | refine blk_alloc ?_ _)); exact BK151.out) hb)
                                      have n2_ := Aside0.mk (below_step (by repeat (first | (with_reducible first | exact HB.out | apply below_alloc | apply pw_below_drewN | apply below_drew1 | refine below_set ?_ GE151.out) | exact HB.out)) hb)
                                      have n3_ := Aside0.mk (hbox)
                                      have n4_ := Aside0.mk ((by rw [hg]; exact (below_size (by repeat (first | (with_reducible first | exact HB.out | apply below_alloc | apply pw_below_drewN | apply below_drew1 | refine below_set ?_ GE151.out) | exact HB.out))) : w.heap.size ≤ gb165))
                                      have n5_ := Aside0.mk ((by rw [hg]; exact (below_size (by repeat (first | (with_reducible first | exact HB.out | apply below_alloc | apply pw_below_drewN | apply below_drew1 | refine below_set ?_ GE151.out) | exact HB.out))) : w.heap.size ≤ gb165))
                                      have n6_ := Aside0.mk ((by rw [hg]; exact Nat.ne_of_lt (blk_lt (g := gb151) (o := .cells #[.slice none 0 0, .int .i64 0, .slice none 0 0] 36 (0, 0)) (by (with_reducible repeat (first | refine blk_drewN ?_ _ | refine blk_drew ?_ | refine blk_alloc ?_ _)); exact BK151.out)) : gb151 ≠ gb165))
                                      have n7_ := Aside0.mk ((by rw [hg]; exact Nat.ne_of_gt (blk_lt (g := gb151) (o := .cells #[.slice none 0 0, .int .i64 0, .slice none 0 0] 36 (0, 0)) (by (with_reducible repeat (first | refine blk_drewN ?_ _ | refine blk_drew ?_ | refine blk_alloc ?_ _)); exact BK151.out)) : gb165 ≠ gb151))
                                      clear HO_4
                                      clear BK151
                                      clear HB
                                      have HO_4 := n0_
                                      have BK151 := n1_
                                      have HB := n2_
                                      have BK165 := n3_
                                      have GW165 := n4_
                                      have GE165 := n5_
                                      have NB151_165 := n6_
                                      have NB165_151 := n7_
                                      clear n0_ n1_ n2_ n3_ n4_ n5_ n6_ n7_
                                      clear hb hbox hg
                                      refine hK.out _ _ ⟨HS0_, HS1_⟩ (fun hHeld => ?_)
                                      clear hK K
                                      refine norm_ (a' := ?_) ?_ ?_
                                      rotate_left
                                      · show Act.put _ (some 5) _ = _
                                        simp only [Act.put, List.setIfInBounds_toArray, List.set_cons_zero, List.set_cons_succ, i64_w, i32_w]
                                        rfl
                                      exact norm_ (by first | (simp only [putAll, Act.put, List.setIfInBounds_toArray, List.set_cons_zero, List.set_cons_succ]; done) | (simp only [putAll, Act.put, List.setIfInBounds_toArray, List.set_cons_zero, List.set_cons_succ]; rfl)) (hJ10 (gb165) _ ⟨hHeld, (by (with_reducible repeat (first | apply Kd.R_alloc | apply Kd.R_drewN | apply Kd.R_drew)); exact HO_4.out), (by (with_reducible repeat (first | refine blk_drewN ?_ _ | refine blk_drew ?_ | refine blk_alloc ?_ _)); exact BK151.out), (by (with_reducible repeat (first | refine blk_drewN ?_ _ | refine blk_drew ?_ | refine blk_alloc ?_ _)); exact BK165.out), GW165.out, GE165.out, NB151_165.out, NB165_151.out, (by repeat (first | (with_reducible first | exact HB.out | apply below_alloc | apply pw_below_drewN | apply below_drew1 | refine below_set ?_ GE151.out | refine below_set ?_ GE165.out) | exact HB.out))⟩)
                                  · skip
                                    rintro gb165 w25 ⟨hS_, h0_, h1_, h2_, h3_, h4_, h5_, h6_, h7_⟩
                                    have n0_ : Aside0 (Kd.R Kd.string 9 w25 w.heap.size (fun _ => True) (.slice (some ad158) t152.length co23) t152) := ⟨h0_⟩
                                    have n1_ : Aside0 (w25.heap[gb151]? = some (.cells #[.slice none 0 0, .int .i64 0, .slice none 0 0] 36 (0, 0))) := ⟨h1_⟩
                                    have n2_ : Aside0 (w25.heap[gb165]? = some (.cells #[.slice none 0 0, .int .i64 0, .slice none 0 0] 36 (0, 0))) := ⟨h2_⟩
                                    have n3_ : Aside0 (w.heap.size ≤ gb165) := ⟨h3_⟩
                                    have n4_ : Aside0 (w.heap.size ≤ gb165) := ⟨h4_⟩
                                    have n5_ : Aside0 (gb151 ≠ gb165) := ⟨h5_⟩
                                    have n6_ : Aside0 (gb165 ≠ gb151) := ⟨h6_⟩
                                    have n7_ : Aside0 (Below w.heap.size w w25) := ⟨h7_⟩
                                    clear HO_4
                                    clear BK151
                                    clear HB
                                    clear h0_ h1_ h2_ h3_ h4_ h5_ h6_ h7_
                                    have HO_4 := n0_
                                    have BK151 := n1_
                                    have BK165 := n2_
                                    have GW165 := n3_
                                    have GE165 := n4_
                                    have NB151_165 := n5_
                                    have NB165_151 := n6_
                                    have HB := n7_
                                    clear n0_ n1_ n2_ n3_ n4_ n5_ n6_ n7_
                                    have hHeld : w25.cell? ad158 = some (.string (rdOf ByteArray.empty t152 0)) ∧ w25.cell? ⟨ad158.block, ad158.off + 2, none⟩ = some (.string (rdOf ByteArray.empty t152 2)) := hS_
                                    refine norm_ (a' := ?_) ?_ ?_
                                    rotate_left
                                    · simp only [putAll, Act.put, List.setIfInBounds_toArray, List.set_cons_zero, List.set_cons_succ]
                                      rfl
                                    refine one_ (i := 3) (N := some 28) #[true, true, true, true, false, true, true, true, false, false, true, false] rfl rfl (one_of HT_.out (by kernel_rfl)) (by decide) (fun K hK => ?_)
                                    refine goes_ Tryd.func23 (by kernel_rfl) rfl #[.string (rdOf ByteArray.empty t152 0)] (by rfl) rfl rfl (by (try simp only [List.map_toArray, List.map_cons, List.map_nil]); first | done | rfl | (simp only [List.length_drop, List.length_take]; rfl)) ?_
                                    with_reducible refine (spec_l1Digits.calls kj2 (rdOf ByteArray.empty t152 0) t159 _ A15.out).mono ?_
                                    rintro e w' ⟨rfl, ⟨nd, rfl⟩⟩
                                    refine ⟨_, rfl, ?_⟩
                                    refine hK.out _ _ ⟨hHeld.1, hHeld.2⟩ (fun hHeld => ?_)
                                    clear hK K
                                    refine norm_ (a' := ?_) ?_ ?_
                                    rotate_left
                                    · show Act.put _ (some 28) _ = _
                                      simp only [Act.put, List.setIfInBounds_toArray, List.set_cons_zero, List.set_cons_succ, i64_w, i32_w]
                                      rfl
                                    exact norm_ (by first | (simp only [putAll, Act.put, List.setIfInBounds_toArray, List.set_cons_zero, List.set_cons_succ]; done) | (simp only [putAll, Act.put, List.setIfInBounds_toArray, List.set_cons_zero, List.set_cons_succ]; rfl)) (hJ3_10 (gb165) _ ⟨hHeld, (by (with_reducible repeat (first | apply Kd.R_alloc | apply Kd.R_drewN | apply Kd.R_drew)); exact HO_4.out), (by (with_reducible repeat (first | refine blk_drewN ?_ _ | refine blk_drew ?_ | refine blk_alloc ?_ _)); exact BK151.out), (by (with_reducible repeat (first | refine blk_drewN ?_ _ | refine blk_drew ?_ | refine blk_alloc ?_ _)); exact BK165.out), GW165.out, GE165.out, NB151_165.out, NB165_151.out, (by repeat (first | (with_reducible first | exact HB.out | apply below_alloc | apply pw_below_drewN | apply below_drew1 | refine below_set ?_ GE151.out | refine below_set ?_ GE165.out) | exact HB.out))⟩)
                                · skip
                                  rintro _ w24 ⟨hS_, h0_, h1_, h2_⟩
                                  have n0_ : Aside0 (Kd.R Kd.string 9 w24 w.heap.size (fun _ => True) (.slice (some ad158) t152.length co23) t152) := ⟨h0_⟩
                                  have n1_ : Aside0 (w24.heap[gb151]? = some (.cells #[.slice none 0 0, .int .i64 0, .slice none 0 0] 36 (0, 0))) := ⟨h1_⟩
                                  have n2_ : Aside0 (Below w.heap.size w w24) := ⟨h2_⟩
                                  clear HO_4
                                  clear BK151
                                  clear HB
                                  clear h0_ h1_ h2_
                                  have HO_4 := n0_
                                  have BK151 := n1_
                                  have HB := n2_
                                  clear n0_ n1_ n2_
                                  have hHeld : w24.cell? ad158 = some (.string (rdOf ByteArray.empty t152 0)) ∧ w24.cell? ⟨ad158.block, ad158.off + 2, none⟩ = some (.string (rdOf ByteArray.empty t152 2)) := hS_
                                  refine norm_ (a' := ?_) ?_ ?_
                                  rotate_left
                                  · simp only [putAll, Act.put, List.setIfInBounds_toArray, List.set_cons_zero, List.set_cons_succ]
                                    rfl
                                  refine three_ (i := 4) (j := 8) (k := 10) (Ni := some 29) (Nj := some 33) (Nk := some 5) #[true, true, true, true, true, true, true, true, false, false, false, false] #[true, true, true, true, false, true, true, true, true, false, false, false] #[true, true, true, true, false, true, true, true, false, false, true, false] rfl rfl rfl rfl rfl rfl (three_of HT_.out (by kernel_rfl)) (by decide) (by decide) (by decide) (fun K hK => ?_) (fun K hK => ?_) (fun K hK => ?_)
                                  · skip
                                    refine Kd.R_make_step (Kd.int .i64) _ 3 (by rfl) (N := 29) rfl 34 _ _ rfl t159 rfl rfl Tryd.underlying34 (.int .i64 0) 8 info3 rfl (by decide) (by omega) 0 (ok := fun _ => True) (okp := fun _ => True) rfl (fun _ hk => hk) trivial (of_decide_eq_true (by first | (with_reducible assumption) | assumption)) (Nat.le_trans (Nat.mul_le_mul_right _ (of_decide_eq_true (by first | (with_reducible assumption) | assumption) : t159.toNat ≤ 35184372088832)) (by omega)) (Below.refl _ _) (Nat.le_refl _) ?_
                                    intro v161 w25 ho26 hb hg_ hnew_
                                    have HS0_ := (hb.cell (World.block_lt_of_cell? _ _ (hHeld.1))).trans (hHeld.1)
                                    have HS1_ := (hb.cell (World.block_lt_of_cell? _ _ (hHeld.2))).trans (hHeld.2)
                                    clear hg_ hnew_
                                    (first | rw [← Ny160.out] at ho26 | (simp only [Int.reduceToNat] at ho26; rw [← Ny160.out] at ho26))
                                    have n0_ := Aside0.mk (Kd.R_below (by (with_reducible repeat (first | apply Kd.R_alloc | apply Kd.R_drewN | apply Kd.R_drew)); exact HO_4.out) hb)
                                    have n1_ := Aside0.mk (Kd.R_lower ho26 (below_size (by repeat (first | (with_reducible first | exact HB.out | apply below_alloc | apply pw_below_drewN | apply below_drew1 | refine below_set ?_ GE151.out) | exact HB.out))))
                                    have n2_ := Aside0.mk (blk_below (g := gb151) (o := .cells #[.slice none 0 0, .int .i64 0, .slice none 0 0] 36 (0, 0)) (by (with_reducible repeat (first | refine blk_drewN ?_ _ | refine blk_drew ?_ | refine blk_alloc ?_ _)); exact BK151.out) hb)
                                    have n3_ := Aside0.mk (below_step (by repeat (first | (with_reducible first | exact HB.out | apply below_alloc | apply pw_below_drewN | apply below_drew1 | refine below_set ?_ GE151.out) | exact HB.out)) hb)
                                    clear HO_4
                                    clear BK151
                                    clear HB
                                    have HO_4 := n0_
                                    have HO162 := n1_
                                    have BK151 := n2_
                                    have HB := n3_
                                    clear n0_ n1_ n2_ n3_
                                    clear hb ho26
                                    refine hK.out _ _ ⟨HS0_, HS1_⟩ (fun hHeld => ?_)
                                    clear hK K
                                    refine norm_ (a' := ?_) ?_ ?_
                                    rotate_left
                                    · show Act.put _ (some 29) _ = _
                                      simp only [Act.put, List.setIfInBounds_toArray, List.set_cons_zero, List.set_cons_succ, i64_w, i32_w]
                                      rfl
                                    exact norm_ (by first | (simp only [putAll, Act.put, List.setIfInBounds_toArray, List.set_cons_zero, List.set_cons_succ]; done) | (simp only [putAll, Act.put, List.setIfInBounds_toArray, List.set_cons_zero, List.set_cons_succ]; rfl)) (hJ3_4 (v161) _ ⟨hHeld, (by (with_reducible repeat (first | apply Kd.R_alloc | apply Kd.R_drewN | apply Kd.R_drew)); exact HO162.out), (by (with_reducible repeat (first | apply Kd.R_alloc | apply Kd.R_drewN | apply Kd.R_drew)); exact HO_4.out), (by (with_reducible repeat (first | refine blk_drewN ?_ _ | refine blk_drew ?_ | refine blk_alloc ?_ _)); exact BK151.out), (by repeat (first | (with_reducible first | exact HB.out | apply below_alloc | apply pw_below_drewN | apply below_drew1 | refine below_set ?_ GE151.out) | exact HB.out))⟩)
                                  · skip
                                    refine goes_ Tryd.func23 (by kernel_rfl) rfl #[.string (rdOf ByteArray.empty t152 2)] (by rfl) rfl rfl (by (try simp only [List.map_toArray, List.map_cons, List.map_nil]); first | done | rfl | (simp only [List.length_drop, List.length_take]; rfl)) ?_
                                    with_reducible refine (spec_l1Digits.calls kj2 (rdOf ByteArray.empty t152 2) t164 _ A19.out).mono ?_
                                    rintro e w' ⟨rfl, ⟨nd, rfl⟩⟩
                                    refine ⟨_, rfl, ?_⟩
                                    refine hK.out _ _ ⟨hHeld.1, hHeld.2⟩ (fun hHeld => ?_)
                                    clear hK K
                                    refine norm_ (a' := ?_) ?_ ?_
                                    rotate_left
                                    · show Act.put _ (some 33) _ = _
                                      simp only [Act.put, List.setIfInBounds_toArray, List.set_cons_zero, List.set_cons_succ, i64_w, i32_w]
                                      rfl
                                    exact norm_ (by first | (simp only [putAll, Act.put, List.setIfInBounds_toArray, List.set_cons_zero, List.set_cons_succ]; done) | (simp only [putAll, Act.put, List.setIfInBounds_toArray, List.set_cons_zero, List.set_cons_succ]; rfl)) (hJ3_8 () _ ⟨hHeld, (by (with_reducible repeat (first | apply Kd.R_alloc | apply Kd.R_drewN | apply Kd.R_drew)); exact HO_4.out), (by (with_reducible repeat (first | refine blk_drewN ?_ _ | refine blk_drew ?_ | refine blk_alloc ?_ _)); exact BK151.out), (by repeat (first | (with_reducible first | exact HB.out | apply below_alloc | apply pw_below_drewN | apply below_drew1 | refine below_set ?_ GE151.out) | exact HB.out))⟩)
                                  · skip
                                    refine box_step ?hg (N := 5) ?hd (cs := #[.slice none 0 0, .int .i64 0, .slice none 0 0]) (t := 36) ?hr ?_; (case hd => rfl); (case hg => rfl); (case hr => first | (go_simp; done) | (go_simp; rfl))
                                    intro gb165 hg w25 hbox hb
                                    have HS0_ := (hb.cell (World.block_lt_of_cell? _ _ (hHeld.1))).trans (hHeld.1)
                                    have HS1_ := (hb.cell (World.block_lt_of_cell? _ _ (hHeld.2))).trans (hHeld.2)
                                    have n0_ := Aside0.mk (Kd.R_below (by (with_reducible repeat (first | apply Kd.R_alloc | apply Kd.R_drewN | apply Kd.R_drew)); exact HO_4.out) hb)
                                    have n1_ := Aside0.mk (blk_below (g := gb151) (o := .cells #[.slice none 0 0, .int .i64 0, .slice none 0 0] 36 (0, 0)) (by (with_reducible repeat (first | refine blk_drewN ?_ _ | refine blk_drew ?_ | refine blk_alloc ?_ _)); exact BK151.out) hb)
                                    have n2_ := Aside0.mk (below_step (by repeat (first | (with_reducible first | exact HB.out | apply below_alloc | apply pw_below_drewN | apply below_drew1 | refine below_set ?_ GE151.out) | exact HB.out)) hb)
                                    have n3_ := Aside0.mk (hbox)
                                    have n4_ := Aside0.mk ((by rw [hg]; exact (below_size (by repeat (first | (with_reducible first | exact HB.out | apply below_alloc | apply pw_below_drewN | apply below_drew1 | refine below_set ?_ GE151.out) | exact HB.out))) : w.heap.size ≤ gb165))
                                    have n5_ := Aside0.mk ((by rw [hg]; exact (below_size (by repeat (first | (with_reducible first | exact HB.out | apply below_alloc | apply pw_below_drewN | apply below_drew1 | refine below_set ?_ GE151.out) | exact HB.out))) : w.heap.size ≤ gb165))
                                    have n6_ := Aside0.mk ((by rw [hg]; exact Nat.ne_of_lt (blk_lt (g := gb151) (o := .cells #[.slice none 0 0, .int .i64 0, .slice none 0 0] 36 (0, 0)) (by (with_reducible repeat (first | refine blk_drewN ?_ _ | refine blk_drew ?_ | refine blk_alloc ?_ _)); exact BK151.out)) : gb151 ≠ gb165))
                                    have n7_ := Aside0.mk ((by rw [hg]; exact Nat.ne_of_gt (blk_lt (g := gb151) (o := .cells #[.slice none 0 0, .int .i64 0, .slice none 0 0] 36 (0, 0)) (by (with_reducible repeat (first | refine blk_drewN ?_ _ | refine blk_drew ?_ | refine blk_alloc ?_ _)); exact BK151.out)) : gb165 ≠ gb151))
                                    clear HO_4
                                    clear BK151
                                    clear HB
                                    have HO_4 := n0_
                                    have BK151 := n1_
                                    have HB := n2_
                                    have BK165 := n3_
                                    have GW165 := n4_
                                    have GE165 := n5_
                                    have NB151_165 := n6_
                                    have NB165_151 := n7_
                                    clear n0_ n1_ n2_ n3_ n4_ n5_ n6_ n7_
                                    clear hb hbox hg
                                    refine hK.out _ _ ⟨HS0_, HS1_⟩ (fun hHeld => ?_)
                                    clear hK K
                                    refine norm_ (a' := ?_) ?_ ?_
                                    rotate_left
                                    · show Act.put _ (some 5) _ = _
                                      simp only [Act.put, List.setIfInBounds_toArray, List.set_cons_zero, List.set_cons_succ, i64_w, i32_w]
                                      rfl
                                    exact norm_ (by first | (simp only [putAll, Act.put, List.setIfInBounds_toArray, List.set_cons_zero, List.set_cons_succ]; done) | (simp only [putAll, Act.put, List.setIfInBounds_toArray, List.set_cons_zero, List.set_cons_succ]; rfl)) (hJ3_10 (gb165) _ ⟨hHeld, (by (with_reducible repeat (first | apply Kd.R_alloc | apply Kd.R_drewN | apply Kd.R_drew)); exact HO_4.out), (by (with_reducible repeat (first | refine blk_drewN ?_ _ | refine blk_drew ?_ | refine blk_alloc ?_ _)); exact BK151.out), (by (with_reducible repeat (first | refine blk_drewN ?_ _ | refine blk_drew ?_ | refine blk_alloc ?_ _)); exact BK165.out), GW165.out, GE165.out, NB151_165.out, NB165_151.out, (by repeat (first | (with_reducible first | exact HB.out | apply below_alloc | apply pw_below_drewN | apply below_drew1 | refine below_set ?_ GE151.out | refine below_set ?_ GE165.out) | exact HB.out))⟩)
                              · skip
                                rintro gb165 w25 ⟨hS_, h0_, h1_, h2_, h3_, h4_, h5_, h6_, h7_⟩
                                have n0_ : Aside0 (Kd.R Kd.string 9 w25 w.heap.size (fun _ => True) (.slice (some ad158) t152.length co23) t152) := ⟨h0_⟩
                                have n1_ : Aside0 (w25.heap[gb151]? = some (.cells #[.slice none 0 0, .int .i64 0, .slice none 0 0] 36 (0, 0))) := ⟨h1_⟩
                                have n2_ : Aside0 (w25.heap[gb165]? = some (.cells #[.slice none 0 0, .int .i64 0, .slice none 0 0] 36 (0, 0))) := ⟨h2_⟩
                                have n3_ : Aside0 (w.heap.size ≤ gb165) := ⟨h3_⟩
                                have n4_ : Aside0 (w.heap.size ≤ gb165) := ⟨h4_⟩
                                have n5_ : Aside0 (gb151 ≠ gb165) := ⟨h5_⟩
                                have n6_ : Aside0 (gb165 ≠ gb151) := ⟨h6_⟩
                                have n7_ : Aside0 (Below w.heap.size w w25) := ⟨h7_⟩
                                clear HO_4
                                clear BK151
                                clear HB
                                clear h0_ h1_ h2_ h3_ h4_ h5_ h6_ h7_
                                have HO_4 := n0_
                                have BK151 := n1_
                                have BK165 := n2_
                                have GW165 := n3_
                                have GE165 := n4_
                                have NB151_165 := n5_
                                have NB165_151 := n6_
                                have HB := n7_
                                clear n0_ n1_ n2_ n3_ n4_ n5_ n6_ n7_
                                have hHeld : w25.cell? ad158 = some (.string (rdOf ByteArray.empty t152 0)) ∧ w25.cell? ⟨ad158.block, ad158.off + 2, none⟩ = some (.string (rdOf ByteArray.empty t152 2)) := hS_
                                refine norm_ (a' := ?_) ?_ ?_
                                rotate_left
                                · simp only [putAll, Act.put, List.setIfInBounds_toArray, List.set_cons_zero, List.set_cons_succ]
                                  rfl
                                refine two_ (i := 4) (j := 8) (Ni := some 29) (Nj := some 33) #[true, true, true, true, true, true, true, true, false, false, true, false] #[true, true, true, true, false, true, true, true, true, false, true, false] rfl rfl rfl rfl (two_of HT_.out (by kernel_rfl)) (by decide) (by decide) (fun K hK => ?_) (fun K hK => ?_)
                                · skip
                                  refine Kd.R_make_step (Kd.int .i64) _ 3 (by rfl) (N := 29) rfl 34 _ _ rfl t159 rfl rfl Tryd.underlying34 (.int .i64 0) 8 info3 rfl (by decide) (by omega) 0 (ok := fun _ => True) (okp := fun _ => True) rfl (fun _ hk => hk) trivial (of_decide_eq_true (by first | (with_reducible assumption) | assumption)) (Nat.le_trans (Nat.mul_le_mul_right _ (of_decide_eq_true (by first | (with_reducible assumption) | assumption) : t159.toNat ≤ 35184372088832)) (by omega)) (Below.refl _ _) (Nat.le_refl _) ?_
                                  intro v161 w26 ho27 hb hg_ hnew_
                                  have HS0_ := (hb.cell (World.block_lt_of_cell? _ _ (hHeld.1))).trans (hHeld.1)
                                  have HS1_ := (hb.cell (World.block_lt_of_cell? _ _ (hHeld.2))).trans (hHeld.2)
                                  clear hg_ hnew_
                                  (first | rw [← Ny160.out] at ho27 | (simp only [Int.reduceToNat] at ho27; rw [← Ny160.out] at ho27))
                                  have n0_ := Aside0.mk (Kd.R_below (by (with_reducible repeat (first | apply Kd.R_alloc | apply Kd.R_drewN | apply Kd.R_drew)); exact HO_4.out) hb)
                                  have n1_ := Aside0.mk (Kd.R_lower ho27 (below_size (by repeat (first | (with_reducible first | exact HB.out | apply below_alloc | apply pw_below_drewN | apply below_drew1 | refine below_set ?_ GE151.out | refine below_set ?_ GE165.out) | exact HB.out))))
                                  have n2_ := Aside0.mk (blk_below (g := gb151) (o := .cells #[.slice none 0 0, .int .i64 0, .slice none 0 0] 36 (0, 0)) (by (with_reducible repeat (first | refine blk_drewN ?_ _ | refine blk_drew ?_ | refine blk_alloc ?_ _)); exact BK151.out) hb)
                                  have n3_ := Aside0.mk (blk_below (g := gb165) (o := .cells #[.slice none 0 0, .int .i64 0, .slice none 0 0] 36 (0, 0)) (by (with_reducible repeat (first | refine blk_drewN ?_ _ | refine blk_drew ?_ | refine blk_alloc ?_ _)); exact BK165.out) hb)
                                  have n4_ := Aside0.mk (below_step (by repeat (first | (with_reducible first | exact HB.out | apply below_alloc | apply pw_below_drewN | apply below_drew1 | refine below_set ?_ GE151.out | refine below_set ?_ GE165.out) | exact HB.out)) hb)
                                  clear HO_4
                                  clear BK151
                                  clear BK165
                                  clear HB
                                  have HO_4 := n0_
                                  have HO162 := n1_
                                  have BK151 := n2_
                                  have BK165 := n3_
                                  have HB := n4_
                                  clear n0_ n1_ n2_ n3_ n4_
                                  clear hb ho27
                                  refine hK.out _ _ ⟨HS0_, HS1_⟩ (fun hHeld => ?_)
                                  clear hK K
                                  refine norm_ (a' := ?_) ?_ ?_
                                  rotate_left
                                  · show Act.put _ (some 29) _ = _
                                    simp only [Act.put, List.setIfInBounds_toArray, List.set_cons_zero, List.set_cons_succ, i64_w, i32_w]
                                    rfl
                                  exact norm_ (by first | (simp only [putAll, Act.put, List.setIfInBounds_toArray, List.set_cons_zero, List.set_cons_succ]; done) | (simp only [putAll, Act.put, List.setIfInBounds_toArray, List.set_cons_zero, List.set_cons_succ]; rfl)) (hJ3_4_10 (v161, gb165) _ ⟨hHeld, (by (with_reducible repeat (first | apply Kd.R_alloc | apply Kd.R_drewN | apply Kd.R_drew)); exact HO162.out), (by (with_reducible repeat (first | apply Kd.R_alloc | apply Kd.R_drewN | apply Kd.R_drew)); exact HO_4.out), (by (with_reducible repeat (first | refine blk_drewN ?_ _ | refine blk_drew ?_ | refine blk_alloc ?_ _)); exact BK151.out), (by (with_reducible repeat (first | refine blk_drewN ?_ _ | refine blk_drew ?_ | refine blk_alloc ?_ _)); exact BK165.out), GW165.out, GE165.out, NB151_165.out, NB165_151.out, (by repeat (first | (with_reducible first | exact HB.out | apply below_alloc | apply pw_below_drewN | apply below_drew1 | refine below_set ?_ GE151.out | refine below_set ?_ GE165.out) | exact HB.out))⟩)
                                · skip
                                  refine goes_ Tryd.func23 (by kernel_rfl) rfl #[.string (rdOf ByteArray.empty t152 2)] (by rfl) rfl rfl (by (try simp only [List.map_toArray, List.map_cons, List.map_nil]); first | done | rfl | (simp only [List.length_drop, List.length_take]; rfl)) ?_
                                  with_reducible refine (spec_l1Digits.calls kj2 (rdOf ByteArray.empty t152 2) t164 _ A19.out).mono ?_
                                  rintro e w' ⟨rfl, ⟨nd, rfl⟩⟩
                                  refine ⟨_, rfl, ?_⟩
                                  refine hK.out _ _ ⟨hHeld.1, hHeld.2⟩ (fun hHeld => ?_)
                                  clear hK K
                                  refine norm_ (a' := ?_) ?_ ?_
                                  rotate_left
                                  · show Act.put _ (some 33) _ = _
                                    simp only [Act.put, List.setIfInBounds_toArray, List.set_cons_zero, List.set_cons_succ, i64_w, i32_w]
                                    rfl
                                  exact norm_ (by first | (simp only [putAll, Act.put, List.setIfInBounds_toArray, List.set_cons_zero, List.set_cons_succ]; done) | (simp only [putAll, Act.put, List.setIfInBounds_toArray, List.set_cons_zero, List.set_cons_succ]; rfl)) (hJ3_8_10 (gb165) _ ⟨hHeld, (by (with_reducible repeat (first | apply Kd.R_alloc | apply Kd.R_drewN | apply Kd.R_drew)); exact HO_4.out), (by (with_reducible repeat (first | refine blk_drewN ?_ _ | refine blk_drew ?_ | refine blk_alloc ?_ _)); exact BK151.out), (by (with_reducible repeat (first | refine blk_drewN ?_ _ | refine blk_drew ?_ | refine blk_alloc ?_ _)); exact BK165.out), GW165.out, GE165.out, NB151_165.out, NB165_151.out, (by repeat (first | (with_reducible first | exact HB.out | apply below_alloc | apply pw_below_drewN | apply below_drew1 | refine below_set ?_ GE151.out | refine below_set ?_ GE165.out) | exact HB.out))⟩)
                            · skip
                              rintro _ w24 ⟨hS_, h0_, h1_, h2_⟩
                              have n0_ : Aside0 (Kd.R Kd.string 9 w24 w.heap.size (fun _ => True) (.slice (some ad158) t152.length co23) t152) := ⟨h0_⟩
                              have n1_ : Aside0 (w24.heap[gb151]? = some (.cells #[.slice none 0 0, .int .i64 0, .slice none 0 0] 36 (0, 0))) := ⟨h1_⟩
                              have n2_ : Aside0 (Below w.heap.size w w24) := ⟨h2_⟩
                              clear HO_4
                              clear BK151
                              clear HB
                              clear h0_ h1_ h2_
                              have HO_4 := n0_
                              have BK151 := n1_
                              have HB := n2_
                              clear n0_ n1_ n2_
                              have hHeld : w24.cell? ad158 = some (.string (rdOf ByteArray.empty t152 0)) ∧ w24.cell? ⟨ad158.block, ad158.off + 2, none⟩ = some (.string (rdOf ByteArray.empty t152 2)) := hS_
                              refine norm_ (a' := ?_) ?_ ?_
                              rotate_left
                              · simp only [putAll, Act.put, List.setIfInBounds_toArray, List.set_cons_zero, List.set_cons_succ]
                                rfl
                              refine two_ (i := 4) (j := 10) (Ni := some 29) (Nj := some 5) #[true, true, true, true, true, true, true, true, true, false, false, false] #[true, true, true, true, false, true, true, true, true, false, true, false] rfl rfl rfl rfl (two_of HT_.out (by kernel_rfl)) (by decide) (by decide) (fun K hK => ?_) (fun K hK => ?_)
                              · skip
                                refine Kd.R_make_step (Kd.int .i64) _ 3 (by rfl) (N := 29) rfl 34 _ _ rfl t159 rfl rfl Tryd.underlying34 (.int .i64 0) 8 info3 rfl (by decide) (by omega) 0 (ok := fun _ => True) (okp := fun _ => True) rfl (fun _ hk => hk) trivial (of_decide_eq_true (by first | (with_reducible assumption) | assumption)) (Nat.le_trans (Nat.mul_le_mul_right _ (of_decide_eq_true (by first | (with_reducible assumption) | assumption) : t159.toNat ≤ 35184372088832)) (by omega)) (Below.refl _ _) (Nat.le_refl _) ?_
                                intro v161 w25 ho26 hb hg_ hnew_
                                have HS0_ := (hb.cell (World.block_lt_of_cell? _ _ (hHeld.1))).trans (hHeld.1)
                                have HS1_ := (hb.cell (World.block_lt_of_cell? _ _ (hHeld.2))).trans (hHeld.2)
                                clear hg_ hnew_
                                (first | rw [← Ny160.out] at ho26 | (simp only [Int.reduceToNat] at ho26; rw [← Ny160.out] at ho26))
                                have n0_ := Aside0.mk (Kd.R_below (by (with_reducible repeat (first | apply Kd.R_alloc | apply Kd.R_drewN | apply Kd.R_drew)); exact HO_4.out) hb)
                                have n1_ := Aside0.mk (Kd.R_lower ho26 (below_size (by repeat (first | (with_reducible first | exact HB.out | apply below_alloc | apply pw_below_drewN | apply below_drew1 | refine below_set ?_ GE151.out) | exact HB.out))))
                                have n2_ := Aside0.mk (blk_below (g := gb151) (o := .cells #[.slice none 0 0, .int .i64 0, .slice none 0 0] 36 (0, 0)) (by (with_reducible repeat (first | refine blk_drewN ?_ _ | refine blk_drew ?_ | refine blk_alloc ?_ _)); exact BK151.out) hb)
                                have n3_ := Aside0.mk (below_step (by repeat (first | (with_reducible first | exact HB.out | apply below_alloc | apply pw_below_drewN | apply below_drew1 | refine below_set ?_ GE151.out) | exact HB.out)) hb)
                                clear HO_4
                                clear BK151
                                clear HB
                                have HO_4 := n0_
                                have HO162 := n1_
                                have BK151 := n2_
                                have HB := n3_
                                clear n0_ n1_ n2_ n3_
                                clear hb ho26
                                obtain ⟨Ao27, co27, eo27⟩ := Kd.R_slice HO162.out
                                (first | subst eo27 | (injection eo27 with f1_ f2_ f3_; have f4_ := f1_.symm; have f5_ := f3_.symm; clear f1_ f2_ f3_; subst f4_; subst f5_))
                                refine hK.out _ _ ⟨HS0_, HS1_⟩ (fun hHeld => ?_)
                                clear hK K
                                refine norm_ (a' := ?_) ?_ ?_
                                rotate_left
                                · show Act.put _ (some 29) _ = _
                                  simp only [Act.put, List.setIfInBounds_toArray, List.set_cons_zero, List.set_cons_succ, i64_w, i32_w]
                                  rfl
                                refine pure_ (i := 9) (N := some 34) (v := ?_) (a' := ?_) #[true, true, true, true, true, true, true, true, true, true, false, false] rfl rfl (any_of HT_.out (by kernel_rfl)) (fun _ _ _ h => h) (Or.inl ⟨by rfl, ?_⟩) ?_ ?_
                                rotate_left
                                · intro w'
                                  go_simp
                                  with_reducible rfl
                                rotate_left
                                · simp only [Act.put, List.setIfInBounds_toArray, List.set_cons_zero, List.set_cons_succ, i64_w, i32_w]
                                  rfl
                                exact norm_ (by first | (simp only [putAll, Act.put, List.setIfInBounds_toArray, List.set_cons_zero, List.set_cons_succ]; done) | (simp only [putAll, Act.put, List.setIfInBounds_toArray, List.set_cons_zero, List.set_cons_succ]; rfl)) (hJ3_4_8 (.slice Ao27 y160.length co27) _ ⟨hHeld, (by (with_reducible repeat (first | apply Kd.R_alloc | apply Kd.R_drewN | apply Kd.R_drew)); exact HO162.out), (by (with_reducible repeat (first | apply Kd.R_alloc | apply Kd.R_drewN | apply Kd.R_drew)); exact HO_4.out), (by (with_reducible repeat (first | refine blk_drewN ?_ _ | refine blk_drew ?_ | refine blk_alloc ?_ _)); exact BK151.out), (by repeat (first | (with_reducible first | exact HB.out | apply below_alloc | apply pw_below_drewN | apply below_drew1 | refine below_set ?_ GE151.out) | exact HB.out))⟩)
                              · skip
                                refine box_step ?hg (N := 5) ?hd (cs := #[.slice none 0 0, .int .i64 0, .slice none 0 0]) (t := 36) ?hr ?_; (case hd => rfl); (case hg => rfl); (case hr => first | (go_simp; done) | (go_simp; rfl))
                                intro gb165 hg w25 hbox hb
                                have HS0_ := (hb.cell (World.block_lt_of_cell? _ _ (hHeld.1))).trans (hHeld.1)
                                have HS1_ := (hb.cell (World.block_lt_of_cell? _ _ (hHeld.2))).trans (hHeld.2)
                                have n0_ := Aside0.mk (Kd.R_below (by (with_reducible repeat (first | apply Kd.R_alloc | apply Kd.R_drewN | apply Kd.R_drew)); exact HO_4.out) hb)
                                have n1_ := Aside0.mk (blk_below (g := gb151) (o := .cells #[.slice none 0 0, .int .i64 0, .slice none 0 0] 36 (0, 0)) (by (with_reducible repeat (first | refine blk_drewN ?_ _ | refine blk_drew ?_ | refine blk_alloc ?_ _)); exact BK151.out) hb)
                                have n2_ := Aside0.mk (below_step (by repeat (first | (with_reducible first | exact HB.out | apply below_alloc | apply pw_below_drewN | apply below_drew1 | refine below_set ?_ GE151.out) | exact HB.out)) hb)
                                have n3_ := Aside0.mk (hbox)
                                have n4_ := Aside0.mk ((by rw [hg]; exact (below_size (by repeat (first | (with_reducible first | exact HB.out | apply below_alloc | apply pw_below_drewN | apply below_drew1 | refine below_set ?_ GE151.out) | exact HB.out))) : w.heap.size ≤ gb165))
                                have n5_ := Aside0.mk ((by rw [hg]; exact (below_size (by repeat (first | (with_reducible first | exact HB.out | apply below_alloc | apply pw_below_drewN | apply below_drew1 | refine below_set ?_ GE151.out) | exact HB.out))) : w.heap.size ≤ gb165))
                                have n6_ := Aside0.mk ((by rw [hg]; exact Nat.ne_of_lt (blk_lt (g := gb151) (o := .cells #[.slice none 0 0, .int .i64 0, .slice none 0 0] 36 (0, 0)) (by (with_reducible repeat (first | refine blk_drewN ?_ _ | refine blk_drew ?_ | refine blk_alloc ?_ _)); exact BK151.out)) : gb151 ≠ gb165))
                                have n7_ := Aside0.mk ((by rw [hg]; exact Nat.ne_of_gt (blk_lt (g := gb151) (o := .cells #[.slice none 0 0, .int .i64 0, .slice none 0 0] 36 (0, 0)) (by (with_reducible repeat (first | refine blk_drewN ?_ _ | refine blk_drew ?_ | refine blk_alloc ?_ _)); exact BK151.out)) : gb165 ≠ gb151))
                                clear HO_4
                                clear BK151
                                clear HB
                                have HO_4 := n0_
                                have BK151 := n1_
                                have HB := n2_
                                have BK165 := n3_
                                have GW165 := n4_
                                have GE165 := n5_
                                have NB151_165 := n6_
                                have NB165_151 := n7_
                                clear n0_ n1_ n2_ n3_ n4_ n5_ n6_ n7_
                                clear hb hbox hg
                                refine hK.out _ _ ⟨HS0_, HS1_⟩ (fun hHeld => ?_)
                                clear hK K
                                refine norm_ (a' := ?_) ?_ ?_
                                rotate_left
                                · show Act.put _ (some 5) _ = _
                                  simp only [Act.put, List.setIfInBounds_toArray, List.set_cons_zero, List.set_cons_succ, i64_w, i32_w]
                                  rfl
                                exact norm_ (by first | (simp only [putAll, Act.put, List.setIfInBounds_toArray, List.set_cons_zero, List.set_cons_succ]; done) | (simp only [putAll, Act.put, List.setIfInBounds_toArray, List.set_cons_zero, List.set_cons_succ]; rfl)) (hJ3_8_10 (gb165) _ ⟨hHeld, (by (with_reducible repeat (first | apply Kd.R_alloc | apply Kd.R_drewN | apply Kd.R_drew)); exact HO_4.out), (by (with_reducible repeat (first | refine blk_drewN ?_ _ | refine blk_drew ?_ | refine blk_alloc ?_ _)); exact BK151.out), (by (with_reducible repeat (first | refine blk_drewN ?_ _ | refine blk_drew ?_ | refine blk_alloc ?_ _)); exact BK165.out), GW165.out, GE165.out, NB151_165.out, NB165_151.out, (by repeat (first | (with_reducible first | exact HB.out | apply below_alloc | apply pw_below_drewN | apply below_drew1 | refine below_set ?_ GE151.out | refine below_set ?_ GE165.out) | exact HB.out))⟩)
                          · skip
                            rintro v161 w26 ⟨hS_, h0_, h1_, h2_, h3_⟩
                            have n0_ : Aside0 (Kd.R (Kd.int .i64) 3 w26 w.heap.size (fun _ => True) v161 y160) := ⟨h0_⟩
                            have n1_ : Aside0 (Kd.R Kd.string 9 w26 w.heap.size (fun _ => True) (.slice (some ad158) t152.length co23) t152) := ⟨h1_⟩
                            have n2_ : Aside0 (w26.heap[gb151]? = some (.cells #[.slice none 0 0, .int .i64 0, .slice none 0 0] 36 (0, 0))) := ⟨h2_⟩
                            have n3_ : Aside0 (Below w.heap.size w w26) := ⟨h3_⟩
                            clear HO_4
                            clear BK151
                            clear HB
                            clear h0_ h1_ h2_ h3_
                            have HO162 := n0_
                            have HO_4 := n1_
                            have BK151 := n2_
                            have HB := n3_
                            clear n0_ n1_ n2_ n3_
                            have hHeld : w26.cell? ad158 = some (.string (rdOf ByteArray.empty t152 0)) ∧ w26.cell? ⟨ad158.block, ad158.off + 2, none⟩ = some (.string (rdOf ByteArray.empty t152 2)) := hS_
                            refine norm_ (a' := ?_) ?_ ?_
                            rotate_left
                            · simp only [putAll, Act.put, List.setIfInBounds_toArray, List.set_cons_zero, List.set_cons_succ]
                              rfl
                            refine two_ (i := 8) (j := 10) (Ni := some 33) (Nj := some 5) #[true, true, true, true, true, true, true, true, true, false, false, false] #[true, true, true, true, true, true, true, true, false, false, true, false] rfl rfl rfl rfl (two_of HT_.out (by kernel_rfl)) (by decide) (by decide) (fun K hK => ?_) (fun K hK => ?_)
                            · skip
                              refine goes_ Tryd.func23 (by kernel_rfl) rfl #[.string (rdOf ByteArray.empty t152 2)] (by rfl) rfl rfl (by (try simp only [List.map_toArray, List.map_cons, List.map_nil]); first | done | rfl | (simp only [List.length_drop, List.length_take]; rfl)) ?_
                              with_reducible refine (spec_l1Digits.calls kj2 (rdOf ByteArray.empty t152 2) t164 _ A19.out).mono ?_
                              rintro e w' ⟨rfl, ⟨nd, rfl⟩⟩
                              refine ⟨_, rfl, ?_⟩
                              obtain ⟨Ao27, co27, eo27⟩ := Kd.R_slice HO162.out
                              (first | subst eo27 | (injection eo27 with f1_ f2_ f3_; have f4_ := f1_.symm; have f5_ := f3_.symm; clear f1_ f2_ f3_; subst f4_; subst f5_))
                              refine hK.out _ _ ⟨hHeld.1, hHeld.2⟩ (fun hHeld => ?_)
                              clear hK K
                              refine norm_ (a' := ?_) ?_ ?_
                              rotate_left
                              · show Act.put _ (some 33) _ = _
                                simp only [Act.put, List.setIfInBounds_toArray, List.set_cons_zero, List.set_cons_succ, i64_w, i32_w]
                                rfl
                              refine pure_ (i := 9) (N := some 34) (v := ?_) (a' := ?_) #[true, true, true, true, true, true, true, true, true, true, false, false] rfl rfl (any_of HT_.out (by kernel_rfl)) (fun _ _ _ h => h) (Or.inl ⟨by rfl, ?_⟩) ?_ ?_
                              rotate_left
                              · intro w'
                                go_simp
                                with_reducible rfl
                              rotate_left
                              · simp only [Act.put, List.setIfInBounds_toArray, List.set_cons_zero, List.set_cons_succ, i64_w, i32_w]
                                rfl
                              exact norm_ (by first | (simp only [putAll, Act.put, List.setIfInBounds_toArray, List.set_cons_zero, List.set_cons_succ]; done) | (simp only [putAll, Act.put, List.setIfInBounds_toArray, List.set_cons_zero, List.set_cons_succ]; rfl)) (hJ3_4_8 (.slice Ao27 y160.length co27) _ ⟨hHeld, (by (with_reducible repeat (first | apply Kd.R_alloc | apply Kd.R_drewN | apply Kd.R_drew)); exact HO162.out), (by (with_reducible repeat (first | apply Kd.R_alloc | apply Kd.R_drewN | apply Kd.R_drew)); exact HO_4.out), (by (with_reducible repeat (first | refine blk_drewN ?_ _ | refine blk_drew ?_ | refine blk_alloc ?_ _)); exact BK151.out), (by repeat (first | (with_reducible first | exact HB.out | apply below_alloc | apply pw_below_drewN | apply below_drew1 | refine below_set ?_ GE151.out) | exact HB.out))⟩)
                            · skip
                              refine box_step ?hg (N := 5) ?hd (cs := #[.slice none 0 0, .int .i64 0, .slice none 0 0]) (t := 36) ?hr ?_; (case hd => rfl); (case hg => rfl); (case hr => first | (go_simp; done) | (go_simp; rfl))
                              intro gb165 hg w27 hbox hb
                              have HS0_ := (hb.cell (World.block_lt_of_cell? _ _ (hHeld.1))).trans (hHeld.1)
                              have HS1_ := (hb.cell (World.block_lt_of_cell? _ _ (hHeld.2))).trans (hHeld.2)
                              have n0_ := Aside0.mk (Kd.R_below (by (with_reducible repeat (first | apply Kd.R_alloc | apply Kd.R_drewN | apply Kd.R_drew)); exact HO_4.out) hb)
                              have n1_ := Aside0.mk (Kd.R_below (by (with_reducible repeat (first | apply Kd.R_alloc | apply Kd.R_drewN | apply Kd.R_drew)); exact HO162.out) hb)
                              have n2_ := Aside0.mk (blk_below (g := gb151) (o := .cells #[.slice none 0 0, .int .i64 0, .slice none 0 0] 36 (0, 0)) (by (with_reducible repeat (first | refine blk_drewN ?_ _ | refine blk_drew ?_ | refine blk_alloc ?_ _)); exact BK151.out) hb)
                              have n3_ := Aside0.mk (below_step (by repeat (first | (with_reducible first | exact HB.out | apply below_alloc | apply pw_below_drewN | apply below_drew1 | refine below_set ?_ GE151.out) | exact HB.out)) hb)
                              have n4_ := Aside0.mk (hbox)
                              have n5_ := Aside0.mk ((by rw [hg]; exact (below_size (by repeat (first | (with_reducible first | exact HB.out | apply below_alloc | apply pw_below_drewN | apply below_drew1 | refine below_set ?_ GE151.out) | exact HB.out))) : w.heap.size ≤ gb165))
                              have n6_ := Aside0.mk ((by rw [hg]; exact (below_size (by repeat (first | (with_reducible first | exact HB.out | apply below_alloc | apply pw_below_drewN | apply below_drew1 | refine below_set ?_ GE151.out) | exact HB.out))) : w.heap.size ≤ gb165))
                              have n7_ := Aside0.mk ((by rw [hg]; exact Nat.ne_of_lt (blk_lt (g := gb151) (o := .cells #[.slice none 0 0, .int .i64 0, .slice none 0 0] 36 (0, 0)) (by (with_reducible repeat (first | refine blk_drewN ?_ _ | refine blk_drew ?_ | refine blk_alloc ?_ _)); exact BK151.out)) : gb151 ≠ gb165))
                              have n8_ := Aside0.mk ((by rw [hg]; exact Nat.ne_of_gt (blk_lt (g := gb151) (o := .cells #[.slice none 0 0, .int .i64 0, .slice none 0 0] 36 (0, 0)) (by (with_reducible repeat (first | refine blk_drewN ?_ _ | refine blk_drew ?_ | refine blk_alloc ?_ _)); exact BK151.out)) : gb165 ≠ gb151))
                              clear HO_4
                              clear HO162
                              clear BK151
                              clear HB
                              have HO_4 := n0_
                              have HO162 := n1_
                              have BK151 := n2_
                              have HB := n3_
                              have BK165 := n4_
                              have GW165 := n5_
                              have GE165 := n6_
                              have NB151_165 := n7_
                              have NB165_151 := n8_
                              clear n0_ n1_ n2_ n3_ n4_ n5_ n6_ n7_ n8_
                              clear hb hbox hg
                              refine hK.out _ _ ⟨HS0_, HS1_⟩ (fun hHeld => ?_)
                              clear hK K
                              refine norm_ (a' := ?_) ?_ ?_
                              rotate_left
                              · show Act.put _ (some 5) _ = _
                                simp only [Act.put, List.setIfInBounds_toArray, List.set_cons_zero, List.set_cons_succ, i64_w, i32_w]
                                rfl
                              exact norm_ (by first | (simp only [putAll, Act.put, List.setIfInBounds_toArray, List.set_cons_zero, List.set_cons_succ]; done) | (simp only [putAll, Act.put, List.setIfInBounds_toArray, List.set_cons_zero, List.set_cons_succ]; rfl)) (hJ3_4_10 (v161, gb165) _ ⟨hHeld, (by (with_reducible repeat (first | apply Kd.R_alloc | apply Kd.R_drewN | apply Kd.R_drew)); exact HO162.out), (by (with_reducible repeat (first | apply Kd.R_alloc | apply Kd.R_drewN | apply Kd.R_drew)); exact HO_4.out), (by (with_reducible repeat (first | refine blk_drewN ?_ _ | refine blk_drew ?_ | refine blk_alloc ?_ _)); exact BK151.out), (by (with_reducible repeat (first | refine blk_drewN ?_ _ | refine blk_drew ?_ | refine blk_alloc ?_ _)); exact BK165.out), GW165.out, GE165.out, NB151_165.out, NB165_151.out, (by repeat (first | (with_reducible first | exact HB.out | apply below_alloc | apply pw_below_drewN | apply below_drew1 | refine below_set ?_ GE151.out | refine below_set ?_ GE165.out) | exact HB.out))⟩)
                        · skip
                          rintro gb165 w25 ⟨hS_, h0_, h1_, h2_, h3_, h4_, h5_, h6_, h7_⟩
                          have n0_ : Aside0 (Kd.R Kd.string 9 w25 w.heap.size (fun _ => True) (.slice (some ad158) t152.length co23) t152) := ⟨h0_⟩
                          have n1_ : Aside0 (w25.heap[gb151]? = some (.cells #[.slice none 0 0, .int .i64 0, .slice none 0 0] 36 (0, 0))) := ⟨h1_⟩
                          have n2_ : Aside0 (w25.heap[gb165]? = some (.cells #[.slice none 0 0, .int .i64 0, .slice none 0 0] 36 (0, 0))) := ⟨h2_⟩
                          have n3_ : Aside0 (w.heap.size ≤ gb165) := ⟨h3_⟩
                          have n4_ : Aside0 (w.heap.size ≤ gb165) := ⟨h4_⟩
                          have n5_ : Aside0 (gb151 ≠ gb165) := ⟨h5_⟩
                          have n6_ : Aside0 (gb165 ≠ gb151) := ⟨h6_⟩
                          have n7_ : Aside0 (Below w.heap.size w w25) := ⟨h7_⟩
                          clear HO_4
                          clear BK151
                          clear HB
                          clear h0_ h1_ h2_ h3_ h4_ h5_ h6_ h7_
                          have HO_4 := n0_
                          have BK151 := n1_
                          have BK165 := n2_
                          have GW165 := n3_
                          have GE165 := n4_
                          have NB151_165 := n5_
                          have NB165_151 := n6_
                          have HB := n7_
                          clear n0_ n1_ n2_ n3_ n4_ n5_ n6_ n7_
                          have hHeld : w25.cell? ad158 = some (.string (rdOf ByteArray.empty t152 0)) ∧ w25.cell? ⟨ad158.block, ad158.off + 2, none⟩ = some (.string (rdOf ByteArray.empty t152 2)) := hS_
                          refine norm_ (a' := ?_) ?_ ?_
                          rotate_left
                          · simp only [putAll, Act.put, List.setIfInBounds_toArray, List.set_cons_zero, List.set_cons_succ]
                            rfl
                          refine one_ (i := 4) (N := some 29) #[true, true, true, true, true, true, true, true, true, false, true, false] rfl rfl (one_of HT_.out (by kernel_rfl)) (by decide) (fun K hK => ?_)
                          refine Kd.R_make_step (Kd.int .i64) _ 3 (by rfl) (N := 29) rfl 34 _ _ rfl t159 rfl rfl Tryd.underlying34 (.int .i64 0) 8 info3 rfl (by decide) (by omega) 0 (ok := fun _ => True) (okp := fun _ => True) rfl (fun _ hk => hk) trivial (of_decide_eq_true (by first | (with_reducible assumption) | assumption)) (Nat.le_trans (Nat.mul_le_mul_right _ (of_decide_eq_true (by first | (with_reducible assumption) | assumption) : t159.toNat ≤ 35184372088832)) (by omega)) (Below.refl _ _) (Nat.le_refl _) ?_
                          intro v161 w26 ho27 hb hg_ hnew_
                          have HS0_ := (hb.cell (World.block_lt_of_cell? _ _ (hHeld.1))).trans (hHeld.1)
                          have HS1_ := (hb.cell (World.block_lt_of_cell? _ _ (hHeld.2))).trans (hHeld.2)
                          clear hg_ hnew_
                          (first | rw [← Ny160.out] at ho27 | (simp only [Int.reduceToNat] at ho27; rw [← Ny160.out] at ho27))
                          have n0_ := Aside0.mk (Kd.R_below (by (with_reducible repeat (first | apply Kd.R_alloc | apply Kd.R_drewN | apply Kd.R_drew)); exact HO_4.out) hb)
                          have n1_ := Aside0.mk (Kd.R_lower ho27 (below_size (by repeat (first | (with_reducible first | exact HB.out | apply below_alloc | apply pw_below_drewN | apply below_drew1 | refine below_set ?_ GE151.out | refine below_set ?_ GE165.out) | exact HB.out))))
                          have n2_ := Aside0.mk (blk_below (g := gb151) (o := .cells #[.slice none 0 0, .int .i64 0, .slice none 0 0] 36 (0, 0)) (by (with_reducible repeat (first | refine blk_drewN ?_ _ | refine blk_drew ?_ | refine blk_alloc ?_ _)); exact BK151.out) hb)
                          have n3_ := Aside0.mk (blk_below (g := gb165) (o := .cells #[.slice none 0 0, .int .i64 0, .slice none 0 0] 36 (0, 0)) (by (with_reducible repeat (first | refine blk_drewN ?_ _ | refine blk_drew ?_ | refine blk_alloc ?_ _)); exact BK165.out) hb)
                          have n4_ := Aside0.mk (below_step (by repeat (first | (with_reducible first | exact HB.out | apply below_alloc | apply pw_below_drewN | apply below_drew1 | refine below_set ?_ GE151.out | refine below_set ?_ GE165.out) | exact HB.out)) hb)
                          clear HO_4
                          clear BK151
                          clear BK165
                          clear HB
                          have HO_4 := n0_
                          have HO162 := n1_
                          have BK151 := n2_
                          have BK165 := n3_
                          have HB := n4_
                          clear n0_ n1_ n2_ n3_ n4_
                          clear hb ho27
                          obtain ⟨Ao28, co28, eo28⟩ := Kd.R_slice HO162.out
                          (first | subst eo28 | (injection eo28 with f1_ f2_ f3_; have f4_ := f1_.symm; have f5_ := f3_.symm; clear f1_ f2_ f3_; subst f4_; subst f5_))
                          refine hK.out _ _ ⟨HS0_, HS1_⟩ (fun hHeld => ?_)
                          clear hK K
                          refine norm_ (a' := ?_) ?_ ?_
                          rotate_left
                          · show Act.put _ (some 29) _ = _
                            simp only [Act.put, List.setIfInBounds_toArray, List.set_cons_zero, List.set_cons_succ, i64_w, i32_w]
                            rfl
                          refine pure_ (i := 9) (N := some 34) (v := ?_) (a' := ?_) #[true, true, true, true, true, true, true, true, true, true, true, false] rfl rfl (any_of HT_.out (by kernel_rfl)) (fun _ _ _ h => h) (Or.inl ⟨by rfl, ?_⟩) ?_ ?_
                          rotate_left
                          · intro w'
                            go_simp
                            with_reducible rfl
                          rotate_left
                          · simp only [Act.put, List.setIfInBounds_toArray, List.set_cons_zero, List.set_cons_succ, i64_w, i32_w]
                            rfl
                          exact norm_ (by first | (simp only [putAll, Act.put, List.setIfInBounds_toArray, List.set_cons_zero, List.set_cons_succ]; done) | (simp only [putAll, Act.put, List.setIfInBounds_toArray, List.set_cons_zero, List.set_cons_succ]; rfl)) (hJ3_4_8_10 (.slice Ao28 y160.length co28, gb165) _ ⟨hHeld, (by (with_reducible repeat (first | apply Kd.R_alloc | apply Kd.R_drewN | apply Kd.R_drew)); exact HO162.out), (by (with_reducible repeat (first | apply Kd.R_alloc | apply Kd.R_drewN | apply Kd.R_drew)); exact HO_4.out), (by (with_reducible repeat (first | refine blk_drewN ?_ _ | refine blk_drew ?_ | refine blk_alloc ?_ _)); exact BK151.out), (by (with_reducible repeat (first | refine blk_drewN ?_ _ | refine blk_drew ?_ | refine blk_alloc ?_ _)); exact BK165.out), GW165.out, GE165.out, NB151_165.out, NB165_151.out, (by repeat (first | (with_reducible first | exact HB.out | apply below_alloc | apply pw_below_drewN | apply below_drew1 | refine below_set ?_ GE151.out | refine below_set ?_ GE165.out) | exact HB.out))⟩)
                      · skip
                        rintro ⟨v161, gb165⟩ w27 ⟨hS_, h0_, h1_, h2_, h3_, h4_, h5_, h6_, h7_, h8_⟩
                        have n0_ : Aside0 (Kd.R (Kd.int .i64) 3 w27 w.heap.size (fun _ => True) v161 y160) := ⟨h0_⟩
                        have n1_ : Aside0 (Kd.R Kd.string 9 w27 w.heap.size (fun _ => True) (.slice (some ad158) t152.length co23) t152) := ⟨h1_⟩
                        have n2_ : Aside0 (w27.heap[gb151]? = some (.cells #[.slice none 0 0, .int .i64 0, .slice none 0 0] 36 (0, 0))) := ⟨h2_⟩
                        have n3_ : Aside0 (w27.heap[gb165]? = some (.cells #[.slice none 0 0, .int .i64 0, .slice none 0 0] 36 (0, 0))) := ⟨h3_⟩
                        have n4_ : Aside0 (w.heap.size ≤ gb165) := ⟨h4_⟩
                        have n5_ : Aside0 (w.heap.size ≤ gb165) := ⟨h5_⟩
                        have n6_ : Aside0 (gb151 ≠ gb165) := ⟨h6_⟩
                        have n7_ : Aside0 (gb165 ≠ gb151) := ⟨h7_⟩
                        have n8_ : Aside0 (Below w.heap.size w w27) := ⟨h8_⟩
                        clear HO_4
                        clear BK151
                        clear HB
                        clear h0_ h1_ h2_ h3_ h4_ h5_ h6_ h7_ h8_
                        have HO162 := n0_
                        have HO_4 := n1_
                        have BK151 := n2_
                        have BK165 := n3_
                        have GW165 := n4_
                        have GE165 := n5_
                        have NB151_165 := n6_
                        have NB165_151 := n7_
                        have HB := n8_
                        clear n0_ n1_ n2_ n3_ n4_ n5_ n6_ n7_ n8_
                        have hHeld : w27.cell? ad158 = some (.string (rdOf ByteArray.empty t152 0)) ∧ w27.cell? ⟨ad158.block, ad158.off + 2, none⟩ = some (.string (rdOf ByteArray.empty t152 2)) := hS_
                        refine norm_ (a' := ?_) ?_ ?_
                        rotate_left
                        · simp only [putAll, Act.put, List.setIfInBounds_toArray, List.set_cons_zero, List.set_cons_succ]
                          rfl
                        refine one_ (i := 8) (N := some 33) #[true, true, true, true, true, true, true, true, true, false, true, false] rfl rfl (one_of HT_.out (by kernel_rfl)) (by decide) (fun K hK => ?_)
                        refine goes_ Tryd.func23 (by kernel_rfl) rfl #[.string (rdOf ByteArray.empty t152 2)] (by rfl) rfl rfl (by (try simp only [List.map_toArray, List.map_cons, List.map_nil]); first | done | rfl | (simp only [List.length_drop, List.length_take]; rfl)) ?_
                        with_reducible refine (spec_l1Digits.calls kj2 (rdOf ByteArray.empty t152 2) t164 _ A19.out).mono ?_
                        rintro e w' ⟨rfl, ⟨nd, rfl⟩⟩
                        refine ⟨_, rfl, ?_⟩
                        obtain ⟨Ao28, co28, eo28⟩ := Kd.R_slice HO162.out
                        (first | subst eo28 | (injection eo28 with f1_ f2_ f3_; have f4_ := f1_.symm; have f5_ := f3_.symm; clear f1_ f2_ f3_; subst f4_; subst f5_))
                        refine hK.out _ _ ⟨hHeld.1, hHeld.2⟩ (fun hHeld => ?_)
                        clear hK K
                        refine norm_ (a' := ?_) ?_ ?_
                        rotate_left
                        · show Act.put _ (some 33) _ = _
                          simp only [Act.put, List.setIfInBounds_toArray, List.set_cons_zero, List.set_cons_succ, i64_w, i32_w]
                          rfl
                        refine pure_ (i := 9) (N := some 34) (v := ?_) (a' := ?_) #[true, true, true, true, true, true, true, true, true, true, true, false] rfl rfl (any_of HT_.out (by kernel_rfl)) (fun _ _ _ h => h) (Or.inl ⟨by rfl, ?_⟩) ?_ ?_
                        rotate_left
                        · intro w'
                          go_simp
                          with_reducible rfl
                        rotate_left
                        · simp only [Act.put, List.setIfInBounds_toArray, List.set_cons_zero, List.set_cons_succ, i64_w, i32_w]
                          rfl
                        exact norm_ (by first | (simp only [putAll, Act.put, List.setIfInBounds_toArray, List.set_cons_zero, List.set_cons_succ]; done) | (simp only [putAll, Act.put, List.setIfInBounds_toArray, List.set_cons_zero, List.set_cons_succ]; rfl)) (hJ3_4_8_10 (.slice Ao28 y160.length co28, gb165) _ ⟨hHeld, (by (with_reducible repeat (first | apply Kd.R_alloc | apply Kd.R_drewN | apply Kd.R_drew)); exact HO162.out), (by (with_reducible repeat (first | apply Kd.R_alloc | apply Kd.R_drewN | apply Kd.R_drew)); exact HO_4.out), (by (with_reducible repeat (first | refine blk_drewN ?_ _ | refine blk_drew ?_ | refine blk_alloc ?_ _)); exact BK151.out), (by (with_reducible repeat (first | refine blk_drewN ?_ _ | refine blk_drew ?_ | refine blk_alloc ?_ _)); exact BK165.out), GW165.out, GE165.out, NB151_165.out, NB165_151.out, (by repeat (first | (with_reducible first | exact HB.out | apply below_alloc | apply pw_below_drewN | apply below_drew1 | refine below_set ?_ GE151.out | refine below_set ?_ GE165.out) | exact HB.out))⟩)
                    · skip
                      rintro v161 w27 ⟨hS_, h0_, h1_, h2_, h3_⟩
                      have n0_ : Aside0 (Kd.R (Kd.int .i64) 3 w27 w.heap.size (fun _ => True) v161 y160) := ⟨h0_⟩
                      have n1_ : Aside0 (Kd.R Kd.string 9 w27 w.heap.size (fun _ => True) (.slice (some ad158) t152.length co23) t152) := ⟨h1_⟩
                      have n2_ : Aside0 (w27.heap[gb151]? = some (.cells #[.slice none 0 0, .int .i64 0, .slice none 0 0] 36 (0, 0))) := ⟨h2_⟩
                      have n3_ : Aside0 (Below w.heap.size w w27) := ⟨h3_⟩
                      clear HO_4
                      clear BK151
                      clear HB
                      clear h0_ h1_ h2_ h3_
                      have HO162 := n0_
                      have HO_4 := n1_
                      have BK151 := n2_
                      have HB := n3_
                      clear n0_ n1_ n2_ n3_
                      have hHeld : w27.cell? ad158 = some (.string (rdOf ByteArray.empty t152 0)) ∧ w27.cell? ⟨ad158.block, ad158.off + 2, none⟩ = some (.string (rdOf ByteArray.empty t152 2)) := hS_
                      obtain ⟨Ao28, co28, eo28⟩ := Kd.R_slice HO162.out
                      (first | subst eo28 | (injection eo28 with f1_ f2_ f3_; have f4_ := f1_.symm; have f5_ := f3_.symm; clear f1_ f2_ f3_; subst f4_; subst f5_))
                      refine norm_ (a' := ?_) ?_ ?_
                      rotate_left
                      · simp only [putAll, Act.put, List.setIfInBounds_toArray, List.set_cons_zero, List.set_cons_succ]
                        rfl
                      refine one_ (i := 10) (N := some 5) #[true, true, true, true, true, true, true, true, true, true, true, false] rfl rfl (one_of HT_.out (by kernel_rfl)) (by decide) (fun K hK => ?_)
                      refine box_step ?hg (N := 5) ?hd (cs := #[.slice none 0 0, .int .i64 0, .slice none 0 0]) (t := 36) ?hr ?_; (case hd => rfl); (case hg => rfl); (case hr => first | (go_simp; done) | (go_simp; rfl))
                      intro gb165 hg w29 hbox hb
                      have HS0_ := (hb.cell (World.block_lt_of_cell? _ _ (hHeld.1))).trans (hHeld.1)
                      have HS1_ := (hb.cell (World.block_lt_of_cell? _ _ (hHeld.2))).trans (hHeld.2)
                      have n0_ := Aside0.mk (Kd.R_below (by (with_reducible repeat (first | apply Kd.R_alloc | apply Kd.R_drewN | apply Kd.R_drew)); exact HO_4.out) hb)
                      have n1_ := Aside0.mk (Kd.R_below (by (with_reducible repeat (first | apply Kd.R_alloc | apply Kd.R_drewN | apply Kd.R_drew)); exact HO162.out) hb)
                      have n2_ := Aside0.mk (blk_below (g := gb151) (o := .cells #[.slice none 0 0, .int .i64 0, .slice none 0 0] 36 (0, 0)) (by (with_reducible repeat (first | refine blk_drewN ?_ _ | refine blk_drew ?_ | refine blk_alloc ?_ _)); exact BK151.out) hb)
                      have n3_ := Aside0.mk (below_step (by repeat (first | (with_reducible first | exact HB.out | apply below_alloc | apply pw_below_drewN | apply below_drew1 | refine below_set ?_ GE151.out) | exact HB.out)) hb)
                      have n4_ := Aside0.mk (hbox)
                      have n5_ := Aside0.mk ((by rw [hg]; exact (below_size (by repeat (first | (with_reducible first | exact HB.out | apply below_alloc | apply pw_below_drewN | apply below_drew1 | refine below_set ?_ GE151.out) | exact HB.out))) : w.heap.size ≤ gb165))
                      have n6_ := Aside0.mk ((by rw [hg]; exact (below_size (by repeat (first | (with_reducible first | exact HB.out | apply below_alloc | apply pw_below_drewN | apply below_drew1 | refine below_set ?_ GE151.out) | exact HB.out))) : w.heap.size ≤ gb165))
                      have n7_ := Aside0.mk ((by rw [hg]; exact Nat.ne_of_lt (blk_lt (g := gb151) (o := .cells #[.slice none 0 0, .int .i64 0, .slice none 0 0] 36 (0, 0)) (by (with_reducible repeat (first | refine blk_drewN ?_ _ | refine blk_drew ?_ | refine blk_alloc ?_ _)); exact BK151.out)) : gb151 ≠ gb165))
                      have n8_ := Aside0.mk ((by rw [hg]; exact Nat.ne_of_gt (blk_lt (g := gb151) (o := .cells #[.slice none 0 0, .int .i64 0, .slice none 0 0] 36 (0, 0)) (by (with_reducible repeat (first | refine blk_drewN ?_ _ | refine blk_drew ?_ | refine blk_alloc ?_ _)); exact BK151.out)) : gb165 ≠ gb151))
                      clear HO_4
                      clear HO162
                      clear BK151
                      clear HB
                      have HO_4 := n0_
                      have HO162 := n1_
                      have BK151 := n2_
                      have HB := n3_
                      have BK165 := n4_
                      have GW165 := n5_
                      have GE165 := n6_
                      have NB151_165 := n7_
                      have NB165_151 := n8_
                      clear n0_ n1_ n2_ n3_ n4_ n5_ n6_ n7_ n8_
                      clear hb hbox hg
                      refine hK.out _ _ ⟨HS0_, HS1_⟩ (fun hHeld => ?_)
                      clear hK K
                      refine norm_ (a' := ?_) ?_ ?_
                      rotate_left
                      · show Act.put _ (some 5) _ = _
                        simp only [Act.put, List.setIfInBounds_toArray, List.set_cons_zero, List.set_cons_succ, i64_w, i32_w]
                        rfl
                      exact norm_ (by first | (simp only [putAll, Act.put, List.setIfInBounds_toArray, List.set_cons_zero, List.set_cons_succ]; done) | (simp only [putAll, Act.put, List.setIfInBounds_toArray, List.set_cons_zero, List.set_cons_succ]; rfl)) (hJ3_4_8_10 (.slice Ao28 y160.length co28, gb165) _ ⟨hHeld, (by (with_reducible repeat (first | apply Kd.R_alloc | apply Kd.R_drewN | apply Kd.R_drew)); exact HO162.out), (by (with_reducible repeat (first | apply Kd.R_alloc | apply Kd.R_drewN | apply Kd.R_drew)); exact HO_4.out), (by (with_reducible repeat (first | refine blk_drewN ?_ _ | refine blk_drew ?_ | refine blk_alloc ?_ _)); exact BK151.out), (by (with_reducible repeat (first | refine blk_drewN ?_ _ | refine blk_drew ?_ | refine blk_alloc ?_ _)); exact BK165.out), GW165.out, GE165.out, NB151_165.out, NB165_151.out, (by repeat (first | (with_reducible first | exact HB.out | apply below_alloc | apply pw_below_drewN | apply below_drew1 | refine below_set ?_ GE151.out | refine below_set ?_ GE165.out) | exact HB.out))⟩)
                  rintro ⟨v161, gb165⟩ w28 ⟨hS_, h0_, h1_, h2_, h3_, h4_, h5_, h6_, h7_, h8_⟩
                  have n0_ : Aside0 (Kd.R (Kd.int .i64) 3 w28 w.heap.size (fun _ => True) v161 y160) := ⟨h0_⟩
                  have n1_ : Aside0 (Kd.R Kd.string 9 w28 w.heap.size (fun _ => True) (.slice (some ad158) t152.length co23) t152) := ⟨h1_⟩
                  have n2_ : Aside0 (w28.heap[gb151]? = some (.cells #[.slice none 0 0, .int .i64 0, .slice none 0 0] 36 (0, 0))) := ⟨h2_⟩
                  have n3_ : Aside0 (w28.heap[gb165]? = some (.cells #[.slice none 0 0, .int .i64 0, .slice none 0 0] 36 (0, 0))) := ⟨h3_⟩
                  have n4_ : Aside0 (w.heap.size ≤ gb165) := ⟨h4_⟩
                  have n5_ : Aside0 (w.heap.size ≤ gb165) := ⟨h5_⟩
                  have n6_ : Aside0 (gb151 ≠ gb165) := ⟨h6_⟩
                  have n7_ : Aside0 (gb165 ≠ gb151) := ⟨h7_⟩
                  have n8_ : Aside0 (Below w.heap.size w w28) := ⟨h8_⟩
                  clear HO_4
                  clear BK151
                  clear HB
                  clear h0_ h1_ h2_ h3_ h4_ h5_ h6_ h7_ h8_
                  have HO162 := n0_
                  have HO_4 := n1_
                  have BK151 := n2_
                  have BK165 := n3_
                  have GW165 := n4_
                  have GE165 := n5_
                  have NB151_165 := n6_
                  have NB165_151 := n7_
                  have HB := n8_
                  clear n0_ n1_ n2_ n3_ n4_ n5_ n6_ n7_ n8_
                  have hHeld : w28.cell? ad158 = some (.string (rdOf ByteArray.empty t152 0)) ∧ w28.cell? ⟨ad158.block, ad158.off + 2, none⟩ = some (.string (rdOf ByteArray.empty t152 2)) := hS_
                  obtain ⟨Ao29, co29, eo29⟩ := Kd.R_slice HO162.out
                  (first | subst eo29 | (injection eo29 with f1_ f2_ f3_; have f4_ := f1_.symm; have f5_ := f3_.symm; clear f1_ f2_ f3_; subst f4_; subst f5_))
                  refine norm_ (a' := ?_) ?_ ?_
                  rotate_left
                  · simp only [putAll, Act.put, List.setIfInBounds_toArray, List.set_cons_zero, List.set_cons_succ]
                    rfl
                  refine one_ (i := 11) (N := none) #[true, true, true, true, true, true, true, true, true, true, true, true] rfl rfl (one_of HT_.out (by kernel_rfl)) (by decide) (fun K hK => ?_)
                  have hs30 : w28.cell? ⟨gb165, 0, none⟩ = some (.slice none 0 0) := (blk_cell BK165.out 0).trans rfl
                  have hfs30 := blk_frozen BK165.out 0
                  have hns30_0 := NB151_165.out
                  have hms30_0 := NB165_151.out
                  have hs31 : w28.cell? ⟨gb165, 1, none⟩ = some (.int .i64 0) := (blk_cell BK165.out 1).trans rfl
                  have hfs31 := blk_frozen BK165.out 1
                  have hns31_0 := NB151_165.out
                  have hms31_0 := NB165_151.out
                  have hs32 : w28.cell? ⟨gb165, 2, none⟩ = some (.slice none 0 0) := (blk_cell BK165.out 2).trans rfl
                  have hfs32 := blk_frozen BK165.out 2
                  have hns32_0 := NB151_165.out
                  have hms32_0 := NB165_151.out
                  refine skip_ (w1 := ?_) (by rfl) rfl ?_ ?_
                  rotate_left
                  · go_simp
                    rfl
                  refine hK.out _ _ ⟨((cell_far (p := ⟨gb165, _, none⟩) (by first | exact Kd.own_blk (Kd.R_ne HO_4.out BK165.out (by decide)) | (rw [add_block]; exact Kd.own_blk (Kd.R_ne HO_4.out BK165.out (by decide))) | (show (Addr.add _ _).block ≠ _; rw [add_block]; exact Kd.own_blk (Kd.R_ne HO_4.out BK165.out (by decide))) | (dsimp only; exact Kd.own_blk (Kd.R_ne HO_4.out BK165.out (by decide)))) _).trans (((cell_far (p := ⟨gb165, _, none⟩) (by first | exact Kd.own_blk (Kd.R_ne HO_4.out BK165.out (by decide)) | (rw [add_block]; exact Kd.own_blk (Kd.R_ne HO_4.out BK165.out (by decide))) | (show (Addr.add _ _).block ≠ _; rw [add_block]; exact Kd.own_blk (Kd.R_ne HO_4.out BK165.out (by decide))) | (dsimp only; exact Kd.own_blk (Kd.R_ne HO_4.out BK165.out (by decide)))) _).trans (((cell_far (p := ⟨gb165, _, none⟩) (by first | exact Kd.own_blk (Kd.R_ne HO_4.out BK165.out (by decide)) | (rw [add_block]; exact Kd.own_blk (Kd.R_ne HO_4.out BK165.out (by decide))) | (show (Addr.add _ _).block ≠ _; rw [add_block]; exact Kd.own_blk (Kd.R_ne HO_4.out BK165.out (by decide))) | (dsimp only; exact Kd.own_blk (Kd.R_ne HO_4.out BK165.out (by decide)))) _).trans (hHeld.1)))))), ((cell_far (p := ⟨gb165, _, none⟩) (by first | exact Kd.own_blk (Kd.R_ne HO_4.out BK165.out (by decide)) | (rw [add_block]; exact Kd.own_blk (Kd.R_ne HO_4.out BK165.out (by decide))) | (show (Addr.add _ _).block ≠ _; rw [add_block]; exact Kd.own_blk (Kd.R_ne HO_4.out BK165.out (by decide))) | (dsimp only; exact Kd.own_blk (Kd.R_ne HO_4.out BK165.out (by decide)))) _).trans (((cell_far (p := ⟨gb165, _, none⟩) (by first | exact Kd.own_blk (Kd.R_ne HO_4.out BK165.out (by decide)) | (rw [add_block]; exact Kd.own_blk (Kd.R_ne HO_4.out BK165.out (by decide))) | (show (Addr.add _ _).block ≠ _; rw [add_block]; exact Kd.own_blk (Kd.R_ne HO_4.out BK165.out (by decide))) | (dsimp only; exact Kd.own_blk (Kd.R_ne HO_4.out BK165.out (by decide)))) _).trans (((cell_far (p := ⟨gb165, _, none⟩) (by first | exact Kd.own_blk (Kd.R_ne HO_4.out BK165.out (by decide)) | (rw [add_block]; exact Kd.own_blk (Kd.R_ne HO_4.out BK165.out (by decide))) | (show (Addr.add _ _).block ≠ _; rw [add_block]; exact Kd.own_blk (Kd.R_ne HO_4.out BK165.out (by decide))) | (dsimp only; exact Kd.own_blk (Kd.R_ne HO_4.out BK165.out (by decide)))) _).trans (hHeld.2))))))⟩ (fun hHeld => ?_)
                  clear hK K
                  refine done_ (done_of HT_.out (by kernel_rfl)) ?_
                  have p166 : 0 ≤ (1 : Int) := (by omega)
                  have q166 : 1 < (t152.length : Int) := of_decide_eq_true (by first | (with_reducible assumption) | assumption)
                  obtain ⟨ad166, e166, hx166_0⟩ := Kd.at_string (Kd.R_reads' HO_4.out).2.2 1 p166 q166
                  obtain rfl : ad158 = ad166 := (by injection e166)
                  (try simp only [show (1 : Int).toNat = 1 from rfl, Nat.reduceMul, Nat.reduceEqDiff, Go.Addr.add, ↓reduceIte] at hx166_0)
                  have qi166 : (1 < t152.length) = True := eq_true (by omega)
                  (try rw [show ((1 : Int)).toNat = 1 from rfl] at hx166_0)
                  have hn166_0 : ad158.block ≠ gb165 := Kd.own_blk (Kd.R_ne HO_4.out BK165.out (by decide))
                  have hn166_1 : ad158.block ≠ gb165 := Kd.own_blk (Kd.R_ne HO_4.out BK165.out (by decide))
                  have hn166_2 : ad158.block ≠ gb165 := Kd.own_blk (Kd.R_ne HO_4.out BK165.out (by decide))
                  replace hx166_0 := (cell_far (p := ⟨gb165, 0, none⟩) (by first | (rw [add_block]; exact hn166_0) | (show (Addr.add _ _).block ≠ _; rw [add_block]; exact hn166_0) | exact hn166_0) (.slice Ao29 y160.length co29)).trans hx166_0
                  replace hx166_0 := (cell_far (p := ⟨gb165, 1, none⟩) (by first | (rw [add_block]; exact hn166_1) | (show (Addr.add _ _).block ≠ _; rw [add_block]; exact hn166_1) | exact hn166_1) (.int .i64 t164)).trans hx166_0
                  replace hx166_0 := (cell_far (p := ⟨gb165, 2, none⟩) (by first | (rw [add_block]; exact hn166_2) | (show (Addr.add _ _).block ≠ _; rw [add_block]; exact hn166_2) | exact hn166_2) (.slice none 0 0)).trans hx166_0
                  clear hn166_0
                  clear hn166_1
                  clear hn166_2
                  replace p166 := eq_true p166
                  replace q166 := eq_true q166
                  try go_wp2_with (first | ((with_reducible refine gate_callee (f := 22) rfl ?_); refine goesL_ (some 38) rfl rfl Tryd.func22 (by kernel_rfl) rfl #[.string (rdOf ByteArray.empty t152 1), .int .u8 44] rfl (by (try simp only [List.map_toArray, List.map_cons, List.map_nil]); first | done | rfl | (simp only [List.length_drop, List.length_take]; rfl)) ?_; (with_reducible refine (spec_l1Cut.calls kj2 (rdOf ByteArray.empty t152 1) 44 t167 _ A21.out).mono ?_); rintro e w33 ⟨v168, rfl, ho0, hb⟩; refine ⟨_, rfl, ?_⟩; have n0_ := Aside0.mk (Kd.R_elder' (by (with_reducible repeat (first | apply Kd.R_alloc | apply Kd.R_drewN | apply Kd.R_drew)); exact (Kd.R_mono (Kd.R_far (p := ⟨gb165, 2, none⟩) (Kd.R_far (p := ⟨gb165, 1, none⟩) (Kd.R_far (p := ⟨gb165, 0, none⟩) (Kd.R_types HO_4.out BK165.out (by decide)) (fun _ hk => hk.2) (.slice Ao29 y160.length co29)) (fun _ hk => hk.2) (.int .i64 t164)) (fun _ hk => hk.2) (.slice none 0 0)) (fun _ h_ => h_.1))) (Kd.R_base ho0) hb); have n1_ := Aside0.mk (Kd.R_below (by (with_reducible repeat (first | apply Kd.R_alloc | apply Kd.R_drewN | apply Kd.R_drew)); exact (Kd.R_mono (Kd.R_far (p := ⟨gb165, 2, none⟩) (Kd.R_far (p := ⟨gb165, 1, none⟩) (Kd.R_far (p := ⟨gb165, 0, none⟩) (Kd.R_types HO162.out BK165.out (by decide)) (fun _ hk => hk.2) (.slice Ao29 y160.length co29)) (fun _ hk => hk.2) (.int .i64 t164)) (fun _ hk => hk.2) (.slice none 0 0)) (fun _ h_ => h_.1))) hb); have n2_ := Aside0.mk (Kd.R_lower (Kd.R_new' ho0 (Kd.R_lt (by (with_reducible repeat (first | apply Kd.R_alloc | apply Kd.R_drewN | apply Kd.R_drew)); exact (Kd.R_mono (Kd.R_far (p := ⟨gb165, 2, none⟩) (Kd.R_far (p := ⟨gb165, 1, none⟩) (Kd.R_far (p := ⟨gb165, 0, none⟩) (Kd.R_types HO_4.out BK165.out (by decide)) (fun _ hk => hk.2) (.slice Ao29 y160.length co29)) (fun _ hk => hk.2) (.int .i64 t164)) (fun _ hk => hk.2) (.slice none 0 0)) (fun _ h_ => h_.1))))) (below_size (by repeat (first | (with_reducible first | exact HB.out | apply below_alloc | apply pw_below_drewN | apply below_drew1 | refine below_set ?_ GE151.out | refine below_set ?_ GE165.out) | exact HB.out)))); have n3_ := Aside0.mk (blk_below (g := gb151) (o := .cells #[.slice none 0 0, .int .i64 0, .slice none 0 0] 36 (0, 0)) (by (with_reducible repeat (first | refine blk_drewN ?_ _ | refine blk_drew ?_ | refine blk_alloc ?_ _)); refine blk_far ?_ NB151_165.out _; (with_reducible repeat (first | refine blk_drewN ?_ _ | refine blk_drew ?_ | refine blk_alloc ?_ _)); refine blk_far ?_ NB151_165.out _; (with_reducible repeat (first | refine blk_drewN ?_ _ | refine blk_drew ?_ | refine blk_alloc ?_ _)); refine blk_far ?_ NB151_165.out _; (with_reducible repeat (first | refine blk_drewN ?_ _ | refine blk_drew ?_ | refine blk_alloc ?_ _)); exact BK151.out) hb); have n4_ := Aside0.mk (blk_below (g := gb165) (o := .cells #[.slice Ao29 y160.length co29, .int .i64 t164, .slice none 0 0] 36 (0, 0)) (by (with_reducible repeat (first | refine blk_drewN ?_ _ | refine blk_drew ?_ | refine blk_alloc ?_ _)); refine blk_put (cs := #[.slice Ao29 y160.length co29, .int .i64 t164, .slice none 0 0]) ?_ 2 _ rfl; (with_reducible repeat (first | refine blk_drewN ?_ _ | refine blk_drew ?_ | refine blk_alloc ?_ _)); refine blk_put (cs := #[.slice Ao29 y160.length co29, .int .i64 0, .slice none 0 0]) ?_ 1 _ rfl; (with_reducible repeat (first | refine blk_drewN ?_ _ | refine blk_drew ?_ | refine blk_alloc ?_ _)); refine blk_put (cs := #[.slice none 0 0, .int .i64 0, .slice none 0 0]) ?_ 0 _ rfl; (with_reducible repeat (first | refine blk_drewN ?_ _ | refine blk_drew ?_ | refine blk_alloc ?_ _)); exact BK165.out) hb); have n5_ := Aside0.mk (below_step (by repeat (first | (with_reducible first | exact HB.out | apply below_alloc | apply pw_below_drewN | apply below_drew1 | refine below_set ?_ GE151.out | refine below_set ?_ GE165.out) | exact HB.out)) hb); clear HO_4; clear HO162; clear BK151; clear BK165; clear HB; have HO_4 := n0_; have HO162 := n1_; have HO169 := n2_; have BK151 := n3_; have BK165 := n4_; have HB := n5_; clear n0_ n1_ n2_ n3_ n4_ n5_; (try clear hb); (try clear hb2); (try clear hk); (try clear hi); (try clear ho0)))
                  go_loopg [7] kj2 (fun kq v7 w' => ∃ (x7_2 : Int) (x152001_2 : Int) (x166000_2 : List Int) (u166000 : Value), v7 = .int .i64 x7_2 ∧ Aside0 (spec_ReadPlace.l0 kq a0 t152 t167 x7_2 x166000_2 t164 = some (r1, r2, r3, r4)) ∧ Aside0 (kq ≤ kj2) ∧ Aside0 (Kd.R Kd.string 9 w' w.heap.size (fun k_ => some k_ ≠ (v168 : Value).ownBlock) (.slice (some ad158) t152.length co23) t152) ∧ Aside0 (Kd.R Kd.string 9 w' w.heap.size (fun k_ => some k_ ≠ ((.slice (some ad158) t152.length co23) : Value).ownBlock) v168 t167) ∧ Aside0 (Kd.R (Kd.int .i64) 3 w' w.heap.size (fun _ => True) u166000 x166000_2) ∧ Aside0 (w'.heap[gb151]? = some (.cells #[(.slice none 0 0), .int .i64 x152001_2, (.slice none 0 0)] 36 (0, 0))) ∧ Aside0 (w'.heap[gb165]? = some (.cells #[u166000, .int .i64 t164, (.slice none 0 0)] 36 (0, 0))) ∧ Aside0 (Below w.heap.size w w'))
                  case atStart => exact ⟨(0), (0), (y160), (.slice Ao29 y160.length co29), (by first | rfl | (simp; done) | (simp [*]; done)), H', ⟨Nat.le_refl _⟩, ⟨by (with_reducible repeat (first | apply Kd.R_alloc | apply Kd.R_drewN | apply Kd.R_drew)); exact Kd.R_mono HO_4.out (fun _ hk => hk.2)⟩, ⟨by (with_reducible repeat (first | apply Kd.R_alloc | apply Kd.R_drewN | apply Kd.R_drew)); exact Kd.R_mono HO169.out (fun _ hk => hk.2)⟩, ⟨by (with_reducible repeat (first | apply Kd.R_alloc | apply Kd.R_drewN | apply Kd.R_drew)); exact HO162.out⟩, ⟨by (with_reducible repeat (first | refine blk_drewN ?_ _ | refine blk_drew ?_ | refine blk_alloc ?_ _)); exact BK151.out⟩, ⟨by (with_reducible repeat (first | refine blk_drewN ?_ _ | refine blk_drew ?_ | refine blk_alloc ?_ _)); exact BK165.out⟩, ⟨by repeat (first | (with_reducible first | exact HB.out | apply below_alloc | apply pw_below_drewN | apply below_drew1 | refine below_set ?_ GE151.out | refine below_set ?_ GE165.out) | exact HB.out)⟩⟩
                  case round =>
                    clear H'
                    try clear p1
                    try clear q1
                    try clear hx1
                    try clear qi1
                    try clear c2
                    try clear p2
                    try clear p16
                    try clear q16
                    try clear hx16
                    try clear qi16
                    try clear c22
                    try clear c23
                    try clear hx166_0
                    try clear p166
                    try clear q166
                    obtain ⟨x7_2, x152001_2, x166000_2, u166000, rfl, HA, HK2, HO_4, HO_6, HO_166000, BK151, BK165, HB⟩ := hrel
                    cases gk with
                    | zero => exact absurd HA.out (by simp [spec_ReadPlace.l0])
                    | succ k2 =>
                      have H := HA.out
                      clear HA
                      simp only [spec_ReadPlace.l0] at H
                      have HC34 := Aside0.mk H
                      clear H
                      go_upto_region 7 with (fail)
                      go_cut [48] (fun v48 wc => ∃ (kq : Nat) (x48_33 : Bool), v48 = .bool x48_33 ∧ Aside0 (spec_ReadPlace.j2 kq a0 t152 t167 x7_2 x48_33 x166000_2 t164 = some (r1, r2, r3, r4)) ∧ Aside0 (kq ≤ k2) ∧ Aside0 (Kd.R Kd.string 9 wc w.heap.size (fun k_ => some k_ ≠ (v168 : Value).ownBlock) (.slice (some ad158) t152.length co23) t152) ∧ Aside0 (Kd.R Kd.string 9 wc w.heap.size (fun k_ => some k_ ≠ ((.slice (some ad158) t152.length co23) : Value).ownBlock) v168 t167) ∧ Aside0 (Kd.R (Kd.int .i64) 3 wc w.heap.size (fun _ => True) u166000 x166000_2) ∧ Aside0 (wc.heap[gb151]? = some (.cells #[(.slice none 0 0), .int .i64 x152001_2, (.slice none 0 0)] 36 (0, 0))) ∧ Aside0 (wc.heap[gb165]? = some (.cells #[u166000, .int .i64 t164, (.slice none 0 0)] 36 (0, 0))) ∧ Aside0 (Below w.heap.size w wc))
                      case first =>
                        have H := HC34.out
                        clear HC34
                        by_cases c35 : x7_2 < (t167.length : Int)
                        · rw [if_pos c35] at H
                          have c35b0 : decide (x7_2 < (t167.length : Int)) = true := decide_eq_true c35
                          clear c35
                          (first | rw [c35b0] | (simp only [i64_w, i32_w]; rw [c35b0]) | skip)
                          by_cases c36 : 1 < (t152.length : Int)
                          · rw [if_pos c36] at H
                            have c36b0 : decide (1 < (t152.length : Int)) = true := decide_eq_true c36
                            have c36b1 : decide (1 < t152.length) = true := decide_eq_true (by omega)
                            clear c36
                            have H' := Aside0.mk H
                            clear H
                            obtain ⟨Ao37, co37, eo37⟩ := Kd.R_slice HO_6.out
                            subst eo37
                            have p170 : 0 ≤ (1 : Int) := (by omega)
                            have q170 : 1 < (t152.length : Int) := of_decide_eq_true (by first | (with_reducible assumption) | assumption)
                            obtain ⟨ad170, e170, hx170_0⟩ := Kd.at_string (Kd.R_reads' HO_4.out).2.2 1 p170 q170
                            obtain rfl : ad158 = ad170 := (by injection e170)
                            (try simp only [show (1 : Int).toNat = 1 from rfl, Nat.reduceMul, Nat.reduceEqDiff, Go.Addr.add, ↓reduceIte] at hx170_0)
                            have qi170 : (1 < t152.length) = True := eq_true (by omega)
                            (try rw [show ((1 : Int)).toNat = 1 from rfl] at hx170_0)
                            replace p170 := eq_true p170
                            replace q170 := eq_true q170
                            go_wp2
                            go_meet
                            case rel => exact ⟨_, (((rdOf ByteArray.empty t152 1).toList != ([46] : List UInt8))), (by first | rfl | (simp; done) | (simp [*]; done)), H', ⟨by have := HJ2.out; have := HK2.out; first | omega | exact Nat.le_refl _⟩, ⟨by (with_reducible repeat (first | apply Kd.R_alloc | apply Kd.R_drewN | apply Kd.R_drew)); exact HO_4.out⟩, ⟨by (with_reducible repeat (first | apply Kd.R_alloc | apply Kd.R_drewN | apply Kd.R_drew)); exact HO_6.out⟩, ⟨by (with_reducible repeat (first | apply Kd.R_alloc | apply Kd.R_drewN | apply Kd.R_drew)); exact HO_166000.out⟩, ⟨by (with_reducible repeat (first | refine blk_drewN ?_ _ | refine blk_drew ?_ | refine blk_alloc ?_ _)); exact BK151.out⟩, ⟨by (with_reducible repeat (first | refine blk_drewN ?_ _ | refine blk_drew ?_ | refine blk_alloc ?_ _)); exact BK165.out⟩, ⟨by repeat (first | (with_reducible first | exact HB.out | apply below_alloc | apply pw_below_drewN | apply below_drew1 | refine below_set ?_ GE151.out | refine below_set ?_ GE165.out) | exact HB.out)⟩⟩
                          · rw [if_neg c36] at H
                            exact absurd H (by simp)
                        · rw [if_neg c35] at H
                          have c35b0 : decide (x7_2 < (t167.length : Int)) = false := decide_eq_false c35
                          clear c35
                          (first | rw [c35b0] | (simp only [i64_w, i32_w]; rw [c35b0]) | skip)
                          have H' := Aside0.mk H
                          clear H
                          obtain ⟨Ao38, co38, eo38⟩ := Kd.R_slice HO_6.out
                          subst eo38
                          go_wp2
                          go_meet
                          case rel => exact ⟨_, (false), (by first | rfl | (simp; done) | (simp [*]; done)), H', ⟨by have := HJ2.out; have := HK2.out; first | omega | exact Nat.le_refl _⟩, ⟨by (with_reducible repeat (first | apply Kd.R_alloc | apply Kd.R_drewN | apply Kd.R_drew)); exact HO_4.out⟩, ⟨by (with_reducible repeat (first | apply Kd.R_alloc | apply Kd.R_drewN | apply Kd.R_drew)); exact HO_6.out⟩, ⟨by (with_reducible repeat (first | apply Kd.R_alloc | apply Kd.R_drewN | apply Kd.R_drew)); exact HO_166000.out⟩, ⟨by (with_reducible repeat (first | refine blk_drewN ?_ _ | refine blk_drew ?_ | refine blk_alloc ?_ _)); exact BK151.out⟩, ⟨by (with_reducible repeat (first | refine blk_drewN ?_ _ | refine blk_drew ?_ | refine blk_alloc ?_ _)); exact BK165.out⟩, ⟨by repeat (first | (with_reducible first | exact HB.out | apply below_alloc | apply pw_below_drewN | apply below_drew1 | refine below_set ?_ GE151.out | refine below_set ?_ GE165.out) | exact HB.out)⟩⟩
                      case rest =>
                        clear HC34
                        try clear p1
                        try clear q1
                        try clear hx1
                        try clear qi1
                        try clear c2
                        try clear p2
                        try clear c3
                        try clear p16
                        try clear q16
                        try clear hx16
                        try clear qi16
                        try clear p17
                        try clear q17
                        try clear hx17
                        try clear qi17
                        try clear c22
                        try clear c23
                        try clear c35
                        try clear c35b0
                        try clear c36
                        try clear c36b0
                        try clear c36b1
                        try clear hx166_0
                        try clear hx170_0
                        try clear p1
                        try clear p16
                        try clear p166
                        try clear p170
                        try clear p2
                        try clear q1
                        try clear q16
                        try clear q166
                        try clear q170
                        obtain ⟨kq, x48_33, rfl, HA, HJ33, HO_4, HO_6, HO_166000, BK151, BK165, HB⟩ := hcut
                        cases kq with
                        | zero => exact absurd HA.out (by simp [spec_ReadPlace.j2])
                        | succ kj33 =>
                          have H := HA.out
                          clear HA
                          simp only [spec_ReadPlace.j2] at H
                          by_cases c39 : x48_33 = true
                          · subst c39
                            have H1 : (if 0 ≤ x7_2 then (if x7_2 < (t167.length : Int) then (if ((rdOf ByteArray.empty t167 x7_2).size : Int) = 2 then (if 0 < ((rdOf ByteArray.empty t167 x7_2).size : Int) then (if 1 < ((rdOf ByteArray.empty t167 x7_2).size : Int) then ((spec_l1In.f (wrap64 ((wrap64 (bt (rdOf ByteArray.empty t167 x7_2) 0)) - 48)) 0 (wrap64 ((x166000_2.length : Int) - 1))).bind fun t174 => (if t174 = true then ((spec_l1In.f (wrap64 ((wrap64 (bt (rdOf ByteArray.empty t167 x7_2) 1)) - 48)) 0 (wrap64 ((x166000_2.length : Int) - 1))).bind fun t175 => (if t175 = true then (if 0 ≤ (wrap64 ((wrap64 (bt (rdOf ByteArray.empty t167 x7_2) 0)) - 48)) then (if (wrap64 ((wrap64 (bt (rdOf ByteArray.empty t167 x7_2) 0)) - 48)) < (x166000_2.length : Int) then (if 0 ≤ (wrap64 ((wrap64 (bt (rdOf ByteArray.empty t167 x7_2) 1)) - 48)) then ((some (x166000_2.set ((wrap64 ((wrap64 (bt (rdOf ByteArray.empty t167 x7_2) 0)) - 48)) : Int).toNat (Go.bits .or .i64 (rd x166000_2 (wrap64 ((wrap64 (bt (rdOf ByteArray.empty t167 x7_2) 0)) - 48))) (shl .i64 1 (wrap64 ((wrap64 (bt (rdOf ByteArray.empty t167 x7_2) 1)) - 48)))) : List Int)).bind fun y177 => (if (wrap64 ((wrap64 (bt (rdOf ByteArray.empty t167 x7_2) 1)) - 48)) < (x166000_2.length : Int) then (spec_ReadPlace.l0 kj33 a0 t152 t167 (wrap64 (x7_2 + 1)) (y177.set ((wrap64 ((wrap64 (bt (rdOf ByteArray.empty t167 x7_2) 1)) - 48)) : Int).toNat (Go.bits .or .i64 (rd y177 (wrap64 ((wrap64 (bt (rdOf ByteArray.empty t167 x7_2) 1)) - 48))) (shl .i64 1 (wrap64 ((wrap64 (bt (rdOf ByteArray.empty t167 x7_2) 0)) - 48))))) t164) else (none))) else (none)) else (none)) else (none)) else (some (([] : List Int), 0, ([] : List Int), false)))) else (some (([] : List Int), 0, ([] : List Int), false)))) else (none)) else (none)) else (some (([] : List Int), 0, ([] : List Int), false))) else (none)) else (none)) = some (r1, r2, r3, r4) := by rw [if_pos rfl] at H; exact H
                            clear H
                            have H := H1
                            clear H1
                            by_cases c40 : 0 ≤ x7_2
                            · rw [if_pos c40] at H
                              have c40b0 : decide (0 ≤ x7_2) = true := decide_eq_true c40
                              clear c40
                              by_cases c41 : x7_2 < (t167.length : Int)
                              · rw [if_pos c41] at H
                                have c41b0 : decide (x7_2 < (t167.length : Int)) = true := decide_eq_true c41
                                clear c41
                                by_cases c42 : ((rdOf ByteArray.empty t167 x7_2).size : Int) = 2
                                · rw [if_pos c42] at H
                                  have c42b0 : (((rdOf ByteArray.empty t167 x7_2).size : Int) == 2) = true := beq_iff_eq.mpr c42
                                  have c42b1 : (((rdOf ByteArray.empty t167 x7_2).size : Int) != 2) = false := bne_eq_false_iff_eq.mpr c42
                                  clear c42
                                  by_cases c43 : 0 < ((rdOf ByteArray.empty t167 x7_2).size : Int)
                                  · rw [if_pos c43] at H
                                    have c43b0 : decide (0 < ((rdOf ByteArray.empty t167 x7_2).size : Int)) = true := decide_eq_true c43
                                    have c43b1 : decide (0 < (rdOf ByteArray.empty t167 x7_2).size) = true := decide_eq_true (by omega)
                                    clear c43
                                    by_cases c45 : 1 < ((rdOf ByteArray.empty t167 x7_2).size : Int)
                                    · rw [if_pos c45] at H
                                      have c45b0 : decide (1 < ((rdOf ByteArray.empty t167 x7_2).size : Int)) = true := decide_eq_true c45
                                      have c45b1 : decide (1 < (rdOf ByteArray.empty t167 x7_2).size) = true := decide_eq_true (by omega)
                                      clear c45
                                      replace H := Option.bind_eq_some_iff.mp H
                                      obtain ⟨t174, A470, H⟩ := H
                                      replace H : (if t174 = true then ((spec_l1In.f (wrap64 ((wrap64 (bt (rdOf ByteArray.empty t167 x7_2) 1)) - 48)) 0 (wrap64 ((x166000_2.length : Int) - 1))).bind fun t175 => (if t175 = true then (if 0 ≤ (wrap64 ((wrap64 (bt (rdOf ByteArray.empty t167 x7_2) 0)) - 48)) then (if (wrap64 ((wrap64 (bt (rdOf ByteArray.empty t167 x7_2) 0)) - 48)) < (x166000_2.length : Int) then (if 0 ≤ (wrap64 ((wrap64 (bt (rdOf ByteArray.empty t167 x7_2) 1)) - 48)) then ((some (x166000_2.set ((wrap64 ((wrap64 (bt (rdOf ByteArray.empty t167 x7_2) 0)) - 48)) : Int).toNat (Go.bits .or .i64 (rd x166000_2 (wrap64 ((wrap64 (bt (rdOf ByteArray.empty t167 x7_2) 0)) - 48))) (shl .i64 1 (wrap64 ((wrap64 (bt (rdOf ByteArray.empty t167 x7_2) 1)) - 48)))) : List Int)).bind fun y177 => (if (wrap64 ((wrap64 (bt (rdOf ByteArray.empty t167 x7_2) 1)) - 48)) < (x166000_2.length : Int) then (spec_ReadPlace.l0 kj33 a0 t152 t167 (wrap64 (x7_2 + 1)) (y177.set ((wrap64 ((wrap64 (bt (rdOf ByteArray.empty t167 x7_2) 1)) - 48)) : Int).toNat (Go.bits .or .i64 (rd y177 (wrap64 ((wrap64 (bt (rdOf ByteArray.empty t167 x7_2) 1)) - 48))) (shl .i64 1 (wrap64 ((wrap64 (bt (rdOf ByteArray.empty t167 x7_2) 0)) - 48))))) t164) else (none))) else (none)) else (none)) else (none)) else (some (([] : List Int), 0, ([] : List Int), false)))) else (some (([] : List Int), 0, ([] : List Int), false))) = some (r1, r2, r3, r4) := H
                                      have A47 := Aside0.mk A470
                                      clear A470
                                      by_cases c48 : t174 = true
                                      · subst c48
                                        have H1 : ((spec_l1In.f (wrap64 ((wrap64 (bt (rdOf ByteArray.empty t167 x7_2) 1)) - 48)) 0 (wrap64 ((x166000_2.length : Int) - 1))).bind fun t175 => (if t175 = true then (if 0 ≤ (wrap64 ((wrap64 (bt (rdOf ByteArray.empty t167 x7_2) 0)) - 48)) then (if (wrap64 ((wrap64 (bt (rdOf ByteArray.empty t167 x7_2) 0)) - 48)) < (x166000_2.length : Int) then (if 0 ≤ (wrap64 ((wrap64 (bt (rdOf ByteArray.empty t167 x7_2) 1)) - 48)) then ((some (x166000_2.set ((wrap64 ((wrap64 (bt (rdOf ByteArray.empty t167 x7_2) 0)) - 48)) : Int).toNat (Go.bits .or .i64 (rd x166000_2 (wrap64 ((wrap64 (bt (rdOf ByteArray.empty t167 x7_2) 0)) - 48))) (shl .i64 1 (wrap64 ((wrap64 (bt (rdOf ByteArray.empty t167 x7_2) 1)) - 48)))) : List Int)).bind fun y177 => (if (wrap64 ((wrap64 (bt (rdOf ByteArray.empty t167 x7_2) 1)) - 48)) < (x166000_2.length : Int) then (spec_ReadPlace.l0 kj33 a0 t152 t167 (wrap64 (x7_2 + 1)) (y177.set ((wrap64 ((wrap64 (bt (rdOf ByteArray.empty t167 x7_2) 1)) - 48)) : Int).toNat (Go.bits .or .i64 (rd y177 (wrap64 ((wrap64 (bt (rdOf ByteArray.empty t167 x7_2) 1)) - 48))) (shl .i64 1 (wrap64 ((wrap64 (bt (rdOf ByteArray.empty t167 x7_2) 0)) - 48))))) t164) else (none))) else (none)) else (none)) else (none)) else (some (([] : List Int), 0, ([] : List Int), false)))) = some (r1, r2, r3, r4) := by rw [if_pos rfl] at H; exact H
                                        clear H
                                        have H := H1
                                        clear H1
                                        replace H := Option.bind_eq_some_iff.mp H
                                        obtain ⟨t175, A490, H⟩ := H
                                        replace H : (if t175 = true then (if 0 ≤ (wrap64 ((wrap64 (bt (rdOf ByteArray.empty t167 x7_2) 0)) - 48)) then (if (wrap64 ((wrap64 (bt (rdOf ByteArray.empty t167 x7_2) 0)) - 48)) < (x166000_2.length : Int) then (if 0 ≤ (wrap64 ((wrap64 (bt (rdOf ByteArray.empty t167 x7_2) 1)) - 48)) then ((some (x166000_2.set ((wrap64 ((wrap64 (bt (rdOf ByteArray.empty t167 x7_2) 0)) - 48)) : Int).toNat (Go.bits .or .i64 (rd x166000_2 (wrap64 ((wrap64 (bt (rdOf ByteArray.empty t167 x7_2) 0)) - 48))) (shl .i64 1 (wrap64 ((wrap64 (bt (rdOf ByteArray.empty t167 x7_2) 1)) - 48)))) : List Int)).bind fun y177 => (if (wrap64 ((wrap64 (bt (rdOf ByteArray.empty t167 x7_2) 1)) - 48)) < (x166000_2.length : Int) then (spec_ReadPlace.l0 kj33 a0 t152 t167 (wrap64 (x7_2 + 1)) (y177.set ((wrap64 ((wrap64 (bt (rdOf ByteArray.empty t167 x7_2) 1)) - 48)) : Int).toNat (Go.bits .or .i64 (rd y177 (wrap64 ((wrap64 (bt (rdOf ByteArray.empty t167 x7_2) 1)) - 48))) (shl .i64 1 (wrap64 ((wrap64 (bt (rdOf ByteArray.empty t167 x7_2) 0)) - 48))))) t164) else (none))) else (none)) else (none)) else (none)) else (some (([] : List Int), 0, ([] : List Int), false))) = some (r1, r2, r3, r4) := H
                                        have A49 := Aside0.mk A490
                                        clear A490
                                        by_cases c50 : t175 = true
                                        · subst c50
                                          have H1 : (if 0 ≤ (wrap64 ((wrap64 (bt (rdOf ByteArray.empty t167 x7_2) 0)) - 48)) then (if (wrap64 ((wrap64 (bt (rdOf ByteArray.empty t167 x7_2) 0)) - 48)) < (x166000_2.length : Int) then (if 0 ≤ (wrap64 ((wrap64 (bt (rdOf ByteArray.empty t167 x7_2) 1)) - 48)) then ((some (x166000_2.set ((wrap64 ((wrap64 (bt (rdOf ByteArray.empty t167 x7_2) 0)) - 48)) : Int).toNat (Go.bits .or .i64 (rd x166000_2 (wrap64 ((wrap64 (bt (rdOf ByteArray.empty t167 x7_2) 0)) - 48))) (shl .i64 1 (wrap64 ((wrap64 (bt (rdOf ByteArray.empty t167 x7_2) 1)) - 48)))) : List Int)).bind fun y177 => (if (wrap64 ((wrap64 (bt (rdOf ByteArray.empty t167 x7_2) 1)) - 48)) < (x166000_2.length : Int) then (spec_ReadPlace.l0 kj33 a0 t152 t167 (wrap64 (x7_2 + 1)) (y177.set ((wrap64 ((wrap64 (bt (rdOf ByteArray.empty t167 x7_2) 1)) - 48)) : Int).toNat (Go.bits .or .i64 (rd y177 (wrap64 ((wrap64 (bt (rdOf ByteArray.empty t167 x7_2) 1)) - 48))) (shl .i64 1 (wrap64 ((wrap64 (bt (rdOf ByteArray.empty t167 x7_2) 0)) - 48))))) t164) else (none))) else (none)) else (none)) else (none)) = some (r1, r2, r3, r4) := by rw [if_pos rfl] at H; exact H
                                          clear H
                                          have H := H1
                                          clear H1
                                          obtain ⟨ji51, hji51⟩ : ∃ j_ : Int, (wrap64 ((wrap64 (bt (rdOf ByteArray.empty t167 x7_2) 0)) - 48)) = j_ := ⟨_, rfl⟩
                                          replace H : (if 0 ≤ (ji51) then (if (ji51) < (x166000_2.length : Int) then (if 0 ≤ (wrap64 ((wrap64 (bt (rdOf ByteArray.empty t167 x7_2) 1)) - 48)) then ((some (x166000_2.set ((ji51) : Int).toNat (Go.bits .or .i64 (rd x166000_2 (ji51)) (shl .i64 1 (wrap64 ((wrap64 (bt (rdOf ByteArray.empty t167 x7_2) 1)) - 48)))) : List Int)).bind fun y177 => (if (wrap64 ((wrap64 (bt (rdOf ByteArray.empty t167 x7_2) 1)) - 48)) < (x166000_2.length : Int) then (spec_ReadPlace.l0 kj33 a0 t152 t167 (wrap64 (x7_2 + 1)) (y177.set ((wrap64 ((wrap64 (bt (rdOf ByteArray.empty t167 x7_2) 1)) - 48)) : Int).toNat (Go.bits .or .i64 (rd y177 (wrap64 ((wrap64 (bt (rdOf ByteArray.empty t167 x7_2) 1)) - 48))) (shl .i64 1 (ji51)))) t164) else (none))) else (none)) else (none)) else (none)) = some (r1, r2, r3, r4) := by first | (rw [hji51] at H; exact H) | (simp only [hji51] at H ⊢; exact H)
                                          (try rw [hji51] at A47)
                                          (try rw [hji51] at A49)
                                          have hji51w : (IntKind.i64.wrap ((wrap64 (bt (rdOf ByteArray.empty t167 x7_2) 0)) - 48)) = ji51 := (i64_w _).trans hji51
                                          by_cases c52 : 0 ≤ (ji51)
                                          · rw [if_pos c52] at H
                                            have c52b0 : decide (0 ≤ (ji51)) = true := decide_eq_true c52
                                            clear c52
                                            by_cases c53 : (ji51) < (x166000_2.length : Int)
                                            · rw [if_pos c53] at H
                                              have c53b0 : decide ((ji51) < (x166000_2.length : Int)) = true := decide_eq_true c53
                                              clear c53
                                              obtain ⟨ji54, hji54⟩ : ∃ j_ : Int, (wrap64 ((wrap64 (bt (rdOf ByteArray.empty t167 x7_2) 1)) - 48)) = j_ := ⟨_, rfl⟩
                                              replace H : (if 0 ≤ (ji54) then ((some (x166000_2.set ((ji51) : Int).toNat (Go.bits .or .i64 (rd x166000_2 (ji51)) (shl .i64 1 (ji54))) : List Int)).bind fun y177 => (if (ji54) < (x166000_2.length : Int) then (spec_ReadPlace.l0 kj33 a0 t152 t167 (wrap64 (x7_2 + 1)) (y177.set ((ji54) : Int).toNat (Go.bits .or .i64 (rd y177 (ji54)) (shl .i64 1 (ji51)))) t164) else (none))) else (none)) = some (r1, r2, r3, r4) := by first | (rw [hji54] at H; exact H) | (simp only [hji54] at H ⊢; exact H)
                                              (try rw [hji54] at A47)
                                              (try rw [hji54] at A49)
                                              have hji54w : (IntKind.i64.wrap ((wrap64 (bt (rdOf ByteArray.empty t167 x7_2) 1)) - 48)) = ji54 := (i64_w _).trans hji54
                                              by_cases c55 : 0 ≤ (ji54)
                                              · rw [if_pos c55] at H
                                                have c55b0 := eq_true c55
                                                have c55b1 : decide (0 ≤ (ji54)) = true := decide_eq_true c55
                                                clear c55
                                                obtain ⟨ji56, hji56⟩ : ∃ j_ : Int, (shl .i64 1 (ji54)) = j_ := ⟨_, rfl⟩
                                                replace H : ((some (x166000_2.set ((ji51) : Int).toNat (Go.bits .or .i64 (rd x166000_2 (ji51)) (ji56)) : List Int)).bind fun y177 => (if (ji54) < (x166000_2.length : Int) then (spec_ReadPlace.l0 kj33 a0 t152 t167 (wrap64 (x7_2 + 1)) (y177.set ((ji54) : Int).toNat (Go.bits .or .i64 (rd y177 (ji54)) (shl .i64 1 (ji51)))) t164) else (none))) = some (r1, r2, r3, r4) := by first | (rw [hji56] at H; exact H) | (simp only [hji56] at H ⊢; exact H)
                                                (try rw [hji56] at A47)
                                                (try rw [hji56] at A49)
                                                have hji56_ : (IntKind.i64.wrap (1 * 2 ^ min (ji54).toNat 64)) = ji56 := hji56
                                                have hji56z : (ji54) ≤ 64 → (IntKind.i64.wrap (1 * 2 ^ (ji54).toNat)) = ji56 := shl_small hji56
                                                have hji56u : (IntKind.i64.wrap (2 ^ min (ji54).toNat 64)) = ji56 := by have h_ := hji56_; rw [Int.one_mul] at h_; exact h_
                                                have hji56v : (ji54) ≤ 64 → (IntKind.i64.wrap (2 ^ (ji54).toNat)) = ji56 := fun hle_ => by have h_ := hji56z hle_; rw [Int.one_mul] at h_; exact h_
                                                have hji56y : (wrap64 (1 * 2 ^ min (ji54).toNat 64)) = ji56 := (i64_w _).symm.trans hji56_
                                                have hji56x : (ji54) ≤ 64 → (wrap64 (1 * 2 ^ (ji54).toNat)) = ji56 := fun h_ => (i64_w _).symm.trans (hji56z h_)
                                                obtain ⟨y177, hy177⟩ : ∃ y_ : List Int, y_ = (x166000_2.set ((ji51) : Int).toNat (Go.bits .or .i64 (rd x166000_2 (ji51)) (ji56))) := ⟨_, rfl⟩
                                                replace H : (if (ji54) < (x166000_2.length : Int) then (spec_ReadPlace.l0 kj33 a0 t152 t167 (wrap64 (x7_2 + 1)) (y177.set ((ji54) : Int).toNat (Go.bits .or .i64 (rd y177 (ji54)) (shl .i64 1 (ji51)))) t164) else (none)) = some (r1, r2, r3, r4) := by first | (rw [hy177]; with_reducible exact H) | (have H2_ := (Option.bind_some _ _).symm.trans H; rw [hy177]; with_reducible exact H2_) | (have H2_ := (Option.bind_some _ _).symm.trans H; with_reducible exact H2_) | with_reducible exact H | (rw [hy177]; exact H) | exact H
                                                have Ny177 := Aside0.mk hy177
                                                clear hy177
                                                by_cases c58 : (ji54) < (x166000_2.length : Int)
                                                · rw [if_pos c58] at H
                                                  have c58b0 : decide ((ji54) < (x166000_2.length : Int)) = true := decide_eq_true c58
                                                  clear c58
                                                  have c59b0 := eq_true (of_decide_eq_true (by first | (with_reducible assumption) | assumption) : 0 ≤ (ji51))
                                                  obtain ⟨ji60, hji60⟩ : ∃ j_ : Int, (shl .i64 1 (ji51)) = j_ := ⟨_, rfl⟩
                                                  replace H : (spec_ReadPlace.l0 kj33 a0 t152 t167 (wrap64 (x7_2 + 1)) (y177.set ((ji54) : Int).toNat (Go.bits .or .i64 (rd y177 (ji54)) (ji60))) t164) = some (r1, r2, r3, r4) := by first | (rw [hji60] at H; exact H) | (simp only [hji60] at H ⊢; exact H)
                                                  (try rw [hji60] at A47)
                                                  (try rw [hji60] at A49)
                                                  have hji60_ : (IntKind.i64.wrap (1 * 2 ^ min (ji51).toNat 64)) = ji60 := hji60
                                                  have hji60z : (ji51) ≤ 64 → (IntKind.i64.wrap (1 * 2 ^ (ji51).toNat)) = ji60 := shl_small hji60
                                                  have hji60u : (IntKind.i64.wrap (2 ^ min (ji51).toNat 64)) = ji60 := by have h_ := hji60_; rw [Int.one_mul] at h_; exact h_
                                                  have hji60v : (ji51) ≤ 64 → (IntKind.i64.wrap (2 ^ (ji51).toNat)) = ji60 := fun hle_ => by have h_ := hji60z hle_; rw [Int.one_mul] at h_; exact h_
                                                  have hji60y : (wrap64 (1 * 2 ^ min (ji51).toNat 64)) = ji60 := (i64_w _).symm.trans hji60_
                                                  have hji60x : (ji51) ≤ 64 → (wrap64 (1 * 2 ^ (ji51).toNat)) = ji60 := fun h_ => (i64_w _).symm.trans (hji60z h_)
                                                  obtain ⟨y179, hy179⟩ : ∃ y_ : List Int, y_ = (y177.set ((ji54) : Int).toNat (Go.bits .or .i64 (rd y177 (ji54)) (ji60))) := ⟨_, rfl⟩
                                                  replace H : (spec_ReadPlace.l0 kj33 a0 t152 t167 (wrap64 (x7_2 + 1)) y179 t164) = some (r1, r2, r3, r4) := by first | (rw [hy179]; with_reducible exact H) | (have H2_ := (Option.bind_some _ _).symm.trans H; rw [hy179]; with_reducible exact H2_) | (have H2_ := (Option.bind_some _ _).symm.trans H; with_reducible exact H2_) | with_reducible exact H | (rw [hy179]; exact H) | exact H
                                                  have Ny179 := Aside0.mk hy179
                                                  clear hy179
                                                  have H' := Aside0.mk H
                                                  clear H
                                                  obtain ⟨Ao62, co62, eo62⟩ := Kd.R_slice HO_6.out
                                                  subst eo62
                                                  have p171 : 0 ≤ (x7_2 : Int) := of_decide_eq_true (by first | (with_reducible assumption) | assumption)
                                                  have q171 : x7_2 < (t167.length : Int) := of_decide_eq_true (by first | (with_reducible assumption) | assumption)
                                                  obtain ⟨ad171, e171, hx171_0⟩ := Kd.at_string (Kd.R_reads' HO_6.out).2.2 x7_2 p171 q171
                                                  cases e171
                                                  replace p171 := eq_true p171
                                                  replace q171 := eq_true q171
                                                  have p172 : 0 ≤ (x7_2 : Int) := of_decide_eq_true (by first | (with_reducible assumption) | assumption)
                                                  have q172 : x7_2 < (t167.length : Int) := of_decide_eq_true (by first | (with_reducible assumption) | assumption)
                                                  obtain ⟨ad172, e172, hx172_0⟩ := Kd.at_string (Kd.R_reads' HO_6.out).2.2 x7_2 p172 q172
                                                  obtain rfl : ad171 = ad172 := (by injection e172)
                                                  replace p172 := eq_true p172
                                                  replace q172 := eq_true q172
                                                  have p44 : 0 ≤ (0 : Int) := (by omega)
                                                  have q44 : 0 < (rdOf ByteArray.empty t167 x7_2).size := (by have : (0 : Int) < ((rdOf ByteArray.empty t167 x7_2).size : Int) := of_decide_eq_true (by first | (with_reducible assumption) | assumption); omega)
                                                  have hx44 : ∀ h : 0 < (rdOf ByteArray.empty t167 x7_2).size, (((rdOf ByteArray.empty t167 x7_2)[0]'h).toNat : Int) = bt (rdOf ByteArray.empty t167 x7_2) 0 := bt_at (rdOf ByteArray.empty t167 x7_2) 0
                                                  clear p44
                                                  have qi44 : (0 < ((rdOf ByteArray.empty t167 x7_2).size : Int)) = True := eq_true (of_decide_eq_true (by first | (with_reducible assumption) | assumption))
                                                  replace q44 := eq_true q44
                                                  have p173 : 0 ≤ (x7_2 : Int) := of_decide_eq_true (by first | (with_reducible assumption) | assumption)
                                                  have q173 : x7_2 < (t167.length : Int) := of_decide_eq_true (by first | (with_reducible assumption) | assumption)
                                                  obtain ⟨ad173, e173, hx173_0⟩ := Kd.at_string (Kd.R_reads' HO_6.out).2.2 x7_2 p173 q173
                                                  obtain rfl : ad171 = ad173 := (by injection e173)
                                                  replace p173 := eq_true p173
                                                  replace q173 := eq_true q173
                                                  have p46 : 0 ≤ (1 : Int) := (by omega)
                                                  have q46 : 1 < (rdOf ByteArray.empty t167 x7_2).size := (by have : (1 : Int) < ((rdOf ByteArray.empty t167 x7_2).size : Int) := of_decide_eq_true (by first | (with_reducible assumption) | assumption); omega)
                                                  have hx46 : ∀ h : 1 < (rdOf ByteArray.empty t167 x7_2).size, (((rdOf ByteArray.empty t167 x7_2)[1]'h).toNat : Int) = bt (rdOf ByteArray.empty t167 x7_2) 1 := bt_at (rdOf ByteArray.empty t167 x7_2) 1
                                                  clear p46
                                                  have qi46 : (1 < ((rdOf ByteArray.empty t167 x7_2).size : Int)) = True := eq_true (of_decide_eq_true (by first | (with_reducible assumption) | assumption))
                                                  replace q46 := eq_true q46
                                                  have hnb63 := NB165_151.out
                                                  have hnc63 := NB151_165.out
                                                  have hcz64_0 : wc.cell? ⟨gb165, 0, none⟩ = some (u166000) := (blk_cell BK165.out 0).trans rfl
                                                  have hcz64_1 : wc.cell? ⟨gb165, 1, none⟩ = some (.int .i64 t164) := (blk_cell BK165.out 1).trans rfl
                                                  have hcz64_2 : wc.cell? ⟨gb165, 2, none⟩ = some (.slice none 0 0) := (blk_cell BK165.out 2).trans rfl
                                                  have hfz64_0 := blk_frozen BK165.out 0
                                                  have hfz64_1 := blk_frozen BK165.out 1
                                                  have hfz64_2 := blk_frozen BK165.out 2
                                                  obtain ⟨Ao65, co65, eo65⟩ := Kd.R_slice HO_166000.out
                                                  subst eo65
                                                  try go_wp2_with (first | ((with_reducible refine gate_callee (f := 21) rfl ?_); refine goesL_ (some 77) rfl rfl Tryd.func21 (by kernel_rfl) rfl #[.int .i64 ji51, .int .i64 0, .int .i64 (wrap64 ((x166000_2.length : Int) - 1))] rfl (by (try simp only [List.map_toArray, List.map_cons, List.map_nil]); first | done | (simp only [hji51]; rfl) | rfl | (simp only [List.length_drop, List.length_take]; rfl)) ?_; (with_reducible refine (spec_l1In.calls ji51 0 (wrap64 ((x166000_2.length : Int) - 1)) true _ A47.out).mono ?_); rintro e w' ⟨rfl, ⟨nd, rfl⟩⟩; refine ⟨_, rfl, ?_⟩) | (go_at_call 21; (with_reducible refine (spec_l1In.calls ji54 0 (wrap64 ((x166000_2.length : Int) - 1)) true _ A49.out).mono ?_); rintro e w' ⟨rfl, ⟨nd, rfl⟩⟩))
                                                  (try (rw [drewN_self wc]; generalize hq_ : World.drewN wc _ = wc; have n0_ : Aside0 (Kd.R (Kd.int .i64) 3 wc w.heap.size (fun _ => True) (.slice Ao65 x166000_2.length co65) x166000_2) := ⟨by rw [← hq_]; exact (by (with_reducible repeat (first | apply Kd.R_alloc | apply Kd.R_drewN | apply Kd.R_drew)); exact HO_166000.out)⟩; have n1_ : Aside0 (Kd.R Kd.string 9 wc w.heap.size (fun k_ => some k_ ≠ (.slice (some ad171) t167.length co62 : Value).ownBlock) (.slice (some ad158) t152.length co23) t152) := ⟨by rw [← hq_]; exact (by (with_reducible repeat (first | apply Kd.R_alloc | apply Kd.R_drewN | apply Kd.R_drew)); exact HO_4.out)⟩; have n2_ : Aside0 (Kd.R Kd.string 9 wc w.heap.size (fun k_ => some k_ ≠ (.slice (some ad158) t152.length co23 : Value).ownBlock) (.slice (some ad171) t167.length co62) t167) := ⟨by rw [← hq_]; exact (by (with_reducible repeat (first | apply Kd.R_alloc | apply Kd.R_drewN | apply Kd.R_drew)); exact HO_6.out)⟩; have n3_ : Aside0 (wc.heap[gb151]? = some (.cells #[.slice none 0 0, .int .i64 x152001_2, .slice none 0 0] 36 (0, 0))) := ⟨by rw [← hq_]; exact (by (with_reducible repeat (first | refine blk_drewN ?_ _ | refine blk_drew ?_ | refine blk_alloc ?_ _)); exact BK151.out)⟩; have n4_ : Aside0 (wc.heap[gb165]? = some (.cells #[.slice Ao65 x166000_2.length co65, .int .i64 t164, .slice none 0 0] 36 (0, 0))) := ⟨by rw [← hq_]; exact (by (with_reducible repeat (first | refine blk_drewN ?_ _ | refine blk_drew ?_ | refine blk_alloc ?_ _)); exact BK165.out)⟩; have n5_ : Aside0 (Below w.heap.size w wc) := ⟨by rw [← hq_]; exact (by repeat (first | (with_reducible first | exact HB.out | apply below_alloc | apply pw_below_drewN | apply below_drew1 | refine below_set ?_ GE151.out | refine below_set ?_ GE165.out) | exact HB.out))⟩; clear HO_166000 HO_4 HO_6 BK151 BK165 HB hq_; have HO_166000 := n0_; have HO_4 := n1_; have HO_6 := n2_; have BK151 := n3_; have BK165 := n4_; have HB := n5_; clear n0_ n1_ n2_ n3_ n4_ n5_))
                                                  have n0_ := Aside0.mk (Kd.R_drew HO_4.out)
                                                  have n1_ := Aside0.mk (Kd.R_drew HO_6.out)
                                                  have n2_ := Aside0.mk (Kd.R_drew HO_166000.out)
                                                  have n3_ := Aside0.mk (blk_drew BK151.out)
                                                  have n4_ := Aside0.mk (blk_drew BK165.out)
                                                  have n5_ := Aside0.mk (below_drew1 HB.out)
                                                  clear HO_4
                                                  clear HO_6
                                                  clear HO_166000
                                                  clear BK151
                                                  clear BK165
                                                  clear HB
                                                  have HO_4 := n0_
                                                  have HO_6 := n1_
                                                  have HO_166000 := n2_
                                                  have BK151 := n3_
                                                  have BK165 := n4_
                                                  have HB := n5_
                                                  clear n0_ n1_ n2_ n3_ n4_ n5_
                                                  have p176 : 0 ≤ ((ji51) : Int) := of_decide_eq_true (by first | (with_reducible assumption) | assumption)
                                                  have q176 : (ji51) < (x166000_2.length : Int) := of_decide_eq_true (by first | (with_reducible assumption) | assumption)
                                                  obtain ⟨ad176, e176, hx176_0⟩ := Kd.at_int (Kd.R_reads' HO_166000.out).2.2 (ji51) p176 q176
                                                  cases e176
                                                  replace p176 := eq_true p176
                                                  replace q176 := eq_true q176
                                                  have p57 : 0 ≤ ((ji51) : Int) := of_decide_eq_true (by first | (with_reducible assumption) | assumption)
                                                  have q57 : ((ji51) : Int) < ((x166000_2.length : Int) : Int) := of_decide_eq_true (by first | (with_reducible assumption) | assumption)
                                                  obtain ⟨go57, co57, eo57, gb57, gl57, cl57, HG57⟩ := Kd.R_form HO_166000.out (by omega)
                                                  (first | cases eo57 | (injection eo57 with ea_ en_ ec_; (first | subst ea_ | (injection ea_ with ea_; subst ea_)); subst ec_; clear en_))
                                                  have GB57 := Aside0.mk gb57
                                                  have GG57 := Aside0.mk HG57
                                                  clear gb57 gl57 HG57
                                                  (first | simp only [add_plain] at hx176_0 | skip)
                                                  obtain ⟨hx57_0, hf57_0⟩ := Kd.R_celln 0 HO_166000.out ((ji51) : Int) p57 q57
                                                  replace p57 := eq_true p57
                                                  replace q57 := eq_true q57
                                                  have HP67 := Kd.R_putn HO_166000.out ((ji51) : Int) (Go.bits .or .i64 (rd x166000_2 (ji51)) (ji56))
                                                  rw [← Ny177.out] at HP67
                                                  have HQ67 := Aside0.mk HP67
                                                  clear HP67
                                                  refine start_ (n := 13) (S := fun w' => w'.cell? ⟨gb165, 0, none⟩ = some (.slice (some ⟨go57, 0, none⟩) x166000_2.length co65) ∧ w'.cell? ⟨gb165, 1, none⟩ = some (.int .i64 t164) ∧ w'.cell? ⟨gb165, 2, none⟩ = some (.slice none 0 0) ∧ w'.cell? ⟨go57, ((ji51)).toNat, none⟩ = some (.int .i64 (rd x166000_2 (ji51)))) (ds := [12]) #[false, false, false, false, false, false, false, false, false, false, false, false, false] (by kernel_rfl) rfl rfl ⟨(blk_cell BK165.out 0).trans rfl, (blk_cell BK165.out 1).trans rfl, (blk_cell BK165.out 2).trans rfl, hx176_0⟩ (fun hHeld => ?_); refine with_tabW spec_ReadPlace.tab15 spec_ReadPlace.bits15 (fun HT_ HW_ => ?_)
                                                  generalize wc.drew = w66 at HO_4 HO_6 HO_166000 BK151 BK165 HB GG57 HQ67 hf57_0 hx176_0 hx57_0 hHeld ⊢
                                                  refine pure_ (i := 0) (N := some 89) (v := ?_) (a' := ?_) #[true, false, false, false, false, false, false, false, false, false, false, false, false] rfl rfl (any_of HT_.out (by kernel_rfl)) (fun _ _ _ h => h) (Or.inl ⟨by rfl, ?_⟩) ?_ ?_
                                                  rotate_left
                                                  · intro w'
                                                    go_simp
                                                    with_reducible rfl
                                                  rotate_left
                                                  · simp only [Act.put, List.setIfInBounds_toArray, List.set_cons_zero, List.set_cons_succ, i64_w, i32_w]
                                                    rfl
                                                  refine pure_ (i := 2) (N := some 91) (v := ?_) (a' := ?_) #[true, false, true, false, false, false, false, false, false, false, false, false, false] rfl rfl (any_of HT_.out (by kernel_rfl)) (fun _ _ _ h => h) (Or.inl ⟨by rfl, ?_⟩) ?_ ?_
                                                  rotate_left
                                                  · intro w'
                                                    go_simp
                                                    with_reducible rfl
                                                  rotate_left
                                                  · simp only [Act.put, List.setIfInBounds_toArray, List.set_cons_zero, List.set_cons_succ, i64_w, i32_w]
                                                    rfl
                                                  refine pure_ (i := 3) (N := some 92) (v := ?_) (a' := ?_) #[true, false, true, true, false, false, false, false, false, false, false, false, false] rfl rfl (any_of HT_.out (by kernel_rfl)) (fun _ _ _ h => h) (Or.inl ⟨by rfl, ?_⟩) ?_ ?_
                                                  rotate_left
                                                  · intro w'
                                                    go_simp
                                                    with_reducible rfl
                                                  rotate_left
                                                  · simp only [Act.put, List.setIfInBounds_toArray, List.set_cons_zero, List.set_cons_succ, i64_w, i32_w]
                                                    rfl
                                                  refine pure_ (i := 5) (N := some 94) (v := ?_) (a' := ?_) #[true, false, true, true, false, true, false, false, false, false, false, false, false] rfl rfl (any_of HT_.out (by kernel_rfl)) (fun _ _ _ h => h) (Or.inl ⟨by rfl, ?_⟩) ?_ ?_
                                                  rotate_left
                                                  · intro w'
                                                    go_simp
                                                    with_reducible rfl
                                                  rotate_left
                                                  · simp only [Act.put, List.setIfInBounds_toArray, List.set_cons_zero, List.set_cons_succ, i64_w, i32_w]
                                                    rfl
                                                  refine pure_ (i := 8) (N := some 97) (v := ?_) (a' := ?_) #[true, false, true, true, false, true, false, false, true, false, false, false, false] rfl rfl (any_of HT_.out (by kernel_rfl)) (fun _ _ _ h => h) (Or.inl ⟨by rfl, ?_⟩) ?_ ?_
                                                  rotate_left
                                                  · intro w'
                                                    go_simp
                                                    with_reducible rfl
                                                  rotate_left
                                                  · simp only [Act.put, List.setIfInBounds_toArray, List.set_cons_zero, List.set_cons_succ, i64_w, i32_w]
                                                    rfl
                                                  refine pure_ (i := 9) (N := some 98) (v := ?_) (a' := ?_) #[true, false, true, true, false, true, false, false, true, true, false, false, false] rfl rfl (any_of HT_.out (by kernel_rfl)) (fun _ _ _ h => h) (Or.inl ⟨by rfl, ?_⟩) ?_ ?_
                                                  rotate_left
                                                  · intro w'
                                                    go_simp
                                                    with_reducible rfl
                                                  rotate_left
                                                  · simp only [Act.put, List.setIfInBounds_toArray, List.set_cons_zero, List.set_cons_succ, i64_w, i32_w]
                                                    rfl
                                                  refine take_ (i := 1) (N := some 90) (v := ?_) (a' := ?_) #[true, true, true, true, false, true, false, false, true, true, false, false, false] rfl rfl (take_ofW HT_.out HW_.out (by kernel_rfl)) (fun _ _ _ h => h) (Or.inl ⟨by rfl, ?_⟩) hHeld ?_ ?_
                                                  rotate_left
                                                  · rintro w' ⟨s0, s1, s2, s3⟩
                                                    go_simp
                                                    with_reducible rfl
                                                  rotate_left
                                                  · simp only [Act.put, List.setIfInBounds_toArray, List.set_cons_zero, List.set_cons_succ, i64_w, i32_w]
                                                    rfl
                                                  refine take_ (i := 4) (N := some 93) (v := ?_) (a' := ?_) #[true, true, true, true, true, true, false, false, true, true, false, false, false] rfl rfl (take_ofW HT_.out HW_.out (by kernel_rfl)) (fun _ _ _ h => h) (Or.inl ⟨by rfl, ?_⟩) hHeld ?_ ?_
                                                  rotate_left
                                                  · rintro w' ⟨s0, s1, s2, s3⟩
                                                    go_simp
                                                    with_reducible rfl
                                                  rotate_left
                                                  · simp only [Act.put, List.setIfInBounds_toArray, List.set_cons_zero, List.set_cons_succ, i64_w, i32_w]
                                                    rfl
                                                  refine pure_ (i := 6) (N := some 95) (v := ?_) (a' := ?_) #[true, true, true, true, true, true, true, false, true, true, false, false, false] rfl rfl (any_of HT_.out (by kernel_rfl)) (fun _ _ _ h => h) (Or.inl ⟨by rfl, ?_⟩) ?_ ?_
                                                  rotate_left
                                                  · intro w'
                                                    go_simp
                                                    with_reducible rfl
                                                  rotate_left
                                                  · simp only [Act.put, List.setIfInBounds_toArray, List.set_cons_zero, List.set_cons_succ, i64_w, i32_w]
                                                    rfl
                                                  refine take_ (i := 7) (N := some 96) (v := ?_) (a' := ?_) #[true, true, true, true, true, true, true, true, true, true, false, false, false] rfl rfl (take_ofW HT_.out HW_.out (by kernel_rfl)) (fun _ _ _ h => h) (Or.inl ⟨by rfl, ?_⟩) hHeld ?_ ?_
                                                  rotate_left
                                                  · rintro w' ⟨s0, s1, s2, s3⟩
                                                    go_simp
                                                    with_reducible rfl
                                                  rotate_left
                                                  · simp only [Act.put, List.setIfInBounds_toArray, List.set_cons_zero, List.set_cons_succ, i64_w, i32_w]
                                                    rfl
                                                  refine pure_ (i := 10) (N := some 99) (v := ?_) (a' := ?_) #[true, true, true, true, true, true, true, true, true, true, true, false, false] rfl rfl (any_of HT_.out (by kernel_rfl)) (fun _ _ _ h => h) (Or.inl ⟨by rfl, ?_⟩) ?_ ?_
                                                  rotate_left
                                                  · intro w'
                                                    go_simp
                                                    with_reducible rfl
                                                  rotate_left
                                                  · simp only [Act.put, List.setIfInBounds_toArray, List.set_cons_zero, List.set_cons_succ, i64_w, i32_w]
                                                    rfl
                                                  refine pure_ (i := 11) (N := some 100) (v := ?_) (a' := ?_) #[true, true, true, true, true, true, true, true, true, true, true, true, false] rfl rfl (any_of HT_.out (by kernel_rfl)) (fun _ _ _ h => h) (Or.inl ⟨by rfl, ?_⟩) ?_ ?_
                                                  rotate_left
                                                  · intro w'
                                                    go_simp
                                                    with_reducible rfl
                                                  rotate_left
                                                  · simp only [Act.put, List.setIfInBounds_toArray, List.set_cons_zero, List.set_cons_succ, i64_w, i32_w]
                                                    rfl
                                                  refine last_ (i := 12) (N := none) #[true, true, true, true, true, true, true, true, true, true, true, true, true] rfl rfl (one_of HT_.out (by kernel_rfl)) (by decide) (fun K hK => ?_)
                                                  refine skip_ (w1 := ?_) (by rfl) rfl ?_ ?_
                                                  rotate_left
                                                  · go_simp
                                                    rfl
                                                  refine hK.out _ _ ?_
                                                  clear hK K
                                                  refine done_ (done_of HT_.out (by kernel_rfl)) ?_
                                                  try go_wp2
                                                  have n0_ : Aside0 (Kd.R Kd.string 9 (w66.setCell ⟨go57, ((ji51) : Int).toNat, none⟩ (.int .i64 (Go.bits .or .i64 (rd x166000_2 (ji51)) (ji56)))) w.heap.size (fun k_ => some k_ ≠ (.slice (some ad171) t167.length co62 : Value).ownBlock) (.slice (some ad158) t152.length co23) t152) := ⟨by (with_reducible repeat (first | apply Kd.R_alloc | apply Kd.R_drewN | apply Kd.R_drew)); exact Kd.R_mono (Kd.R_far (p := ⟨go57, ((ji51) : Int).toNat, none⟩) (Kd.R_types HO_4.out GG57.out (by decide)) (fun _ hk => hk.2) (.int .i64 (Go.bits .or .i64 (rd x166000_2 (ji51)) (ji56)))) (fun _ hk => hk.1)⟩
                                                  have n1_ : Aside0 (Kd.R Kd.string 9 (w66.setCell ⟨go57, ((ji51) : Int).toNat, none⟩ (.int .i64 (Go.bits .or .i64 (rd x166000_2 (ji51)) (ji56)))) w.heap.size (fun k_ => some k_ ≠ (.slice (some ad158) t152.length co23 : Value).ownBlock) (.slice (some ad171) t167.length co62) t167) := ⟨by (with_reducible repeat (first | apply Kd.R_alloc | apply Kd.R_drewN | apply Kd.R_drew)); exact Kd.R_mono (Kd.R_far (p := ⟨go57, ((ji51) : Int).toNat, none⟩) (Kd.R_types HO_6.out GG57.out (by decide)) (fun _ hk => hk.2) (.int .i64 (Go.bits .or .i64 (rd x166000_2 (ji51)) (ji56)))) (fun _ hk => hk.1)⟩
                                                  have n2_ : Aside0 (Kd.R (Kd.int .i64) 3 (w66.setCell ⟨go57, ((ji51) : Int).toNat, none⟩ (.int .i64 (Go.bits .or .i64 (rd x166000_2 (ji51)) (ji56)))) w.heap.size (fun _ => True) (.slice (some ⟨go57, 0, none⟩) x166000_2.length co65) y177) := ⟨by (with_reducible repeat (first | apply Kd.R_alloc | apply Kd.R_drewN | apply Kd.R_drew)); exact HQ67.out⟩
                                                  have n3_ : Aside0 ((w66.setCell ⟨go57, ((ji51) : Int).toNat, none⟩ (.int .i64 (Go.bits .or .i64 (rd x166000_2 (ji51)) (ji56)))).heap[gb151]? = some (.cells #[.slice none 0 0, .int .i64 x152001_2, .slice none 0 0] 36 (0, 0))) := ⟨by (with_reducible repeat (first | refine blk_drewN ?_ _ | refine blk_drew ?_ | refine blk_alloc ?_ _)); refine blk_far ?_ (by have h_ := Kd.R_ne HO_166000.out BK151.out (by decide); intro e_; exact h_ (by rw [e_]; rfl)) _; (with_reducible repeat (first | refine blk_drewN ?_ _ | refine blk_drew ?_ | refine blk_alloc ?_ _)); exact BK151.out⟩
                                                  have n4_ : Aside0 ((w66.setCell ⟨go57, ((ji51) : Int).toNat, none⟩ (.int .i64 (Go.bits .or .i64 (rd x166000_2 (ji51)) (ji56)))).heap[gb165]? = some (.cells #[.slice (some ⟨go57, 0, none⟩) x166000_2.length co65, .int .i64 t164, .slice none 0 0] 36 (0, 0))) := ⟨by (with_reducible repeat (first | refine blk_drewN ?_ _ | refine blk_drew ?_ | refine blk_alloc ?_ _)); refine blk_far ?_ (by have h_ := Kd.R_ne HO_166000.out BK165.out (by decide); intro e_; exact h_ (by rw [e_]; rfl)) _; (with_reducible repeat (first | refine blk_drewN ?_ _ | refine blk_drew ?_ | refine blk_alloc ?_ _)); exact BK165.out⟩
                                                  have n5_ : Aside0 (Below w.heap.size w (w66.setCell ⟨go57, ((ji51) : Int).toNat, none⟩ (.int .i64 (Go.bits .or .i64 (rd x166000_2 (ji51)) (ji56))))) := ⟨by repeat (first | (with_reducible first | exact HB.out | apply below_alloc | apply pw_below_drewN | apply below_drew1 | refine below_set ?_ GB57.out | refine below_set ?_ GE151.out | refine below_set ?_ GE165.out) | exact HB.out)⟩
                                                  (try clear HO_4)
                                                  (try clear HO_6)
                                                  (try clear HO_166000)
                                                  (try clear BK151)
                                                  (try clear BK165)
                                                  (try clear HB)
                                                  generalize (w66.setCell ⟨go57, ((ji51) : Int).toNat, none⟩ (.int .i64 (Go.bits .or .i64 (rd x166000_2 (ji51)) (ji56)))) = w68 at n0_ n1_ n2_ n3_ n4_ n5_ ⊢
                                                  have HO_4 := n0_
                                                  have HO_6 := n1_
                                                  have HO_166000 := n2_
                                                  have BK151 := n3_
                                                  have BK165 := n4_
                                                  have HB := n5_
                                                  clear n0_ n1_ n2_ n3_ n4_ n5_
                                                  have n0_ := Aside0.mk (Kd.R_drew HO_4.out)
                                                  have n1_ := Aside0.mk (Kd.R_drew HO_6.out)
                                                  have n2_ := Aside0.mk (Kd.R_drew HO_166000.out)
                                                  have n3_ := Aside0.mk (blk_drew BK151.out)
                                                  have n4_ := Aside0.mk (blk_drew BK165.out)
                                                  have n5_ := Aside0.mk (below_drew1 HB.out)
                                                  clear HO_4
                                                  clear HO_6
                                                  clear HO_166000
                                                  clear BK151
                                                  clear BK165
                                                  clear HB
                                                  have HO_4 := n0_
                                                  have HO_6 := n1_
                                                  have HO_166000 := n2_
                                                  have BK151 := n3_
                                                  have BK165 := n4_
                                                  have HB := n5_
                                                  clear n0_ n1_ n2_ n3_ n4_ n5_
                                                  have p178 : 0 ≤ ((ji54) : Int) := of_decide_eq_true (by first | (with_reducible assumption) | assumption)
                                                  have q178 : (ji54) < (y177.length : Int) := (by have h_ : ((ji54) : Int) < ((x166000_2.length : Int) : Int) := of_decide_eq_true (by first | (with_reducible assumption) | assumption); first | (have e_ := (Kd.R_reads' HO_166000.out).1; omega) | simpa only [Ny177.out, List.length_set] using h_)
                                                  have ql178 : (((ji54) : Int) < ((x166000_2.length : Int) : Int)) = True := eq_true (of_decide_eq_true (by first | (with_reducible assumption) | assumption))
                                                  obtain ⟨ad178, e178, hx178_0⟩ := Kd.at_int (Kd.R_reads' HO_166000.out).2.2 (ji54) p178 q178
                                                  obtain rfl : (⟨go57, 0, none⟩ : Addr) = ad178 := (by injection e178)
                                                  (first | simp only [add_plain] at hx178_0 | simp only [add_at] at hx178_0 | simp only [Addr.add, Nat.zero_add] at hx178_0 | skip)
                                                  replace p178 := eq_true p178
                                                  replace q178 := eq_true q178
                                                  have p61 : 0 ≤ ((ji54) : Int) := of_decide_eq_true (by first | (with_reducible assumption) | assumption)
                                                  have q61 : ((ji54) : Int) < ((x166000_2.length : Int) : Int) := of_decide_eq_true (by first | (with_reducible assumption) | assumption)
                                                  obtain ⟨hx61_0, hf61_0⟩ := Kd.R_celln 0 HO_166000.out ((ji54) : Int) p61 q61
                                                  replace p61 := eq_true p61
                                                  replace q61 := eq_true q61
                                                  obtain ⟨gz_, cz_, ez_, _, _, clz_, hz_⟩ := Kd.R_form HO_166000.out (by have h1_ : 0 ≤ (ji54 : Int) := of_decide_eq_true (by first | (with_reducible assumption) | assumption); have h2_ : (ji54 : Int) < ((x166000_2.length : Int) : Int) := of_decide_eq_true (by first | (with_reducible assumption) | assumption); have e2_ := (Kd.R_reads' HO_166000.out).1; omega)
                                                  injection ez_ with ea_ _ _
                                                  injection ea_ with ea_
                                                  injection ea_ with ea_ _ _
                                                  subst ea_
                                                  clear GG57
                                                  have GG57 := Aside0.mk hz_
                                                  clear hz_
                                                  have HP70 := Kd.R_putn HO_166000.out ((ji54) : Int) (Go.bits .or .i64 (rd y177 (ji54)) (ji60))
                                                  rw [← Ny179.out] at HP70
                                                  have HQ70 := Aside0.mk HP70
                                                  clear HP70
                                                  refine start_ (n := 13) (S := fun w' => w'.cell? ⟨gb165, 0, none⟩ = some (.slice (some ⟨go57, 0, none⟩) x166000_2.length co65) ∧ w'.cell? ⟨gb165, 1, none⟩ = some (.int .i64 t164) ∧ w'.cell? ⟨gb165, 2, none⟩ = some (.slice none 0 0) ∧ w'.cell? ⟨go57, ((ji54)).toNat, none⟩ = some (.int .i64 (rd y177 (ji54)))) (ds := [12]) #[false, false, false, false, false, false, false, false, false, false, false, false, false] (by kernel_rfl) rfl rfl ⟨(blk_cell BK165.out 0).trans rfl, (blk_cell BK165.out 1).trans rfl, (blk_cell BK165.out 2).trans rfl, hx178_0⟩ (fun hHeld => ?_); refine with_tabW spec_ReadPlace.tab16 spec_ReadPlace.bits16 (fun HT_ HW_ => ?_)
                                                  generalize w68.drew = w69 at GG57 HO_4 HO_6 HO_166000 BK151 BK165 HB HQ67 HQ70 hf61_0 hx178_0 hx61_0 hHeld ⊢
                                                  refine pure_ (i := 0) (N := some 101) (v := ?_) (a' := ?_) #[true, false, false, false, false, false, false, false, false, false, false, false, false] rfl rfl (any_of HT_.out (by kernel_rfl)) (fun _ _ _ h => h) (Or.inl ⟨by rfl, ?_⟩) ?_ ?_
                                                  rotate_left
                                                  · intro w'
                                                    go_simp
                                                    with_reducible rfl
                                                  rotate_left
                                                  · simp only [Act.put, List.setIfInBounds_toArray, List.set_cons_zero, List.set_cons_succ, i64_w, i32_w]
                                                    rfl
                                                  refine pure_ (i := 2) (N := some 103) (v := ?_) (a' := ?_) #[true, false, true, false, false, false, false, false, false, false, false, false, false] rfl rfl (any_of HT_.out (by kernel_rfl)) (fun _ _ _ h => h) (Or.inl ⟨by rfl, ?_⟩) ?_ ?_
                                                  rotate_left
                                                  · intro w'
                                                    go_simp
                                                    with_reducible rfl
                                                  rotate_left
                                                  · simp only [Act.put, List.setIfInBounds_toArray, List.set_cons_zero, List.set_cons_succ, i64_w, i32_w]
                                                    rfl
                                                  refine pure_ (i := 3) (N := some 104) (v := ?_) (a' := ?_) #[true, false, true, true, false, false, false, false, false, false, false, false, false] rfl rfl (any_of HT_.out (by kernel_rfl)) (fun _ _ _ h => h) (Or.inl ⟨by rfl, ?_⟩) ?_ ?_
                                                  rotate_left
                                                  · intro w'
                                                    go_simp
                                                    with_reducible rfl
                                                  rotate_left
                                                  · simp only [Act.put, List.setIfInBounds_toArray, List.set_cons_zero, List.set_cons_succ, i64_w, i32_w]
                                                    rfl
                                                  refine pure_ (i := 5) (N := some 106) (v := ?_) (a' := ?_) #[true, false, true, true, false, true, false, false, false, false, false, false, false] rfl rfl (any_of HT_.out (by kernel_rfl)) (fun _ _ _ h => h) (Or.inl ⟨by rfl, ?_⟩) ?_ ?_
                                                  rotate_left
                                                  · intro w'
                                                    go_simp
                                                    with_reducible rfl
                                                  rotate_left
                                                  · simp only [Act.put, List.setIfInBounds_toArray, List.set_cons_zero, List.set_cons_succ, i64_w, i32_w]
                                                    rfl
                                                  refine pure_ (i := 8) (N := some 109) (v := ?_) (a' := ?_) #[true, false, true, true, false, true, false, false, true, false, false, false, false] rfl rfl (any_of HT_.out (by kernel_rfl)) (fun _ _ _ h => h) (Or.inl ⟨by rfl, ?_⟩) ?_ ?_
                                                  rotate_left
                                                  · intro w'
                                                    go_simp
                                                    with_reducible rfl
                                                  rotate_left
                                                  · simp only [Act.put, List.setIfInBounds_toArray, List.set_cons_zero, List.set_cons_succ, i64_w, i32_w]
                                                    rfl
                                                  refine pure_ (i := 9) (N := some 110) (v := ?_) (a' := ?_) #[true, false, true, true, false, true, false, false, true, true, false, false, false] rfl rfl (any_of HT_.out (by kernel_rfl)) (fun _ _ _ h => h) (Or.inl ⟨by rfl, ?_⟩) ?_ ?_
                                                  rotate_left
                                                  · intro w'
                                                    go_simp
                                                    with_reducible rfl
                                                  rotate_left
                                                  · simp only [Act.put, List.setIfInBounds_toArray, List.set_cons_zero, List.set_cons_succ, i64_w, i32_w]
                                                    rfl
                                                  refine take_ (i := 1) (N := some 102) (v := ?_) (a' := ?_) #[true, true, true, true, false, true, false, false, true, true, false, false, false] rfl rfl (take_ofW HT_.out HW_.out (by kernel_rfl)) (fun _ _ _ h => h) (Or.inl ⟨by rfl, ?_⟩) hHeld ?_ ?_
                                                  rotate_left
                                                  · rintro w' ⟨s0, s1, s2, s3⟩
                                                    go_simp
                                                    with_reducible rfl
                                                  rotate_left
                                                  · simp only [Act.put, List.setIfInBounds_toArray, List.set_cons_zero, List.set_cons_succ, i64_w, i32_w]
                                                    rfl
                                                  refine take_ (i := 4) (N := some 105) (v := ?_) (a' := ?_) #[true, true, true, true, true, true, false, false, true, true, false, false, false] rfl rfl (take_ofW HT_.out HW_.out (by kernel_rfl)) (fun _ _ _ h => h) (Or.inl ⟨by rfl, ?_⟩) hHeld ?_ ?_
                                                  rotate_left
                                                  · rintro w' ⟨s0, s1, s2, s3⟩
                                                    go_simp
                                                    with_reducible rfl
                                                  rotate_left
                                                  · simp only [Act.put, List.setIfInBounds_toArray, List.set_cons_zero, List.set_cons_succ, i64_w, i32_w]
                                                    rfl
                                                  refine pure_ (i := 6) (N := some 107) (v := ?_) (a' := ?_) #[true, true, true, true, true, true, true, false, true, true, false, false, false] rfl rfl (any_of HT_.out (by kernel_rfl)) (fun _ _ _ h => h) (Or.inl ⟨by rfl, ?_⟩) ?_ ?_
                                                  rotate_left
                                                  · intro w'
                                                    go_simp
                                                    with_reducible rfl
                                                  rotate_left
                                                  · simp only [Act.put, List.setIfInBounds_toArray, List.set_cons_zero, List.set_cons_succ, i64_w, i32_w]
                                                    rfl
                                                  refine take_ (i := 7) (N := some 108) (v := ?_) (a' := ?_) #[true, true, true, true, true, true, true, true, true, true, false, false, false] rfl rfl (take_ofW HT_.out HW_.out (by kernel_rfl)) (fun _ _ _ h => h) (Or.inl ⟨by rfl, ?_⟩) hHeld ?_ ?_
                                                  rotate_left
                                                  · rintro w' ⟨s0, s1, s2, s3⟩
                                                    go_simp
                                                    with_reducible rfl
                                                  rotate_left
                                                  · simp only [Act.put, List.setIfInBounds_toArray, List.set_cons_zero, List.set_cons_succ, i64_w, i32_w]
                                                    rfl
                                                  refine pure_ (i := 10) (N := some 111) (v := ?_) (a' := ?_) #[true, true, true, true, true, true, true, true, true, true, true, false, false] rfl rfl (any_of HT_.out (by kernel_rfl)) (fun _ _ _ h => h) (Or.inl ⟨by rfl, ?_⟩) ?_ ?_
                                                  rotate_left
                                                  · intro w'
                                                    go_simp
                                                    with_reducible rfl
                                                  rotate_left
                                                  · simp only [Act.put, List.setIfInBounds_toArray, List.set_cons_zero, List.set_cons_succ, i64_w, i32_w]
                                                    rfl
                                                  refine pure_ (i := 11) (N := some 112) (v := ?_) (a' := ?_) #[true, true, true, true, true, true, true, true, true, true, true, true, false] rfl rfl (any_of HT_.out (by kernel_rfl)) (fun _ _ _ h => h) (Or.inl ⟨by rfl, ?_⟩) ?_ ?_
                                                  rotate_left
                                                  · intro w'
                                                    go_simp
                                                    with_reducible rfl
                                                  rotate_left
                                                  · simp only [Act.put, List.setIfInBounds_toArray, List.set_cons_zero, List.set_cons_succ, i64_w, i32_w]
                                                    rfl
                                                  refine last_ (i := 12) (N := none) #[true, true, true, true, true, true, true, true, true, true, true, true, true] rfl rfl (one_of HT_.out (by kernel_rfl)) (by decide) (fun K hK => ?_)
                                                  refine skip_ (w1 := ?_) (by rfl) rfl ?_ ?_
                                                  rotate_left
                                                  · go_simp
                                                    rfl
                                                  refine hK.out _ _ ?_
                                                  clear hK K
                                                  refine done_ (done_of HT_.out (by kernel_rfl)) ?_
                                                  try go_wp2
                                                  go_roundg kj33
                                                  case measure => have := HJ2.out; have := HK2.out; have := HJ33.out; omega
                                                  case rel => exact ⟨(wrap64 (x7_2 + 1)), (x152001_2), (y179), (.slice (some ⟨go57, 0, none⟩) x166000_2.length co65), (by first | rfl | (simp; done) | (simp [*]; done)), H', ⟨by have := HJ2.out; have := HK2.out; have := HJ33.out; omega⟩, ⟨by (with_reducible repeat (first | apply Kd.R_alloc | apply Kd.R_drewN | apply Kd.R_drew)); exact Kd.R_mono (Kd.R_far (p := ⟨go57, ((ji54) : Int).toNat, none⟩) (Kd.R_types HO_4.out GG57.out (by decide)) (fun _ hk => hk.2) (.int .i64 (Go.bits .or .i64 (rd y177 (ji54)) (ji60)))) (fun _ hk => hk.1)⟩, ⟨by (with_reducible repeat (first | apply Kd.R_alloc | apply Kd.R_drewN | apply Kd.R_drew)); exact Kd.R_mono (Kd.R_far (p := ⟨go57, ((ji54) : Int).toNat, none⟩) (Kd.R_types HO_6.out GG57.out (by decide)) (fun _ hk => hk.2) (.int .i64 (Go.bits .or .i64 (rd y177 (ji54)) (ji60)))) (fun _ hk => hk.1)⟩, ⟨by (with_reducible repeat (first | apply Kd.R_alloc | apply Kd.R_drewN | apply Kd.R_drew)); exact HQ70.out⟩, ⟨by (with_reducible repeat (first | refine blk_drewN ?_ _ | refine blk_drew ?_ | refine blk_alloc ?_ _)); refine blk_far ?_ (by have h_ := Kd.R_ne HO_166000.out BK151.out (by decide); intro e_; exact h_ (by rw [e_]; rfl)) _; (with_reducible repeat (first | refine blk_drewN ?_ _ | refine blk_drew ?_ | refine blk_alloc ?_ _)); exact BK151.out⟩, ⟨by (with_reducible repeat (first | refine blk_drewN ?_ _ | refine blk_drew ?_ | refine blk_alloc ?_ _)); refine blk_far ?_ (by have h_ := Kd.R_ne HO_166000.out BK165.out (by decide); intro e_; exact h_ (by rw [e_]; rfl)) _; (with_reducible repeat (first | refine blk_drewN ?_ _ | refine blk_drew ?_ | refine blk_alloc ?_ _)); exact BK165.out⟩, ⟨by repeat (first | (with_reducible first | exact HB.out | apply below_alloc | apply pw_below_drewN | apply below_drew1 | refine below_set ?_ GB57.out | refine below_set ?_ GE151.out | refine below_set ?_ GE165.out) | exact HB.out)⟩⟩
                                                · rw [if_neg c58] at H
                                                  exact absurd H (by simp)
                                              · rw [if_neg c55] at H
                                                exact absurd H (by simp)
                                            · rw [if_neg c53] at H
                                              exact absurd H (by simp)
                                          · rw [if_neg c52] at H
                                            exact absurd H (by simp)
                                        · replace c50 := Bool.eq_false_iff.mpr c50
                                          subst c50
                                          have H1 : (some (([] : List Int), 0, ([] : List Int), false)) = some (r1, r2, r3, r4) := by rw [if_neg (show ¬ (false = true) by decide)] at H; exact H
                                          clear H
                                          have H := H1
                                          clear H1
                                          simp only [Option.some.injEq, Prod.mk.injEq] at H
                                          obtain ⟨rfl, rfl, rfl, rfl⟩ := H
                                          obtain ⟨Ao71, co71, eo71⟩ := Kd.R_slice HO_6.out
                                          subst eo71
                                          have p171 : 0 ≤ (x7_2 : Int) := of_decide_eq_true (by first | (with_reducible assumption) | assumption)
                                          have q171 : x7_2 < (t167.length : Int) := of_decide_eq_true (by first | (with_reducible assumption) | assumption)
                                          obtain ⟨ad171, e171, hx171_0⟩ := Kd.at_string (Kd.R_reads' HO_6.out).2.2 x7_2 p171 q171
                                          cases e171
                                          replace p171 := eq_true p171
                                          replace q171 := eq_true q171
                                          have p172 : 0 ≤ (x7_2 : Int) := of_decide_eq_true (by first | (with_reducible assumption) | assumption)
                                          have q172 : x7_2 < (t167.length : Int) := of_decide_eq_true (by first | (with_reducible assumption) | assumption)
                                          obtain ⟨ad172, e172, hx172_0⟩ := Kd.at_string (Kd.R_reads' HO_6.out).2.2 x7_2 p172 q172
                                          obtain rfl : ad171 = ad172 := (by injection e172)
                                          replace p172 := eq_true p172
                                          replace q172 := eq_true q172
                                          have p44 : 0 ≤ (0 : Int) := (by omega)
                                          have q44 : 0 < (rdOf ByteArray.empty t167 x7_2).size := (by have : (0 : Int) < ((rdOf ByteArray.empty t167 x7_2).size : Int) := of_decide_eq_true (by first | (with_reducible assumption) | assumption); omega)
                                          have hx44 : ∀ h : 0 < (rdOf ByteArray.empty t167 x7_2).size, (((rdOf ByteArray.empty t167 x7_2)[0]'h).toNat : Int) = bt (rdOf ByteArray.empty t167 x7_2) 0 := bt_at (rdOf ByteArray.empty t167 x7_2) 0
                                          clear p44
                                          have qi44 : (0 < ((rdOf ByteArray.empty t167 x7_2).size : Int)) = True := eq_true (of_decide_eq_true (by first | (with_reducible assumption) | assumption))
                                          replace q44 := eq_true q44
                                          have p173 : 0 ≤ (x7_2 : Int) := of_decide_eq_true (by first | (with_reducible assumption) | assumption)
                                          have q173 : x7_2 < (t167.length : Int) := of_decide_eq_true (by first | (with_reducible assumption) | assumption)
                                          obtain ⟨ad173, e173, hx173_0⟩ := Kd.at_string (Kd.R_reads' HO_6.out).2.2 x7_2 p173 q173
                                          obtain rfl : ad171 = ad173 := (by injection e173)
                                          replace p173 := eq_true p173
                                          replace q173 := eq_true q173
                                          have p46 : 0 ≤ (1 : Int) := (by omega)
                                          have q46 : 1 < (rdOf ByteArray.empty t167 x7_2).size := (by have : (1 : Int) < ((rdOf ByteArray.empty t167 x7_2).size : Int) := of_decide_eq_true (by first | (with_reducible assumption) | assumption); omega)
                                          have hx46 : ∀ h : 1 < (rdOf ByteArray.empty t167 x7_2).size, (((rdOf ByteArray.empty t167 x7_2)[1]'h).toNat : Int) = bt (rdOf ByteArray.empty t167 x7_2) 1 := bt_at (rdOf ByteArray.empty t167 x7_2) 1
                                          clear p46
                                          have qi46 : (1 < ((rdOf ByteArray.empty t167 x7_2).size : Int)) = True := eq_true (of_decide_eq_true (by first | (with_reducible assumption) | assumption))
                                          replace q46 := eq_true q46
                                          have hnb72 := NB165_151.out
                                          have hnc72 := NB151_165.out
                                          have hcz73_0 : wc.cell? ⟨gb165, 0, none⟩ = some (u166000) := (blk_cell BK165.out 0).trans rfl
                                          have hcz73_1 : wc.cell? ⟨gb165, 1, none⟩ = some (.int .i64 t164) := (blk_cell BK165.out 1).trans rfl
                                          have hcz73_2 : wc.cell? ⟨gb165, 2, none⟩ = some (.slice none 0 0) := (blk_cell BK165.out 2).trans rfl
                                          have hfz73_0 := blk_frozen BK165.out 0
                                          have hfz73_1 := blk_frozen BK165.out 1
                                          have hfz73_2 := blk_frozen BK165.out 2
                                          obtain ⟨Ao74, co74, eo74⟩ := Kd.R_slice HO_166000.out
                                          subst eo74
                                          go_wp2_with (first | ((with_reducible refine gate_callee (f := 21) rfl ?_); refine goesL_ (some 77) rfl rfl Tryd.func21 (by kernel_rfl) rfl #[.int .i64 (wrap64 ((wrap64 (bt (rdOf ByteArray.empty t167 x7_2) 0)) - 48)), .int .i64 0, .int .i64 (wrap64 ((x166000_2.length : Int) - 1))] rfl (by (try simp only [List.map_toArray, List.map_cons, List.map_nil]); first | done | rfl | (simp only [List.length_drop, List.length_take]; rfl)) ?_; (with_reducible refine (spec_l1In.calls (wrap64 ((wrap64 (bt (rdOf ByteArray.empty t167 x7_2) 0)) - 48)) 0 (wrap64 ((x166000_2.length : Int) - 1)) true _ A47.out).mono ?_); rintro e w' ⟨rfl, ⟨nd, rfl⟩⟩; refine ⟨_, rfl, ?_⟩) | (go_at_call 21; (with_reducible refine (spec_l1In.calls (wrap64 ((wrap64 (bt (rdOf ByteArray.empty t167 x7_2) 1)) - 48)) 0 (wrap64 ((x166000_2.length : Int) - 1)) false _ A49.out).mono ?_); rintro e w' ⟨rfl, ⟨nd, rfl⟩⟩; have hcz75_0 : wc.cell? ⟨gb151, 0, none⟩ = some (.slice none 0 0) := (blk_cell BK151.out 0).trans rfl; have hcz75_1 : wc.cell? ⟨gb151, 1, none⟩ = some (.int .i64 x152001_2) := (blk_cell BK151.out 1).trans rfl; have hcz75_2 : wc.cell? ⟨gb151, 2, none⟩ = some (.slice none 0 0) := (blk_cell BK151.out 2).trans rfl; have hfz75_0 := blk_frozen BK151.out 0; have hfz75_1 := blk_frozen BK151.out 1; have hfz75_2 := blk_frozen BK151.out 2))
                                          (try (rw [drewN_self wc]; generalize hq_ : World.drewN wc _ = wc; have n0_ : Aside0 (Kd.R (Kd.int .i64) 3 wc w.heap.size (fun _ => True) (.slice Ao74 x166000_2.length co74) x166000_2) := ⟨by rw [← hq_]; exact (by (with_reducible repeat (first | apply Kd.R_alloc | apply Kd.R_drewN | apply Kd.R_drew)); exact HO_166000.out)⟩; have n1_ : Aside0 (Kd.R Kd.string 9 wc w.heap.size (fun k_ => some k_ ≠ (.slice (some ad171) t167.length co71 : Value).ownBlock) (.slice (some ad158) t152.length co23) t152) := ⟨by rw [← hq_]; exact (by (with_reducible repeat (first | apply Kd.R_alloc | apply Kd.R_drewN | apply Kd.R_drew)); exact HO_4.out)⟩; have n2_ : Aside0 (Kd.R Kd.string 9 wc w.heap.size (fun k_ => some k_ ≠ (.slice (some ad158) t152.length co23 : Value).ownBlock) (.slice (some ad171) t167.length co71) t167) := ⟨by rw [← hq_]; exact (by (with_reducible repeat (first | apply Kd.R_alloc | apply Kd.R_drewN | apply Kd.R_drew)); exact HO_6.out)⟩; have n3_ : Aside0 (wc.heap[gb151]? = some (.cells #[.slice none 0 0, .int .i64 x152001_2, .slice none 0 0] 36 (0, 0))) := ⟨by rw [← hq_]; exact (by (with_reducible repeat (first | refine blk_drewN ?_ _ | refine blk_drew ?_ | refine blk_alloc ?_ _)); exact BK151.out)⟩; have n4_ : Aside0 (wc.heap[gb165]? = some (.cells #[.slice Ao74 x166000_2.length co74, .int .i64 t164, .slice none 0 0] 36 (0, 0))) := ⟨by rw [← hq_]; exact (by (with_reducible repeat (first | refine blk_drewN ?_ _ | refine blk_drew ?_ | refine blk_alloc ?_ _)); exact BK165.out)⟩; have n5_ : Aside0 (Below w.heap.size w wc) := ⟨by rw [← hq_]; exact (by repeat (first | (with_reducible first | exact HB.out | apply below_alloc | apply pw_below_drewN | apply below_drew1 | refine below_set ?_ GE151.out | refine below_set ?_ GE165.out) | exact HB.out))⟩; clear HO_166000 HO_4 HO_6 BK151 BK165 HB hq_; have HO_166000 := n0_; have HO_4 := n1_; have HO_6 := n2_; have BK151 := n3_; have BK165 := n4_; have HB := n5_; clear n0_ n1_ n2_ n3_ n4_ n5_))
                                          refine bodyPost_ret (results_ct rfl _ _ gb151 36 #[.slice none 0 0, .int .i64 0, .slice none 0 0] (0, 0) _ rfl (by (with_reducible repeat (first | refine blk_drewN ?_ _ | refine blk_drew ?_ | refine blk_alloc ?_ _)); refine blk_put (cs := #[.slice none 0 0, .int .i64 0, .slice none 0 0]) ?_ 2 _ rfl; (with_reducible repeat (first | refine blk_drewN ?_ _ | refine blk_drew ?_ | refine blk_alloc ?_ _)); refine blk_put (cs := #[.slice none 0 0, .int .i64 x152001_2, .slice none 0 0]) ?_ 1 _ rfl; (with_reducible repeat (first | refine blk_drewN ?_ _ | refine blk_drew ?_ | refine blk_alloc ?_ _)); refine blk_put (cs := #[.slice none 0 0, .int .i64 x152001_2, .slice none 0 0]) ?_ 0 _ rfl; (with_reducible repeat (first | refine blk_drewN ?_ _ | refine blk_drew ?_ | refine blk_alloc ?_ _)); exact BK151.out) Tryd.underlying36 rfl (by kernel_rfl)) rfl ?_
                                          exact ⟨_, _, by first | rfl | (simp [errW_none, errW_some] <;> rfl) | (simp [*, errW_none, errW_some] <;> rfl), by first | exact Kd.R_nil _ _ _ _ _ | exact Kd.N_nil _ _ _ _ _ | exact Kd.V_nil _ _ _ _ _ | exact Kd.Q_nil _ _ _ _ _ | exact Kd.S_nil _ _ _ _ _, by first | exact Kd.R_nil _ _ _ _ _ | exact Kd.N_nil _ _ _ _ _ | exact Kd.V_nil _ _ _ _ _ | exact Kd.Q_nil _ _ _ _ _ | exact Kd.S_nil _ _ _ _ _, by repeat (first | (with_reducible first | exact HB.out | apply below_alloc | apply pw_below_drewN | apply below_drew1 | refine below_set ?_ GE151.out | refine below_set ?_ GE165.out) | exact HB.out)⟩
                                      · replace c48 := Bool.eq_false_iff.mpr c48
                                        subst c48
                                        have H1 : (some (([] : List Int), 0, ([] : List Int), false)) = some (r1, r2, r3, r4) := by rw [if_neg (show ¬ (false = true) by decide)] at H; exact H
                                        clear H
                                        have H := H1
                                        clear H1
                                        simp only [Option.some.injEq, Prod.mk.injEq] at H
                                        obtain ⟨rfl, rfl, rfl, rfl⟩ := H
                                        obtain ⟨Ao76, co76, eo76⟩ := Kd.R_slice HO_6.out
                                        subst eo76
                                        have p171 : 0 ≤ (x7_2 : Int) := of_decide_eq_true (by first | (with_reducible assumption) | assumption)
                                        have q171 : x7_2 < (t167.length : Int) := of_decide_eq_true (by first | (with_reducible assumption) | assumption)
                                        obtain ⟨ad171, e171, hx171_0⟩ := Kd.at_string (Kd.R_reads' HO_6.out).2.2 x7_2 p171 q171
                                        cases e171
                                        replace p171 := eq_true p171
                                        replace q171 := eq_true q171
                                        have p172 : 0 ≤ (x7_2 : Int) := of_decide_eq_true (by first | (with_reducible assumption) | assumption)
                                        have q172 : x7_2 < (t167.length : Int) := of_decide_eq_true (by first | (with_reducible assumption) | assumption)
                                        obtain ⟨ad172, e172, hx172_0⟩ := Kd.at_string (Kd.R_reads' HO_6.out).2.2 x7_2 p172 q172
                                        obtain rfl : ad171 = ad172 := (by injection e172)
                                        replace p172 := eq_true p172
                                        replace q172 := eq_true q172
                                        have p44 : 0 ≤ (0 : Int) := (by omega)
                                        have q44 : 0 < (rdOf ByteArray.empty t167 x7_2).size := (by have : (0 : Int) < ((rdOf ByteArray.empty t167 x7_2).size : Int) := of_decide_eq_true (by first | (with_reducible assumption) | assumption); omega)
                                        have hx44 : ∀ h : 0 < (rdOf ByteArray.empty t167 x7_2).size, (((rdOf ByteArray.empty t167 x7_2)[0]'h).toNat : Int) = bt (rdOf ByteArray.empty t167 x7_2) 0 := bt_at (rdOf ByteArray.empty t167 x7_2) 0
                                        clear p44
                                        have qi44 : (0 < ((rdOf ByteArray.empty t167 x7_2).size : Int)) = True := eq_true (of_decide_eq_true (by first | (with_reducible assumption) | assumption))
                                        replace q44 := eq_true q44
                                        have p173 : 0 ≤ (x7_2 : Int) := of_decide_eq_true (by first | (with_reducible assumption) | assumption)
                                        have q173 : x7_2 < (t167.length : Int) := of_decide_eq_true (by first | (with_reducible assumption) | assumption)
                                        obtain ⟨ad173, e173, hx173_0⟩ := Kd.at_string (Kd.R_reads' HO_6.out).2.2 x7_2 p173 q173
                                        obtain rfl : ad171 = ad173 := (by injection e173)
                                        replace p173 := eq_true p173
                                        replace q173 := eq_true q173
                                        have p46 : 0 ≤ (1 : Int) := (by omega)
                                        have q46 : 1 < (rdOf ByteArray.empty t167 x7_2).size := (by have : (1 : Int) < ((rdOf ByteArray.empty t167 x7_2).size : Int) := of_decide_eq_true (by first | (with_reducible assumption) | assumption); omega)
                                        have hx46 : ∀ h : 1 < (rdOf ByteArray.empty t167 x7_2).size, (((rdOf ByteArray.empty t167 x7_2)[1]'h).toNat : Int) = bt (rdOf ByteArray.empty t167 x7_2) 1 := bt_at (rdOf ByteArray.empty t167 x7_2) 1
                                        clear p46
                                        have qi46 : (1 < ((rdOf ByteArray.empty t167 x7_2).size : Int)) = True := eq_true (of_decide_eq_true (by first | (with_reducible assumption) | assumption))
                                        replace q46 := eq_true q46
                                        have hnb77 := NB165_151.out
                                        have hnc77 := NB151_165.out
                                        have hcz78_0 : wc.cell? ⟨gb165, 0, none⟩ = some (u166000) := (blk_cell BK165.out 0).trans rfl
                                        have hcz78_1 : wc.cell? ⟨gb165, 1, none⟩ = some (.int .i64 t164) := (blk_cell BK165.out 1).trans rfl
                                        have hcz78_2 : wc.cell? ⟨gb165, 2, none⟩ = some (.slice none 0 0) := (blk_cell BK165.out 2).trans rfl
                                        have hfz78_0 := blk_frozen BK165.out 0
                                        have hfz78_1 := blk_frozen BK165.out 1
                                        have hfz78_2 := blk_frozen BK165.out 2
                                        obtain ⟨Ao79, co79, eo79⟩ := Kd.R_slice HO_166000.out
                                        subst eo79
                                        go_wp2_with (first | ((with_reducible refine gate_callee (f := 21) rfl ?_); refine goesL_ (some 77) rfl rfl Tryd.func21 (by kernel_rfl) rfl #[.int .i64 (wrap64 ((wrap64 (bt (rdOf ByteArray.empty t167 x7_2) 0)) - 48)), .int .i64 0, .int .i64 (wrap64 ((x166000_2.length : Int) - 1))] rfl (by (try simp only [List.map_toArray, List.map_cons, List.map_nil]); first | done | rfl | (simp only [List.length_drop, List.length_take]; rfl)) ?_; (with_reducible refine (spec_l1In.calls (wrap64 ((wrap64 (bt (rdOf ByteArray.empty t167 x7_2) 0)) - 48)) 0 (wrap64 ((x166000_2.length : Int) - 1)) false _ A47.out).mono ?_); rintro e w' ⟨rfl, ⟨nd, rfl⟩⟩; refine ⟨_, rfl, ?_⟩; have hcz80_0 : wc.cell? ⟨gb151, 0, none⟩ = some (.slice none 0 0) := (blk_cell BK151.out 0).trans rfl; have hcz80_1 : wc.cell? ⟨gb151, 1, none⟩ = some (.int .i64 x152001_2) := (blk_cell BK151.out 1).trans rfl; have hcz80_2 : wc.cell? ⟨gb151, 2, none⟩ = some (.slice none 0 0) := (blk_cell BK151.out 2).trans rfl; have hfz80_0 := blk_frozen BK151.out 0; have hfz80_1 := blk_frozen BK151.out 1; have hfz80_2 := blk_frozen BK151.out 2))
                                        (try (rw [drewN_self wc]; generalize hq_ : World.drewN wc _ = wc; have n0_ : Aside0 (Kd.R (Kd.int .i64) 3 wc w.heap.size (fun _ => True) (.slice Ao79 x166000_2.length co79) x166000_2) := ⟨by rw [← hq_]; exact (by (with_reducible repeat (first | apply Kd.R_alloc | apply Kd.R_drewN | apply Kd.R_drew)); exact HO_166000.out)⟩; have n1_ : Aside0 (Kd.R Kd.string 9 wc w.heap.size (fun k_ => some k_ ≠ (.slice (some ad171) t167.length co76 : Value).ownBlock) (.slice (some ad158) t152.length co23) t152) := ⟨by rw [← hq_]; exact (by (with_reducible repeat (first | apply Kd.R_alloc | apply Kd.R_drewN | apply Kd.R_drew)); exact HO_4.out)⟩; have n2_ : Aside0 (Kd.R Kd.string 9 wc w.heap.size (fun k_ => some k_ ≠ (.slice (some ad158) t152.length co23 : Value).ownBlock) (.slice (some ad171) t167.length co76) t167) := ⟨by rw [← hq_]; exact (by (with_reducible repeat (first | apply Kd.R_alloc | apply Kd.R_drewN | apply Kd.R_drew)); exact HO_6.out)⟩; have n3_ : Aside0 (wc.heap[gb151]? = some (.cells #[.slice none 0 0, .int .i64 x152001_2, .slice none 0 0] 36 (0, 0))) := ⟨by rw [← hq_]; exact (by (with_reducible repeat (first | refine blk_drewN ?_ _ | refine blk_drew ?_ | refine blk_alloc ?_ _)); exact BK151.out)⟩; have n4_ : Aside0 (wc.heap[gb165]? = some (.cells #[.slice Ao79 x166000_2.length co79, .int .i64 t164, .slice none 0 0] 36 (0, 0))) := ⟨by rw [← hq_]; exact (by (with_reducible repeat (first | refine blk_drewN ?_ _ | refine blk_drew ?_ | refine blk_alloc ?_ _)); exact BK165.out)⟩; have n5_ : Aside0 (Below w.heap.size w wc) := ⟨by rw [← hq_]; exact (by repeat (first | (with_reducible first | exact HB.out | apply below_alloc | apply pw_below_drewN | apply below_drew1 | refine below_set ?_ GE151.out | refine below_set ?_ GE165.out) | exact HB.out))⟩; clear HO_166000 HO_4 HO_6 BK151 BK165 HB hq_; have HO_166000 := n0_; have HO_4 := n1_; have HO_6 := n2_; have BK151 := n3_; have BK165 := n4_; have HB := n5_; clear n0_ n1_ n2_ n3_ n4_ n5_))
                                        refine bodyPost_ret (results_ct rfl _ _ gb151 36 #[.slice none 0 0, .int .i64 0, .slice none 0 0] (0, 0) _ rfl (by (with_reducible repeat (first | refine blk_drewN ?_ _ | refine blk_drew ?_ | refine blk_alloc ?_ _)); refine blk_put (cs := #[.slice none 0 0, .int .i64 0, .slice none 0 0]) ?_ 2 _ rfl; (with_reducible repeat (first | refine blk_drewN ?_ _ | refine blk_drew ?_ | refine blk_alloc ?_ _)); refine blk_put (cs := #[.slice none 0 0, .int .i64 x152001_2, .slice none 0 0]) ?_ 1 _ rfl; (with_reducible repeat (first | refine blk_drewN ?_ _ | refine blk_drew ?_ | refine blk_alloc ?_ _)); refine blk_put (cs := #[.slice none 0 0, .int .i64 x152001_2, .slice none 0 0]) ?_ 0 _ rfl; (with_reducible repeat (first | refine blk_drewN ?_ _ | refine blk_drew ?_ | refine blk_alloc ?_ _)); exact BK151.out) Tryd.underlying36 rfl (by kernel_rfl)) rfl ?_
                                        exact ⟨_, _, by first | rfl | (simp [errW_none, errW_some] <;> rfl) | (simp [*, errW_none, errW_some] <;> rfl), by first | exact Kd.R_nil _ _ _ _ _ | exact Kd.N_nil _ _ _ _ _ | exact Kd.V_nil _ _ _ _ _ | exact Kd.Q_nil _ _ _ _ _ | exact Kd.S_nil _ _ _ _ _, by first | exact Kd.R_nil _ _ _ _ _ | exact Kd.N_nil _ _ _ _ _ | exact Kd.V_nil _ _ _ _ _ | exact Kd.Q_nil _ _ _ _ _ | exact Kd.S_nil _ _ _ _ _, by repeat (first | (with_reducible first | exact HB.out | apply below_alloc | apply pw_below_drewN | apply below_drew1 | refine below_set ?_ GE151.out | refine below_set ?_ GE165.out) | exact HB.out)⟩
                                    · rw [if_neg c45] at H
                                      exact absurd H (by simp)
                                  · rw [if_neg c43] at H
                                    exact absurd H (by simp)
                                · rw [if_neg c42] at H
                                  have c42b0 : (((rdOf ByteArray.empty t167 x7_2).size : Int) == 2) = false := beq_eq_false_iff_ne.mpr c42
                                  have c42b1 : (((rdOf ByteArray.empty t167 x7_2).size : Int) != 2) = true := bne_iff_ne.mpr c42
                                  simp only [Option.some.injEq, Prod.mk.injEq] at H
                                  obtain ⟨rfl, rfl, rfl, rfl⟩ := H
                                  obtain ⟨Ao81, co81, eo81⟩ := Kd.R_slice HO_6.out
                                  subst eo81
                                  have p171 : 0 ≤ (x7_2 : Int) := of_decide_eq_true (by first | (with_reducible assumption) | assumption)
                                  have q171 : x7_2 < (t167.length : Int) := of_decide_eq_true (by first | (with_reducible assumption) | assumption)
                                  obtain ⟨ad171, e171, hx171_0⟩ := Kd.at_string (Kd.R_reads' HO_6.out).2.2 x7_2 p171 q171
                                  cases e171
                                  replace p171 := eq_true p171
                                  replace q171 := eq_true q171
                                  have hnb82 := NB151_165.out
                                  have hnc82 := NB165_151.out
                                  have hcz83_0 : wc.cell? ⟨gb151, 0, none⟩ = some (.slice none 0 0) := (blk_cell BK151.out 0).trans rfl
                                  have hcz83_1 : wc.cell? ⟨gb151, 1, none⟩ = some (.int .i64 x152001_2) := (blk_cell BK151.out 1).trans rfl
                                  have hcz83_2 : wc.cell? ⟨gb151, 2, none⟩ = some (.slice none 0 0) := (blk_cell BK151.out 2).trans rfl
                                  have hfz83_0 := blk_frozen BK151.out 0
                                  have hfz83_1 := blk_frozen BK151.out 1
                                  have hfz83_2 := blk_frozen BK151.out 2
                                  go_wp2
                                  refine bodyPost_ret (results_ct rfl _ _ gb151 36 #[.slice none 0 0, .int .i64 0, .slice none 0 0] (0, 0) _ rfl (by (with_reducible repeat (first | refine blk_drewN ?_ _ | refine blk_drew ?_ | refine blk_alloc ?_ _)); refine blk_put (cs := #[.slice none 0 0, .int .i64 0, .slice none 0 0]) ?_ 2 _ rfl; (with_reducible repeat (first | refine blk_drewN ?_ _ | refine blk_drew ?_ | refine blk_alloc ?_ _)); refine blk_put (cs := #[.slice none 0 0, .int .i64 x152001_2, .slice none 0 0]) ?_ 1 _ rfl; (with_reducible repeat (first | refine blk_drewN ?_ _ | refine blk_drew ?_ | refine blk_alloc ?_ _)); refine blk_put (cs := #[.slice none 0 0, .int .i64 x152001_2, .slice none 0 0]) ?_ 0 _ rfl; (with_reducible repeat (first | refine blk_drewN ?_ _ | refine blk_drew ?_ | refine blk_alloc ?_ _)); exact BK151.out) Tryd.underlying36 rfl (by kernel_rfl)) rfl ?_
                                  exact ⟨_, _, by first | rfl | (simp [errW_none, errW_some] <;> rfl) | (simp [*, errW_none, errW_some] <;> rfl), by first | exact Kd.R_nil _ _ _ _ _ | exact Kd.N_nil _ _ _ _ _ | exact Kd.V_nil _ _ _ _ _ | exact Kd.Q_nil _ _ _ _ _ | exact Kd.S_nil _ _ _ _ _, by first | exact Kd.R_nil _ _ _ _ _ | exact Kd.N_nil _ _ _ _ _ | exact Kd.V_nil _ _ _ _ _ | exact Kd.Q_nil _ _ _ _ _ | exact Kd.S_nil _ _ _ _ _, by repeat (first | (with_reducible first | exact HB.out | apply below_alloc | apply pw_below_drewN | apply below_drew1 | refine below_set ?_ GE151.out | refine below_set ?_ GE165.out) | exact HB.out)⟩
                              · rw [if_neg c41] at H
                                exact absurd H (by simp)
                            · rw [if_neg c40] at H
                              exact absurd H (by simp)
                          · replace c39 := Bool.eq_false_iff.mpr c39
                            subst c39
                            have H1 : (spec_ReadPlace.l1 kj33 a0 t152 0 x166000_2 t164 ([] : List Int)) = some (r1, r2, r3, r4) := by rw [if_neg (show ¬ (false = true) by decide)] at H; exact H
                            clear H
                            have H := H1
                            clear H1
                            have H' := Aside0.mk H
                            clear H
                            go_wp2
                            go_loopg [10] kj33 (fun kq v10 w' => ∃ (x10_4 : Int) (x166002_4 : List Int) (u166002 : Value), v10 = .int .i64 x10_4 ∧ Aside0 (spec_ReadPlace.l1 kq a0 t152 x10_4 x166000_2 t164 x166002_4 = some (r1, r2, r3, r4)) ∧ Aside0 (kq ≤ kj33) ∧ Aside0 (Kd.R Kd.string 9 w' w.heap.size (fun _ => True) (.slice (some ad158) t152.length co23) t152) ∧ Aside0 (Kd.R (Kd.int .i64) 3 w' w.heap.size (fun k_ => some k_ ≠ (u166002 : Value).ownBlock) u166000 x166000_2) ∧ Aside0 (Kd.R (Kd.int .i64) 3 w' w.heap.size (fun k_ => some k_ ≠ (u166000 : Value).ownBlock) u166002 x166002_4) ∧ Aside0 (w'.heap[gb151]? = some (.cells #[(.slice none 0 0), .int .i64 x152001_2, (.slice none 0 0)] 36 (0, 0))) ∧ Aside0 (w'.heap[gb165]? = some (.cells #[u166000, .int .i64 t164, u166002] 36 (0, 0))) ∧ Aside0 (Below w.heap.size w w'))
                            case atStart => exact ⟨(0), (([] : List Int)), (.slice none 0 0), (by first | rfl | (simp; done) | (simp [*]; done)), H', ⟨Nat.le_refl _⟩, ⟨by (with_reducible repeat (first | apply Kd.R_alloc | apply Kd.R_drewN | apply Kd.R_drew)); exact Kd.R_mono HO_4.out (fun _ hk => trivial)⟩, ⟨by (with_reducible repeat (first | apply Kd.R_alloc | apply Kd.R_drewN | apply Kd.R_drew)); exact Kd.R_mono HO_166000.out (fun _ hk => (by simp [Value.ownBlock]))⟩, ⟨by first | exact Kd.R_nil _ _ _ _ _ | exact Kd.N_nil _ _ _ _ _ | exact Kd.V_nil _ _ _ _ _ | exact Kd.Q_nil _ _ _ _ _ | exact Kd.S_nil _ _ _ _ _⟩, ⟨by (with_reducible repeat (first | refine blk_drewN ?_ _ | refine blk_drew ?_ | refine blk_alloc ?_ _)); exact BK151.out⟩, ⟨by (with_reducible repeat (first | refine blk_drewN ?_ _ | refine blk_drew ?_ | refine blk_alloc ?_ _)); exact BK165.out⟩, ⟨by repeat (first | (with_reducible first | exact HB.out | apply below_alloc | apply pw_below_drewN | apply below_drew1 | refine below_set ?_ GE151.out | refine below_set ?_ GE165.out) | exact HB.out)⟩⟩
                            case round =>
                              clear H'
                              try clear p1
                              try clear q1
                              try clear hx1
                              try clear c2
                              try clear p2
                              try clear c3
                              try clear c4
                              try clear p4
                              try clear q4
                              try clear hx4
                              try clear qi4
                              try clear c5
                              try clear p5
                              try clear q5
                              try clear hx5
                              try clear hf5
                              try clear c6
                              try clear p6
                              try clear q6
                              try clear hx6
                              try clear hf6
                              try clear c7
                              try clear c8
                              try clear p17
                              try clear q17
                              try clear hx17
                              try clear c21
                              try clear c39
                              try clear c40
                              try clear c41
                              try clear c42
                              try clear c42b0
                              try clear c42b1
                              try clear c43
                              try clear p44
                              try clear q44
                              try clear hx44
                              try clear qi44
                              try clear c45
                              try clear c45b0
                              try clear c45b1
                              try clear p46
                              try clear q46
                              try clear hx46
                              try clear qi46
                              try clear c48
                              try clear c50
                              try clear c52
                              try clear c52b0
                              try clear c53
                              try clear c53b0
                              try clear c55
                              try clear c55b0
                              try clear c55b1
                              try clear p57
                              try clear q57
                              try clear hx57
                              try clear hf57
                              try clear c58
                              try clear c58b0
                              try clear c59
                              try clear c59b0
                              try clear p61
                              try clear q61
                              try clear hx61
                              try clear hf61
                              try clear c63
                              try clear p64
                              try clear c72
                              try clear c77
                              try clear c82
                              try clear hcz64_0
                              try clear hcz64_1
                              try clear hcz64_2
                              try clear hcz73_0
                              try clear hcz73_1
                              try clear hcz73_2
                              try clear hcz75_0
                              try clear hcz75_1
                              try clear hcz75_2
                              try clear hcz78_0
                              try clear hcz78_1
                              try clear hcz78_2
                              try clear hcz80_0
                              try clear hcz80_1
                              try clear hcz80_2
                              try clear hcz83_0
                              try clear hcz83_1
                              try clear hcz83_2
                              try clear hfz64_0
                              try clear hfz64_1
                              try clear hfz64_2
                              try clear hfz73_0
                              try clear hfz73_1
                              try clear hfz73_2
                              try clear hfz75_0
                              try clear hfz75_1
                              try clear hfz75_2
                              try clear hfz78_0
                              try clear hfz78_1
                              try clear hfz78_2
                              try clear hfz80_0
                              try clear hfz80_1
                              try clear hfz80_2
                              try clear hfz83_0
                              try clear hfz83_1
                              try clear hfz83_2
                              try clear hx171_0
                              try clear hx172_0
                              try clear hx173_0
                              try clear hx176_0
                              try clear hx178_0
                              try clear hx57_0
                              try clear hx61_0
                              try clear p171
                              try clear p172
                              try clear p173
                              try clear p176
                              try clear p178
                              try clear p44
                              try clear p46
                              try clear p57
                              try clear p61
                              try clear q171
                              try clear q172
                              try clear q173
                              try clear q176
                              try clear q178
                              try clear q44
                              try clear q46
                              try clear q57
                              try clear q61
                              obtain ⟨x10_4, x166002_4, u166002, rfl, HA, HK4, HO_4, HO_166000, HO_166002, BK151, BK165, HB⟩ := hrel
                              cases gk with
                              | zero => exact absurd HA.out (by simp [spec_ReadPlace.l1])
                              | succ k4 =>
                                have H := HA.out
                                clear HA
                                simp only [spec_ReadPlace.l1] at H
                                by_cases c84 : 3 < (t152.length : Int)
                                · rw [if_pos c84] at H
                                  have c84b0 : decide (3 < (t152.length : Int)) = true := decide_eq_true c84
                                  have c84b1 : decide (3 < t152.length) = true := decide_eq_true (by omega)
                                  clear c84
                                  by_cases c85 : x10_4 < ((rdOf ByteArray.empty t152 3).size : Int)
                                  · rw [if_pos c85] at H
                                    have c85b0 : decide (x10_4 < ((rdOf ByteArray.empty t152 3).size : Int)) = true := decide_eq_true c85
                                    clear c85
                                    by_cases c86 : 0 ≤ x10_4
                                    · rw [if_pos c86] at H
                                      have c86b0 : decide (0 ≤ x10_4) = true := decide_eq_true c86
                                      clear c86
                                      by_cases c88 : x166002_4.length < 17592186044416
                                      · rw [if_pos c88] at H
                                        have LMc88 := Aside0.mk c88
                                        clear c88
                                        obtain ⟨y182, hy182⟩ : ∃ y_ : List Int, y_ = (x166002_4 ++ [wrap64 ((wrap64 (bt (rdOf ByteArray.empty t152 3) x10_4)) - 48)]) := ⟨_, rfl⟩
                                        replace H : (spec_ReadPlace.l1 k4 a0 t152 (wrap64 (x10_4 + 1)) x166000_2 t164 y182) = some (r1, r2, r3, r4) := by first | (rw [hy182]; with_reducible exact H) | (have H2_ := (Option.bind_some _ _).symm.trans H; rw [hy182]; with_reducible exact H2_) | (have H2_ := (Option.bind_some _ _).symm.trans H; with_reducible exact H2_) | with_reducible exact H | (rw [hy182]; exact H) | exact H
                                        have Ny182 := Aside0.mk hy182
                                        clear hy182
                                        have H' := Aside0.mk H
                                        clear H
                                        have p180 : 0 ≤ (3 : Int) := (by omega)
                                        have q180 : 3 < (t152.length : Int) := of_decide_eq_true (by first | (with_reducible assumption) | assumption)
                                        obtain ⟨ad180, e180, hx180_0⟩ := Kd.at_string (Kd.R_reads' HO_4.out).2.2 3 p180 q180
                                        obtain rfl : ad158 = ad180 := (by injection e180)
                                        (try simp only [show (3 : Int).toNat = 3 from rfl, Nat.reduceMul, Nat.reduceEqDiff, Go.Addr.add, ↓reduceIte] at hx180_0)
                                        have qi180 : (3 < t152.length) = True := eq_true (by omega)
                                        (try rw [show ((3 : Int)).toNat = 3 from rfl] at hx180_0)
                                        replace p180 := eq_true p180
                                        replace q180 := eq_true q180
                                        try go_wp2
                                        have n0_ := Aside0.mk (Kd.R_drew HO_4.out)
                                        have n1_ := Aside0.mk (Kd.R_drew HO_166000.out)
                                        have n2_ := Aside0.mk (Kd.R_drew HO_166002.out)
                                        have n3_ := Aside0.mk (blk_drew BK151.out)
                                        have n4_ := Aside0.mk (blk_drew BK165.out)
                                        have n5_ := Aside0.mk (below_drew1 HB.out)
                                        clear HO_4
                                        clear HO_166000
                                        clear HO_166002
                                        clear BK151
                                        clear BK165
                                        clear HB
                                        have HO_4 := n0_
                                        have HO_166000 := n1_
                                        have HO_166002 := n2_
                                        have BK151 := n3_
                                        have BK165 := n4_
                                        have HB := n5_
                                        clear n0_ n1_ n2_ n3_ n4_ n5_
                                        have p181 : 0 ≤ (3 : Int) := (by omega)
                                        have q181 : 3 < (t152.length : Int) := of_decide_eq_true (by first | (with_reducible assumption) | assumption)
                                        obtain ⟨ad181, e181, hx181_0⟩ := Kd.at_string (Kd.R_reads' HO_4.out).2.2 3 p181 q181
                                        obtain rfl : ad158 = ad181 := (by injection e181)
                                        (try simp only [show (3 : Int).toNat = 3 from rfl, Nat.reduceMul, Nat.reduceEqDiff, Go.Addr.add, ↓reduceIte] at hx181_0)
                                        have qi181 : (3 < t152.length) = True := eq_true (by omega)
                                        (try rw [show ((3 : Int)).toNat = 3 from rfl] at hx181_0)
                                        replace p181 := eq_true p181
                                        replace q181 := eq_true q181
                                        have p87 : 0 ≤ (x10_4 : Int) := of_decide_eq_true (by first | (with_reducible assumption) | assumption)
                                        have q87 : x10_4 < ((rdOf ByteArray.empty t152 3).size : Int) := of_decide_eq_true (by first | (with_reducible assumption) | assumption)
                                        have hx87 := bt_at (rdOf ByteArray.empty t152 3) x10_4
                                        replace p87 := eq_true p87
                                        replace q87 := eq_true q87
                                        refine start_ (n := 13) (S := fun w' => w'.cell? ⟨gb165, 0, none⟩ = some (u166000) ∧ w'.cell? ⟨gb165, 1, none⟩ = some (.int .i64 t164) ∧ w'.cell? ⟨gb165, 2, none⟩ = some (u166002) ∧ w'.cell? ⟨ad158.block, ad158.off + 3, none⟩ = some (.string (rdOf ByteArray.empty t152 3))) (ds := [10, 12]) #[false, false, false, false, false, false, false, false, false, false, false, false, false] (by kernel_rfl) rfl rfl ⟨(blk_cell BK165.out 0).trans rfl, (blk_cell BK165.out 1).trans rfl, (blk_cell BK165.out 2).trans rfl, hx181_0⟩ (fun hHeld => ?_); refine with_tabW spec_ReadPlace.tab20 spec_ReadPlace.bits20 (fun HT_ HW_ => ?_)
                                        generalize wr.drew = w89 at HO_4 HO_166000 HO_166002 BK151 BK165 HB hx181_0 hHeld ⊢
                                        refine pure_ (i := 0) (N := some 121) (v := ?_) (a' := ?_) #[true, false, false, false, false, false, false, false, false, false, false, false, false] rfl rfl (any_of HT_.out (by kernel_rfl)) (fun _ _ _ h => h) (Or.inl ⟨by rfl, ?_⟩) ?_ ?_
                                        rotate_left
                                        · intro w'
                                          go_simp
                                          with_reducible rfl
                                        rotate_left
                                        · simp only [Act.put, List.setIfInBounds_toArray, List.set_cons_zero, List.set_cons_succ, i64_w, i32_w]
                                          rfl
                                        refine pure_ (i := 2) (N := some 123) (v := ?_) (a' := ?_) #[true, false, true, false, false, false, false, false, false, false, false, false, false] rfl rfl (any_of HT_.out (by kernel_rfl)) (fun _ _ _ h => h) (Or.inl ⟨by rfl, ?_⟩) ?_ ?_
                                        rotate_left
                                        · intro w'
                                          go_simp
                                          with_reducible rfl
                                        rotate_left
                                        · simp only [Act.put, List.setIfInBounds_toArray, List.set_cons_zero, List.set_cons_succ, i64_w, i32_w]
                                          rfl
                                        refine pure_ (i := 3) (N := some 124) (v := ?_) (a' := ?_) #[true, false, true, true, false, false, false, false, false, false, false, false, false] rfl rfl (any_of HT_.out (by kernel_rfl)) (fun _ _ _ h => h) (Or.inl ⟨by rfl, ?_⟩) ?_ ?_
                                        rotate_left
                                        · intro w'
                                          go_simp
                                          with_reducible rfl
                                        rotate_left
                                        · simp only [Act.put, List.setIfInBounds_toArray, List.set_cons_zero, List.set_cons_succ, i64_w, i32_w]
                                          rfl
                                        refine pure_ (i := 5) (N := some 126) (v := ?_) (a' := ?_) #[true, false, true, true, false, true, false, false, false, false, false, false, false] rfl rfl (any_of HT_.out (by kernel_rfl)) (fun _ _ _ h => h) (Or.inl ⟨by rfl, ?_⟩) ?_ ?_
                                        rotate_left
                                        · intro w'
                                          go_simp
                                          with_reducible rfl
                                        rotate_left
                                        · simp only [Act.put, List.setIfInBounds_toArray, List.set_cons_zero, List.set_cons_succ, i64_w, i32_w]
                                          rfl
                                        refine take_ (i := 1) (N := some 122) (v := ?_) (a' := ?_) #[true, true, true, true, false, true, false, false, false, false, false, false, false] rfl rfl (take_ofW HT_.out HW_.out (by kernel_rfl)) (fun _ _ _ h => h) (Or.inl ⟨by rfl, ?_⟩) hHeld ?_ ?_
                                        rotate_left
                                        · rintro w' ⟨s0, s1, s2, s3⟩
                                          go_simp
                                          with_reducible rfl
                                        rotate_left
                                        · simp only [Act.put, List.setIfInBounds_toArray, List.set_cons_zero, List.set_cons_succ, i64_w, i32_w]
                                          rfl
                                        refine take_ (i := 4) (N := some 125) (v := ?_) (a' := ?_) #[true, true, true, true, true, true, false, false, false, false, false, false, false] rfl rfl (take_ofW HT_.out HW_.out (by kernel_rfl)) (fun _ _ _ h => h) (Or.inl ⟨by rfl, ?_⟩) hHeld ?_ ?_
                                        rotate_left
                                        · rintro w' ⟨s0, s1, s2, s3⟩
                                          go_simp
                                          with_reducible rfl
                                        rotate_left
                                        · simp only [Act.put, List.setIfInBounds_toArray, List.set_cons_zero, List.set_cons_succ, i64_w, i32_w]
                                          rfl
                                        refine take_ (i := 6) (N := some 127) (v := ?_) (a' := ?_) #[true, true, true, true, true, true, true, false, false, false, false, false, false] rfl rfl (take_ofW HT_.out HW_.out (by kernel_rfl)) (fun _ _ _ h => h) (Or.inl ⟨by rfl, ?_⟩) hHeld ?_ ?_
                                        rotate_left
                                        · rintro w' ⟨s0, s1, s2, s3⟩
                                          go_simp
                                          with_reducible rfl
                                        rotate_left
                                        · simp only [Act.put, List.setIfInBounds_toArray, List.set_cons_zero, List.set_cons_succ, i64_w, i32_w]
                                          rfl
                                        refine pure_ (i := 7) (N := some 128) (v := ?_) (a' := ?_) #[true, true, true, true, true, true, true, true, false, false, false, false, false] rfl rfl (any_of HT_.out (by kernel_rfl)) (fun _ _ _ h => h) (Or.inl ⟨by rfl, ?_⟩) ?_ ?_
                                        rotate_left
                                        · intro w'
                                          go_simp
                                          with_reducible rfl
                                        rotate_left
                                        · simp only [Act.put, List.setIfInBounds_toArray, List.set_cons_zero, List.set_cons_succ, i64_w, i32_w]
                                          rfl
                                        refine pure_ (i := 8) (N := some 129) (v := ?_) (a' := ?_) #[true, true, true, true, true, true, true, true, true, false, false, false, false] rfl rfl (any_of HT_.out (by kernel_rfl)) (fun _ _ _ h => h) (Or.inl ⟨by rfl, ?_⟩) ?_ ?_
                                        rotate_left
                                        · intro w'
                                          go_simp
                                          with_reducible rfl
                                        rotate_left
                                        · simp only [Act.put, List.setIfInBounds_toArray, List.set_cons_zero, List.set_cons_succ, i64_w, i32_w]
                                          rfl
                                        refine one_ (i := 9) (N := some 130) #[true, true, true, true, true, true, true, true, true, true, false, false, false] rfl rfl (one_of HT_.out (by kernel_rfl)) (by decide) (fun K hK => ?_)
                                        refine value_ (w1 := ?_) (v := ?_) (by rfl) rfl ?_ ?_
                                        rotate_left 2
                                        · go_simp
                                          constructor
                                          · rfl
                                          · rfl
                                        refine hK.out _ _ ⟨(blk_cell (blk_alloc BK165.out _) 0).trans rfl, (blk_cell (blk_alloc BK165.out _) 1).trans rfl, (blk_cell (blk_alloc BK165.out _) 2).trans rfl, (World.cell?_alloc_lt _ _ _ (World.block_lt_of_cell? _ _ (hHeld.2.2.2))).trans (hHeld.2.2.2)⟩ (fun hHeld => ?_)
                                        clear hK K
                                        refine norm_ (a' := ?_) ?_ ?_
                                        rotate_left
                                        · show Act.put _ (some 130) _ = _
                                          simp only [Act.put, List.setIfInBounds_toArray, List.set_cons_zero, List.set_cons_succ, i64_w, i32_w]
                                          rfl
                                        refine last_ (i := 10) (N := some 131) #[true, true, true, true, true, true, true, true, true, true, true, false, false] rfl rfl (one_of HT_.out (by kernel_rfl)) (by decide) (fun K hK => ?_)
                                        refine Kd.R_append_step (Kd.int .i64) (w0 := w) w.heap.size (by rfl) (.tmp 122) (.tmp 130) 34 3 (.int .i64 0) 8 rfl Tryd.underlying34 info3 rfl (by decide) (by omega) u166002 x166002_4 (wrap64 ((wrap64 (bt (rdOf ByteArray.empty t152 3) x10_4)) - 48)) [.int .i64 (wrap64 ((wrap64 (bt (rdOf ByteArray.empty t152 3) x10_4)) - 48))] (fun k_ => some k_ ≠ (u166000 : Value).ownBlock) (fun _ => False) rfl rfl ?aP (fun _ hk => hk.elim) ?aF ?aO ?aB ?aS ?aL ?_
                                        (case aP => exact rfl)
                                        (case aB => exact (by repeat (first | (with_reducible first | exact HB.out | apply below_alloc | apply pw_below_drewN | apply below_drew1 | refine below_set ?_ GE151.out | refine below_set ?_ GE165.out) | exact HB.out)))
                                        (case aF => exact (fun k_ hk => Kd.fresh' (Kd.R_lt (by (with_reducible repeat (first | apply Kd.R_alloc | apply Kd.R_drewN | apply Kd.R_drew)); exact HO_166000.out)) k_ hk))
                                        (case aO => exact (by (with_reducible repeat (first | apply Kd.R_alloc | apply Kd.R_drewN | apply Kd.R_drew)); exact HO_166002.out))
                                        (case aS => exact (below_size (by repeat (first | (with_reducible first | exact HB.out | apply below_alloc | apply pw_below_drewN | apply below_drew1 | refine below_set ?_ GE151.out | refine below_set ?_ GE165.out) | exact HB.out))))
                                        (case aL => have := LMc88.out; omega)
                                        intro v183 w90 ho hb hg hat
                                        rw [← Ny182.out] at ho
                                        have n0_ := Aside0.mk (Kd.R_over' (by (with_reducible repeat (first | apply Kd.R_alloc | apply Kd.R_drewN | apply Kd.R_drew)); exact HO_4.out) (Kd.R_typed (by (with_reducible repeat (first | apply Kd.R_alloc | apply Kd.R_drewN | apply Kd.R_drew)); exact HO_166002.out)) (by decide) hg)
                                        have n1_ := Aside0.mk (Kd.R_after (ok := (fun _ => True)) (by (with_reducible repeat (first | apply Kd.R_alloc | apply Kd.R_drewN | apply Kd.R_drew)); exact Kd.R_mono HO_166000.out (fun _ hk => ⟨trivial, hk⟩)) hg hat)
                                        have n2_ := Aside0.mk (blk_grown (g := gb151) (o := .cells #[.slice none 0 0, .int .i64 x152001_2, .slice none 0 0] 36 (0, 0)) (by (with_reducible repeat (first | refine blk_drewN ?_ _ | refine blk_drew ?_ | refine blk_alloc ?_ _)); exact BK151.out) hg (Kd.R_ne HO_166002.out BK151.out (by decide)))
                                        have n3_ := Aside0.mk (blk_grown (g := gb165) (o := .cells #[u166000, .int .i64 t164, u166002] 36 (0, 0)) (by (with_reducible repeat (first | refine blk_drewN ?_ _ | refine blk_drew ?_ | refine blk_alloc ?_ _)); exact BK165.out) hg (Kd.R_ne HO_166002.out BK165.out (by decide)))
                                        have n4_ := Aside0.mk (hb)
                                        have n5_ := Aside0.mk (ho)
                                        clear HO_4
                                        clear HO_166000
                                        clear BK151
                                        clear BK165
                                        clear HB
                                        clear HO_166002
                                        have HO_4 := n0_
                                        have HO_166000 := n1_
                                        have BK151 := n2_
                                        have BK165 := n3_
                                        have HB := n4_
                                        have HO184 := n5_
                                        clear n0_ n1_ n2_ n3_ n4_ n5_
                                        clear ho hb hg hat
                                        obtain ⟨Ao91, co91, eo91⟩ := Kd.R_slice HO184.out
                                        (first | subst eo91 | (injection eo91 with f1_ f2_ f3_; have f4_ := f1_.symm; have f5_ := f3_.symm; clear f1_ f2_ f3_; subst f4_; subst f5_))
                                        refine hK.out _ _ ?_
                                        clear hK K
                                        refine norm_ (a' := ?_) ?_ ?_
                                        rotate_left
                                        · show Act.put _ (some 131) _ = _
                                          simp only [Act.put, List.setIfInBounds_toArray, List.set_cons_zero, List.set_cons_succ, i64_w, i32_w]
                                          rfl
                                        refine pure_ (i := 11) (N := some 132) (v := ?_) (a' := ?_) #[true, true, true, true, true, true, true, true, true, true, true, true, false] rfl rfl (any_of HT_.out (by kernel_rfl)) (fun _ _ _ h => h) (Or.inl ⟨by rfl, ?_⟩) ?_ ?_
                                        rotate_left
                                        · intro w'
                                          go_simp
                                          with_reducible rfl
                                        rotate_left
                                        · simp only [Act.put, List.setIfInBounds_toArray, List.set_cons_zero, List.set_cons_succ, i64_w, i32_w]
                                          rfl
                                        refine last_ (i := 12) (N := none) #[true, true, true, true, true, true, true, true, true, true, true, true, true] rfl rfl (one_of HT_.out (by kernel_rfl)) (by decide) (fun K hK => ?_)
                                        have hs92 : w90.cell? ⟨gb165, 2, none⟩ = some (u166002) := (blk_cell BK165.out 2).trans rfl
                                        have hfs92 := blk_frozen BK165.out 2
                                        have hns92_0 := NB151_165.out
                                        have hms92_0 := NB165_151.out
                                        refine skip_ (w1 := ?_) (by rfl) rfl ?_ ?_
                                        rotate_left
                                        · go_simp
                                          rfl
                                        refine hK.out _ _ ?_
                                        clear hK K
                                        refine done_ (done_of HT_.out (by kernel_rfl)) ?_
                                        try go_wp2
                                        go_roundg k4
                                        case measure => have := HJ2.out; have := HK2.out; have := HJ33.out; have := HK4.out; omega
                                        case rel => exact ⟨(wrap64 (x10_4 + 1)), (y182), (.slice Ao91 y182.length co91), (by first | rfl | (simp; done) | (simp [*]; done)), H', ⟨by have := HJ2.out; have := HK2.out; have := HJ33.out; have := HK4.out; omega⟩, ⟨by (with_reducible repeat (first | apply Kd.R_alloc | apply Kd.R_drewN | apply Kd.R_drew)); exact Kd.R_mono (Kd.R_far (p := ⟨gb165, 2, none⟩) (Kd.R_types HO_4.out BK165.out (by decide)) (fun _ hk => hk.2) (.slice Ao91 y182.length co91)) (fun _ hk => trivial)⟩, ⟨by (with_reducible repeat (first | apply Kd.R_alloc | apply Kd.R_drewN | apply Kd.R_drew)); exact Kd.R_mono (Kd.R_far (p := ⟨gb165, 2, none⟩) (Kd.R_types HO_166000.out BK165.out (by decide)) (fun _ hk => hk.2) (.slice Ao91 y182.length co91)) (fun _ hk => hk.1.2)⟩, ⟨by (with_reducible repeat (first | apply Kd.R_alloc | apply Kd.R_drewN | apply Kd.R_drew)); exact Kd.R_mono (Kd.R_far (p := ⟨gb165, 2, none⟩) (Kd.R_types HO184.out BK165.out (by decide)) (fun _ hk => hk.2) (.slice Ao91 y182.length co91)) (fun _ hk => hk.1)⟩, ⟨by (with_reducible repeat (first | refine blk_drewN ?_ _ | refine blk_drew ?_ | refine blk_alloc ?_ _)); refine blk_far ?_ NB151_165.out _; (with_reducible repeat (first | refine blk_drewN ?_ _ | refine blk_drew ?_ | refine blk_alloc ?_ _)); exact BK151.out⟩, ⟨by (with_reducible repeat (first | refine blk_drewN ?_ _ | refine blk_drew ?_ | refine blk_alloc ?_ _)); refine blk_put (cs := #[u166000, .int .i64 t164, u166002]) ?_ 2 _ rfl; (with_reducible repeat (first | refine blk_drewN ?_ _ | refine blk_drew ?_ | refine blk_alloc ?_ _)); exact BK165.out⟩, ⟨by repeat (first | (with_reducible first | exact HB.out | apply below_alloc | apply pw_below_drewN | apply below_drew1 | refine below_set ?_ GE151.out | refine below_set ?_ GE165.out) | exact HB.out)⟩⟩
                                      · rw [if_neg c88] at H
                                        exact absurd H (by simp)
                                    · rw [if_neg c86] at H
                                      exact absurd H (by simp)
                                  · rw [if_neg c85] at H
                                    have c85b0 : decide (x10_4 < ((rdOf ByteArray.empty t152 3).size : Int)) = false := decide_eq_false c85
                                    clear c85
                                    replace H := Option.bind_eq_some_iff.mp H
                                    obtain ⟨t185, A930, H⟩ := H
                                    replace H : (if t185.toList = a0.toList then (some (x166000_2, t164, x166002_4, true)) else (some (([] : List Int), 0, ([] : List Int), false))) = some (r1, r2, r3, r4) := H
                                    have A93 := Aside0.mk A930
                                    clear A930
                                    by_cases c94 : t185.toList = a0.toList
                                    · rw [if_pos c94] at H
                                      have c94b0 : (t185.toList == a0.toList) = true := beq_iff_eq.mpr c94
                                      have c94b1 : (t185.toList != a0.toList) = false := bne_eq_false_iff_eq.mpr c94
                                      clear c94
                                      simp only [Option.some.injEq, Prod.mk.injEq] at H
                                      obtain ⟨rfl, rfl, rfl, rfl⟩ := H
                                      have p180 : 0 ≤ (3 : Int) := (by omega)
                                      have q180 : 3 < (t152.length : Int) := of_decide_eq_true (by first | (with_reducible assumption) | assumption)
                                      obtain ⟨ad180, e180, hx180_0⟩ := Kd.at_string (Kd.R_reads' HO_4.out).2.2 3 p180 q180
                                      obtain rfl : ad158 = ad180 := (by injection e180)
                                      (try simp only [show (3 : Int).toNat = 3 from rfl, Nat.reduceMul, Nat.reduceEqDiff, Go.Addr.add, ↓reduceIte] at hx180_0)
                                      have qi180 : (3 < t152.length) = True := eq_true (by omega)
                                      (try rw [show ((3 : Int)).toNat = 3 from rfl] at hx180_0)
                                      replace p180 := eq_true p180
                                      replace q180 := eq_true q180
                                      have hnb95 := NB165_151.out
                                      have hnc95 := NB151_165.out
                                      have hcz96_0 : wr.cell? ⟨gb165, 0, none⟩ = some (u166000) := (blk_cell BK165.out 0).trans rfl
                                      have hcz96_1 : wr.cell? ⟨gb165, 1, none⟩ = some (.int .i64 t164) := (blk_cell BK165.out 1).trans rfl
                                      have hcz96_2 : wr.cell? ⟨gb165, 2, none⟩ = some (u166002) := (blk_cell BK165.out 2).trans rfl
                                      have hfz96_0 := blk_frozen BK165.out 0
                                      have hfz96_1 := blk_frozen BK165.out 1
                                      have hfz96_2 := blk_frozen BK165.out 2
                                      obtain ⟨Ao97, co97, eo97⟩ := Kd.R_slice HO_166000.out
                                      subst eo97
                                      obtain ⟨Ao98, co98, eo98⟩ := Kd.R_slice HO_166002.out
                                      subst eo98
                                      go_wp2_with (first | ((with_reducible refine gate_callee (f := 24) rfl ?_); refine goesL_ (some 134) rfl rfl Tryd.func24 (by kernel_rfl) rfl #[.agg #[.slice Ao97 x166000_2.length co97, .int .i64 t164, .slice Ao98 x166002_4.length co98]] rfl (by (try simp only [List.map_toArray, List.map_cons, List.map_nil]); first | done | rfl | (simp only [List.length_drop, List.length_take]; rfl)) ?_; (with_reducible refine (spec_PlaceText.calls k4 _ _ x166000_2 t164 _ _ x166002_4 t185 _ ?side1 ?side2 ?side3 ?side4 A93.out).mono ?_); (case side1 => repeat (first | exact (Kd.R_reads' HO_166000.out).2.2 | (with_reducible refine Kd.C_alloc ?_ _) | (with_reducible refine Kd.C_drewN ?_ _) | (with_reducible refine Kd.C_drew ?_))); (case side2 => exact (Kd.R_reads' HO_166000.out).2.1); (case side3 => repeat (first | exact (Kd.R_reads' HO_166002.out).2.2 | (with_reducible refine Kd.C_alloc ?_ _) | (with_reducible refine Kd.C_drewN ?_ _) | (with_reducible refine Kd.C_drew ?_))); (case side4 => exact (Kd.R_reads' HO_166002.out).2.1); rintro e w99 ⟨rfl, hb⟩; refine ⟨_, rfl, ?_⟩; have n0_ := Aside0.mk (Kd.R_below (by (with_reducible repeat (first | apply Kd.R_alloc | apply Kd.R_drewN | apply Kd.R_drew)); exact HO_4.out) hb); have n1_ := Aside0.mk (Kd.R_below (by (with_reducible repeat (first | apply Kd.R_alloc | apply Kd.R_drewN | apply Kd.R_drew)); exact HO_166000.out) hb); have n2_ := Aside0.mk (Kd.R_below (by (with_reducible repeat (first | apply Kd.R_alloc | apply Kd.R_drewN | apply Kd.R_drew)); exact HO_166002.out) hb); have n3_ := Aside0.mk (blk_below (g := gb151) (o := .cells #[.slice none 0 0, .int .i64 x152001_2, .slice none 0 0] 36 (0, 0)) (by (with_reducible repeat (first | refine blk_drewN ?_ _ | refine blk_drew ?_ | refine blk_alloc ?_ _)); exact BK151.out) hb); have n4_ := Aside0.mk (blk_below (g := gb165) (o := .cells #[.slice Ao97 x166000_2.length co97, .int .i64 t164, .slice Ao98 x166002_4.length co98] 36 (0, 0)) (by (with_reducible repeat (first | refine blk_drewN ?_ _ | refine blk_drew ?_ | refine blk_alloc ?_ _)); exact BK165.out) hb); have n5_ := Aside0.mk (below_step (by repeat (first | (with_reducible first | exact HB.out | apply below_alloc | apply pw_below_drewN | apply below_drew1 | refine below_set ?_ GE151.out | refine below_set ?_ GE165.out) | exact HB.out)) hb); clear HO_4; clear HO_166000; clear HO_166002; clear BK151; clear BK165; clear HB; have HO_4 := n0_; have HO_166000 := n1_; have HO_166002 := n2_; have BK151 := n3_; have BK165 := n4_; have HB := n5_; clear n0_ n1_ n2_ n3_ n4_ n5_; (try clear hb); (try clear hb2); (try clear hk); (try clear hi); have hcz100_0 : w99.cell? ⟨gb165, 0, none⟩ = some (.slice Ao97 x166000_2.length co97) := (blk_cell BK165.out 0).trans rfl; have hcz100_1 : w99.cell? ⟨gb165, 1, none⟩ = some (.int .i64 t164) := (blk_cell BK165.out 1).trans rfl; have hcz100_2 : w99.cell? ⟨gb165, 2, none⟩ = some (.slice Ao98 x166002_4.length co98) := (blk_cell BK165.out 2).trans rfl; have hfz100_0 := blk_frozen BK165.out 0; have hfz100_1 := blk_frozen BK165.out 1; have hfz100_2 := blk_frozen BK165.out 2; have hcz101_0 : w99.cell? ⟨gb151, 0, none⟩ = some (.slice none 0 0) := (blk_cell BK151.out 0).trans rfl; have hcz101_1 : w99.cell? ⟨gb151, 1, none⟩ = some (.int .i64 x152001_2) := (blk_cell BK151.out 1).trans rfl; have hcz101_2 : w99.cell? ⟨gb151, 2, none⟩ = some (.slice none 0 0) := (blk_cell BK151.out 2).trans rfl; have hfz101_0 := blk_frozen BK151.out 0; have hfz101_1 := blk_frozen BK151.out 1; have hfz101_2 := blk_frozen BK151.out 2))
                                      refine bodyPost_ret (results_ct rfl _ _ gb151 36 #[.slice Ao97 x166000_2.length co97, .int .i64 t164, .slice Ao98 x166002_4.length co98] (0, 0) _ rfl (by (with_reducible repeat (first | refine blk_drewN ?_ _ | refine blk_drew ?_ | refine blk_alloc ?_ _)); refine blk_put (cs := #[.slice Ao97 x166000_2.length co97, .int .i64 t164, .slice none 0 0]) ?_ 2 _ rfl; (with_reducible repeat (first | refine blk_drewN ?_ _ | refine blk_drew ?_ | refine blk_alloc ?_ _)); refine blk_put (cs := #[.slice Ao97 x166000_2.length co97, .int .i64 x152001_2, .slice none 0 0]) ?_ 1 _ rfl; (with_reducible repeat (first | refine blk_drewN ?_ _ | refine blk_drew ?_ | refine blk_alloc ?_ _)); refine blk_put (cs := #[.slice none 0 0, .int .i64 x152001_2, .slice none 0 0]) ?_ 0 _ rfl; (with_reducible repeat (first | refine blk_drewN ?_ _ | refine blk_drew ?_ | refine blk_alloc ?_ _)); exact BK151.out) Tryd.underlying36 rfl (by kernel_rfl)) rfl ?_
                                      exact ⟨_, _, by first | rfl | (simp [errW_none, errW_some] <;> rfl) | (simp [*, errW_none, errW_some] <;> rfl), by (with_reducible repeat (first | apply Kd.R_alloc | apply Kd.R_drewN | apply Kd.R_drew)); exact Kd.R_mono (Kd.R_far (p := ⟨gb151, 2, none⟩) (Kd.R_far (p := ⟨gb151, 1, none⟩) (Kd.R_far (p := ⟨gb151, 0, none⟩) (Kd.R_types HO_166000.out BK151.out (by decide)) (fun _ hk => hk.2) (.slice Ao97 x166000_2.length co97)) (fun _ hk => hk.2) (.int .i64 t164)) (fun _ hk => hk.2) (.slice Ao98 x166002_4.length co98)) (fun _ hk => hk.1), by (with_reducible repeat (first | apply Kd.R_alloc | apply Kd.R_drewN | apply Kd.R_drew)); exact Kd.R_mono (Kd.R_far (p := ⟨gb151, 2, none⟩) (Kd.R_far (p := ⟨gb151, 1, none⟩) (Kd.R_far (p := ⟨gb151, 0, none⟩) (Kd.R_types HO_166002.out BK151.out (by decide)) (fun _ hk => hk.2) (.slice Ao97 x166000_2.length co97)) (fun _ hk => hk.2) (.int .i64 t164)) (fun _ hk => hk.2) (.slice Ao98 x166002_4.length co98)) (fun _ hk => hk.1), by repeat (first | (with_reducible first | exact HB.out | apply below_alloc | apply pw_below_drewN | apply below_drew1 | refine below_set ?_ GE151.out | refine below_set ?_ GE165.out) | exact HB.out)⟩
                                    · rw [if_neg c94] at H
                                      have c94b0 : (t185.toList == a0.toList) = false := beq_eq_false_iff_ne.mpr c94
                                      have c94b1 : (t185.toList != a0.toList) = true := bne_iff_ne.mpr c94
                                      simp only [Option.some.injEq, Prod.mk.injEq] at H
                                      obtain ⟨rfl, rfl, rfl, rfl⟩ := H
                                      have p180 : 0 ≤ (3 : Int) := (by omega)
                                      have q180 : 3 < (t152.length : Int) := of_decide_eq_true (by first | (with_reducible assumption) | assumption)
                                      obtain ⟨ad180, e180, hx180_0⟩ := Kd.at_string (Kd.R_reads' HO_4.out).2.2 3 p180 q180
                                      obtain rfl : ad158 = ad180 := (by injection e180)
                                      (try simp only [show (3 : Int).toNat = 3 from rfl, Nat.reduceMul, Nat.reduceEqDiff, Go.Addr.add, ↓reduceIte] at hx180_0)
                                      have qi180 : (3 < t152.length) = True := eq_true (by omega)
                                      (try rw [show ((3 : Int)).toNat = 3 from rfl] at hx180_0)
                                      replace p180 := eq_true p180
                                      replace q180 := eq_true q180
                                      have hnb102 := NB165_151.out
                                      have hnc102 := NB151_165.out
                                      have hcz103_0 : wr.cell? ⟨gb165, 0, none⟩ = some (u166000) := (blk_cell BK165.out 0).trans rfl
                                      have hcz103_1 : wr.cell? ⟨gb165, 1, none⟩ = some (.int .i64 t164) := (blk_cell BK165.out 1).trans rfl
                                      have hcz103_2 : wr.cell? ⟨gb165, 2, none⟩ = some (u166002) := (blk_cell BK165.out 2).trans rfl
                                      have hfz103_0 := blk_frozen BK165.out 0
                                      have hfz103_1 := blk_frozen BK165.out 1
                                      have hfz103_2 := blk_frozen BK165.out 2
                                      obtain ⟨Ao104, co104, eo104⟩ := Kd.R_slice HO_166000.out
                                      subst eo104
                                      obtain ⟨Ao105, co105, eo105⟩ := Kd.R_slice HO_166002.out
                                      subst eo105
                                      go_wp2_with (first | ((with_reducible refine gate_callee (f := 24) rfl ?_); refine goesL_ (some 134) rfl rfl Tryd.func24 (by kernel_rfl) rfl #[.agg #[.slice Ao104 x166000_2.length co104, .int .i64 t164, .slice Ao105 x166002_4.length co105]] rfl (by (try simp only [List.map_toArray, List.map_cons, List.map_nil]); first | done | rfl | (simp only [List.length_drop, List.length_take]; rfl)) ?_; (with_reducible refine (spec_PlaceText.calls k4 _ _ x166000_2 t164 _ _ x166002_4 t185 _ ?side1 ?side2 ?side3 ?side4 A93.out).mono ?_); (case side1 => repeat (first | exact (Kd.R_reads' HO_166000.out).2.2 | (with_reducible refine Kd.C_alloc ?_ _) | (with_reducible refine Kd.C_drewN ?_ _) | (with_reducible refine Kd.C_drew ?_))); (case side2 => exact (Kd.R_reads' HO_166000.out).2.1); (case side3 => repeat (first | exact (Kd.R_reads' HO_166002.out).2.2 | (with_reducible refine Kd.C_alloc ?_ _) | (with_reducible refine Kd.C_drewN ?_ _) | (with_reducible refine Kd.C_drew ?_))); (case side4 => exact (Kd.R_reads' HO_166002.out).2.1); rintro e w106 ⟨rfl, hb⟩; refine ⟨_, rfl, ?_⟩; have n0_ := Aside0.mk (Kd.R_below (by (with_reducible repeat (first | apply Kd.R_alloc | apply Kd.R_drewN | apply Kd.R_drew)); exact HO_4.out) hb); have n1_ := Aside0.mk (Kd.R_below (by (with_reducible repeat (first | apply Kd.R_alloc | apply Kd.R_drewN | apply Kd.R_drew)); exact HO_166000.out) hb); have n2_ := Aside0.mk (Kd.R_below (by (with_reducible repeat (first | apply Kd.R_alloc | apply Kd.R_drewN | apply Kd.R_drew)); exact HO_166002.out) hb); have n3_ := Aside0.mk (blk_below (g := gb151) (o := .cells #[.slice none 0 0, .int .i64 x152001_2, .slice none 0 0] 36 (0, 0)) (by (with_reducible repeat (first | refine blk_drewN ?_ _ | refine blk_drew ?_ | refine blk_alloc ?_ _)); exact BK151.out) hb); have n4_ := Aside0.mk (blk_below (g := gb165) (o := .cells #[.slice Ao104 x166000_2.length co104, .int .i64 t164, .slice Ao105 x166002_4.length co105] 36 (0, 0)) (by (with_reducible repeat (first | refine blk_drewN ?_ _ | refine blk_drew ?_ | refine blk_alloc ?_ _)); exact BK165.out) hb); have n5_ := Aside0.mk (below_step (by repeat (first | (with_reducible first | exact HB.out | apply below_alloc | apply pw_below_drewN | apply below_drew1 | refine below_set ?_ GE151.out | refine below_set ?_ GE165.out) | exact HB.out)) hb); clear HO_4; clear HO_166000; clear HO_166002; clear BK151; clear BK165; clear HB; have HO_4 := n0_; have HO_166000 := n1_; have HO_166002 := n2_; have BK151 := n3_; have BK165 := n4_; have HB := n5_; clear n0_ n1_ n2_ n3_ n4_ n5_; (try clear hb); (try clear hb2); (try clear hk); (try clear hi); have hcz107_0 : w106.cell? ⟨gb151, 0, none⟩ = some (.slice none 0 0) := (blk_cell BK151.out 0).trans rfl; have hcz107_1 : w106.cell? ⟨gb151, 1, none⟩ = some (.int .i64 x152001_2) := (blk_cell BK151.out 1).trans rfl; have hcz107_2 : w106.cell? ⟨gb151, 2, none⟩ = some (.slice none 0 0) := (blk_cell BK151.out 2).trans rfl; have hfz107_0 := blk_frozen BK151.out 0; have hfz107_1 := blk_frozen BK151.out 1; have hfz107_2 := blk_frozen BK151.out 2))
                                      refine bodyPost_ret (results_ct rfl _ _ gb151 36 #[.slice none 0 0, .int .i64 0, .slice none 0 0] (0, 0) _ rfl (by (with_reducible repeat (first | refine blk_drewN ?_ _ | refine blk_drew ?_ | refine blk_alloc ?_ _)); refine blk_put (cs := #[.slice none 0 0, .int .i64 0, .slice none 0 0]) ?_ 2 _ rfl; (with_reducible repeat (first | refine blk_drewN ?_ _ | refine blk_drew ?_ | refine blk_alloc ?_ _)); refine blk_put (cs := #[.slice none 0 0, .int .i64 x152001_2, .slice none 0 0]) ?_ 1 _ rfl; (with_reducible repeat (first | refine blk_drewN ?_ _ | refine blk_drew ?_ | refine blk_alloc ?_ _)); refine blk_put (cs := #[.slice none 0 0, .int .i64 x152001_2, .slice none 0 0]) ?_ 0 _ rfl; (with_reducible repeat (first | refine blk_drewN ?_ _ | refine blk_drew ?_ | refine blk_alloc ?_ _)); exact BK151.out) Tryd.underlying36 rfl (by kernel_rfl)) rfl ?_
                                      exact ⟨_, _, by first | rfl | (simp [errW_none, errW_some] <;> rfl) | (simp [*, errW_none, errW_some] <;> rfl), by first | exact Kd.R_nil _ _ _ _ _ | exact Kd.N_nil _ _ _ _ _ | exact Kd.V_nil _ _ _ _ _ | exact Kd.Q_nil _ _ _ _ _ | exact Kd.S_nil _ _ _ _ _, by first | exact Kd.R_nil _ _ _ _ _ | exact Kd.N_nil _ _ _ _ _ | exact Kd.V_nil _ _ _ _ _ | exact Kd.Q_nil _ _ _ _ _ | exact Kd.S_nil _ _ _ _ _, by repeat (first | (with_reducible first | exact HB.out | apply below_alloc | apply pw_below_drewN | apply below_drew1 | refine below_set ?_ GE151.out | refine below_set ?_ GE165.out) | exact HB.out)⟩
                                · rw [if_neg c84] at H
                                  exact absurd H (by simp)
                · rw [if_neg c20] at H
                  exact absurd H (by simp)
              · rw [if_neg c18] at H
                exact absurd H (by simp)
            · rw [if_neg c17] at H
              exact absurd H (by simp)
          · rw [if_neg c16] at H
            exact absurd H (by simp)
        · rw [if_neg c14] at H
          exact absurd H (by simp)

end Go.Proofs.YtnhgiincboocaaaDoor.PFnExactStoreSync
