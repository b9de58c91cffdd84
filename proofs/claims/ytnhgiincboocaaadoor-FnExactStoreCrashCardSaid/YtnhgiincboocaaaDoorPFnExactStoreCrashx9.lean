-- written by wip/tools/pstub.py (my own program, over the kit's print)
import Derived.Test.YtnhgiincboocaaaDoorPFnExactStoreCrashx0
import Derived.Test.YtnhgiincboocaaaDoorPFnExactStoreCrashx6
import Derived.Test.YtnhgiincboocaaaDoorPFnExactStoreCrashx8
namespace Go.Proofs.YtnhgiincboocaaaDoor.PFnExactStoreCrash
open Go.RowKit Go.Proofs.YtnhgiincboocaaaDoorW.PrintWords Go.Proofs.YtnhgiincboocaaaDoorW.PrintLast Go.Proofs.YtnhgiincboocaaaDoorW.PrintMore
attribute [local go_sem] max2_int min2_int max_two min_two max_three min_three max_four min_four   -- for this text's walks alone
set_option linter.unusedVariables false
set_option linter.unusedSimpArgs false

/-! ### impl_ReadPlace: function 17 -/
mutual
def impl_ReadPlace.j0 : Nat → ByteArray → List ByteArray → Bool → Option (List Int × Int × List Int × Bool)
  | 0, _, _, _ => none
  | k + 1, x0, x4, x30 => if x30 = true then (some (([] : List Int), 0, ([] : List Int), false)) else (if 0 < (x4.length : Int) then (if 0 < ((rdOf ByteArray.empty x4 0).size : Int) then (if (wrap64 ((wrap64 (bt (rdOf ByteArray.empty x4 0) 0)) - 48)) < 1 then (impl_ReadPlace.j1 k x0 x4 (wrap64 ((wrap64 (bt (rdOf ByteArray.empty x4 0) 0)) - 48)) true) else (impl_ReadPlace.j1 k x0 x4 (wrap64 ((wrap64 (bt (rdOf ByteArray.empty x4 0) 0)) - 48)) (decide ((wrap64 ((wrap64 (bt (rdOf ByteArray.empty x4 0) 0)) - 48)) > 6)))) else (none)) else (none))
def impl_ReadPlace.j1 : Nat → ByteArray → List ByteArray → Int → Bool → Option (List Int × Int × List Int × Bool)
  | 0, _, _, _, _ => none
  | k + 1, x0, x4, x5, x43 => if x43 = true then (some (([] : List Int), 0, ([] : List Int), false)) else (if 0 ≤ x5 then (if (x5 : Int).toNat ≤ 35184372088832 then ((some (List.replicate (x5 : Int).toNat 0 : List Int)).bind fun y252 => (if 2 < (x4.length : Int) then (if 0 < ((rdOf ByteArray.empty x4 2).size : Int) then (if 1 < (x4.length : Int) then (if (rdOf ByteArray.empty x4 1).toList = ([46] : List UInt8) then (impl_ReadPlace.j3 k x0 x4 y252 (wrap64 ((wrap64 (bt (rdOf ByteArray.empty x4 2) 0)) - 48))) else ((strings_Split.f k (rdOf ByteArray.empty x4 1) (⟨#[44]⟩ : ByteArray)).bind fun t259 => (impl_ReadPlace.l0 k x0 x4 x5 t259 (t259.length : Int) 0 y252 (wrap64 ((wrap64 (bt (rdOf ByteArray.empty x4 2) 0)) - 48))))) else (none)) else (none)) else (none))) else (none)) else (none))
def impl_ReadPlace.j3 : Nat → ByteArray → List ByteArray → List Int → Int → Option (List Int × Int × List Int × Bool)
  | 0, _, _, _, _ => none
  | k + 1, x0, x4, x257000, x257001 => if 3 < (x4.length : Int) then (impl_ReadPlace.l1 k x0 x4 ((rdOf ByteArray.empty x4 3).size : Int) 0 x257000 x257001 ([] : List Int)) else (none)
def impl_ReadPlace.l1 : Nat → ByteArray → List ByteArray → Int → Int → List Int → Int → List Int → Option (List Int × Int × List Int × Bool)
  | 0, _, _, _, _, _, _, _ => none
  | k + 1, x0, x4, x118, x119, x257000, x257001, x257002 => if x119 < x118 then (if 3 < (x4.length : Int) then (if 0 ≤ x119 then (if x119 < ((rdOf ByteArray.empty x4 3).size : Int) then (if x257002.length < 17592186044416 then (impl_ReadPlace.l1 k x0 x4 x118 (wrap64 (x119 + 1)) x257000 x257001 (x257002 ++ [wrap64 ((wrap64 (bt (rdOf ByteArray.empty x4 3) x119)) - 48)])) else (none)) else (none)) else (none)) else (none)) else ((impl_PlaceText.f k x257000 x257001 x257002).bind fun t272 => (if t272.toList = x0.toList then (some (x257000, x257001, x257002, true)) else (some (([] : List Int), 0, ([] : List Int), false))))
def impl_ReadPlace.l0 : Nat → ByteArray → List ByteArray → Int → List ByteArray → Int → Int → List Int → Int → Option (List Int × Int × List Int × Bool)
  | 0, _, _, _, _, _, _, _, _ => none
  | k + 1, x0, x4, x5, x61, x62, x63, x257000, x257001 => if x63 < x62 then (if 0 ≤ x63 then (if x63 < (x61.length : Int) then (if ((rdOf ByteArray.empty x61 x63).size : Int) = 2 then (if 0 < ((rdOf ByteArray.empty x61 x63).size : Int) then (if 1 < ((rdOf ByteArray.empty x61 x63).size : Int) then (if (wrap64 ((wrap64 (bt (rdOf ByteArray.empty x61 x63) 0)) - 48)) < 0 then (some (([] : List Int), 0, ([] : List Int), false)) else (if (wrap64 ((wrap64 (bt (rdOf ByteArray.empty x61 x63) 0)) - 48)) ≥ x5 then (some (([] : List Int), 0, ([] : List Int), false)) else (if (wrap64 ((wrap64 (bt (rdOf ByteArray.empty x61 x63) 1)) - 48)) < 0 then (some (([] : List Int), 0, ([] : List Int), false)) else (if (wrap64 ((wrap64 (bt (rdOf ByteArray.empty x61 x63) 1)) - 48)) ≥ x5 then (some (([] : List Int), 0, ([] : List Int), false)) else (if 0 ≤ (wrap64 ((wrap64 (bt (rdOf ByteArray.empty x61 x63) 0)) - 48)) then (if (wrap64 ((wrap64 (bt (rdOf ByteArray.empty x61 x63) 0)) - 48)) < (x257000.length : Int) then (if 0 ≤ (wrap64 ((wrap64 (bt (rdOf ByteArray.empty x61 x63) 1)) - 48)) then ((some (x257000.set ((wrap64 ((wrap64 (bt (rdOf ByteArray.empty x61 x63) 0)) - 48)) : Int).toNat (Go.bits .or .i64 (rd x257000 (wrap64 ((wrap64 (bt (rdOf ByteArray.empty x61 x63) 0)) - 48))) (shl .i64 1 (wrap64 ((wrap64 (bt (rdOf ByteArray.empty x61 x63) 1)) - 48)))) : List Int)).bind fun y264 => (if (wrap64 ((wrap64 (bt (rdOf ByteArray.empty x61 x63) 1)) - 48)) < (x257000.length : Int) then (impl_ReadPlace.l0 k x0 x4 x5 x61 x62 (wrap64 (x63 + 1)) (y264.set ((wrap64 ((wrap64 (bt (rdOf ByteArray.empty x61 x63) 1)) - 48)) : Int).toNat (Go.bits .or .i64 (rd y264 (wrap64 ((wrap64 (bt (rdOf ByteArray.empty x61 x63) 1)) - 48))) (shl .i64 1 (wrap64 ((wrap64 (bt (rdOf ByteArray.empty x61 x63) 0)) - 48))))) x257001) else (none))) else (none)) else (none)) else (none)))))) else (none)) else (none)) else (some (([] : List Int), 0, ([] : List Int), false))) else (none)) else (none)) else (impl_ReadPlace.j3 k x0 x4 x257000 x257001)
end
def impl_ReadPlace.f (k : Nat) (a0 : ByteArray) : Option (List Int × Int × List Int × Bool) := (strings_Split.f k a0 (⟨#[32]⟩ : ByteArray)).bind fun t246 => (if (t246.length : Int) = 4 then (if 0 < (t246.length : Int) then (if ((rdOf ByteArray.empty t246 0).size : Int) = 1 then (if 2 < (t246.length : Int) then (impl_ReadPlace.j0 k a0 t246 (((rdOf ByteArray.empty t246 2).size : Int) != 1)) else (none)) else (impl_ReadPlace.j0 k a0 t246 true)) else (none)) else (impl_ReadPlace.j0 k a0 t246 true))
theorem impl_ReadPlace.mono_l : ∀ k, (∀ y0 y1 y2, LeO (impl_ReadPlace.j0 k y0 y1 y2) (impl_ReadPlace.j0 (k + 1) y0 y1 y2)) ∧ (∀ y0 y1 y2 y3, LeO (impl_ReadPlace.j1 k y0 y1 y2 y3) (impl_ReadPlace.j1 (k + 1) y0 y1 y2 y3)) ∧ (∀ y0 y1 y2 y3, LeO (impl_ReadPlace.j3 k y0 y1 y2 y3) (impl_ReadPlace.j3 (k + 1) y0 y1 y2 y3)) ∧ (∀ y0 y1 y2 y3 y4 y5 y6, LeO (impl_ReadPlace.l1 k y0 y1 y2 y3 y4 y5 y6) (impl_ReadPlace.l1 (k + 1) y0 y1 y2 y3 y4 y5 y6)) ∧ (∀ y0 y1 y2 y3 y4 y5 y6 y7, LeO (impl_ReadPlace.l0 k y0 y1 y2 y3 y4 y5 y6 y7) (impl_ReadPlace.l0 (k + 1) y0 y1 y2 y3 y4 y5 y6 y7))
  | 0 => ⟨fun _ _ _ r h => by simp [impl_ReadPlace.j0] at h, fun _ _ _ _ r h => by simp [impl_ReadPlace.j1] at h, fun _ _ _ _ r h => by simp [impl_ReadPlace.j3] at h, fun _ _ _ _ _ _ _ r h => by simp [impl_ReadPlace.l1] at h, fun _ _ _ _ _ _ _ _ r h => by simp [impl_ReadPlace.l0] at h⟩
  | k + 1 => by
    obtain ⟨ih0, ih1, ih2, ih3, ih4⟩ := impl_ReadPlace.mono_l k
    refine ⟨?_, ?_, ?_, ?_, ?_⟩
    · intro y0 y1 y2
      unfold impl_ReadPlace.j0
      repeat' first
      | (with_reducible exact ih0 _ _ _)
      | (with_reducible exact ih1 _ _ _ _)
      | (with_reducible exact ih2 _ _ _ _)
      | (with_reducible exact ih3 _ _ _ _ _ _ _)
      | (with_reducible exact ih4 _ _ _ _ _ _ _ _)
      | (with_reducible exact impl_PlaceText.mono _ _ _ _)
      | (with_reducible exact strings_Split.mono _ _ _)
      | (with_reducible exact LeO.refl _)
      | (with_reducible exact LeO.none _)
      | (with_reducible refine LeO.ite ?_ ?_)
      | (with_reducible refine LeO.bind ?_ (fun _ => ?_))
      | exact ih0 _ _ _
      | exact ih1 _ _ _ _
      | exact ih2 _ _ _ _
      | exact ih3 _ _ _ _ _ _ _
      | exact ih4 _ _ _ _ _ _ _ _
      | exact impl_PlaceText.mono _ _ _ _
      | exact strings_Split.mono _ _ _
      | exact LeO.none _
      | refine LeO.ite ?_ ?_
      | refine LeO.bind ?_ (fun _ => ?_)
    · intro y0 y1 y2 y3
      unfold impl_ReadPlace.j1
      repeat' first
      | (with_reducible exact ih0 _ _ _)
      | (with_reducible exact ih1 _ _ _ _)
      | (with_reducible exact ih2 _ _ _ _)
      | (with_reducible exact ih3 _ _ _ _ _ _ _)
      | (with_reducible exact ih4 _ _ _ _ _ _ _ _)
      | (with_reducible exact impl_PlaceText.mono _ _ _ _)
      | (with_reducible exact strings_Split.mono _ _ _)
      | (with_reducible exact LeO.refl _)
      | (with_reducible exact LeO.none _)
      | (with_reducible refine LeO.ite ?_ ?_)
      | (with_reducible refine LeO.bind ?_ (fun _ => ?_))
      | exact ih0 _ _ _
      | exact ih1 _ _ _ _
      | exact ih2 _ _ _ _
      | exact ih3 _ _ _ _ _ _ _
      | exact ih4 _ _ _ _ _ _ _ _
      | exact impl_PlaceText.mono _ _ _ _
      | exact strings_Split.mono _ _ _
      | exact LeO.none _
      | refine LeO.ite ?_ ?_
      | refine LeO.bind ?_ (fun _ => ?_)
    · intro y0 y1 y2 y3
      unfold impl_ReadPlace.j3
      repeat' first
      | (with_reducible exact ih0 _ _ _)
      | (with_reducible exact ih1 _ _ _ _)
      | (with_reducible exact ih2 _ _ _ _)
      | (with_reducible exact ih3 _ _ _ _ _ _ _)
      | (with_reducible exact ih4 _ _ _ _ _ _ _ _)
      | (with_reducible exact impl_PlaceText.mono _ _ _ _)
      | (with_reducible exact strings_Split.mono _ _ _)
      | (with_reducible exact LeO.refl _)
      | (with_reducible exact LeO.none _)
      | (with_reducible refine LeO.ite ?_ ?_)
      | (with_reducible refine LeO.bind ?_ (fun _ => ?_))
      | exact ih0 _ _ _
      | exact ih1 _ _ _ _
      | exact ih2 _ _ _ _
      | exact ih3 _ _ _ _ _ _ _
      | exact ih4 _ _ _ _ _ _ _ _
      | exact impl_PlaceText.mono _ _ _ _
      | exact strings_Split.mono _ _ _
      | exact LeO.none _
      | refine LeO.ite ?_ ?_
      | refine LeO.bind ?_ (fun _ => ?_)
    · intro y0 y1 y2 y3 y4 y5 y6
      unfold impl_ReadPlace.l1
      repeat' first
      | (with_reducible exact ih0 _ _ _)
      | (with_reducible exact ih1 _ _ _ _)
      | (with_reducible exact ih2 _ _ _ _)
      | (with_reducible exact ih3 _ _ _ _ _ _ _)
      | (with_reducible exact ih4 _ _ _ _ _ _ _ _)
      | (with_reducible exact impl_PlaceText.mono _ _ _ _)
      | (with_reducible exact strings_Split.mono _ _ _)
      | (with_reducible exact LeO.refl _)
      | (with_reducible exact LeO.none _)
      | (with_reducible refine LeO.ite ?_ ?_)
      | (with_reducible refine LeO.bind ?_ (fun _ => ?_))
      | exact ih0 _ _ _
      | exact ih1 _ _ _ _
      | exact ih2 _ _ _ _
      | exact ih3 _ _ _ _ _ _ _
      | exact ih4 _ _ _ _ _ _ _ _
      | exact impl_PlaceText.mono _ _ _ _
      | exact strings_Split.mono _ _ _
      | exact LeO.none _
      | refine LeO.ite ?_ ?_
      | refine LeO.bind ?_ (fun _ => ?_)
    · intro y0 y1 y2 y3 y4 y5 y6 y7
      unfold impl_ReadPlace.l0
      repeat' first
      | (with_reducible exact ih0 _ _ _)
      | (with_reducible exact ih1 _ _ _ _)
      | (with_reducible exact ih2 _ _ _ _)
      | (with_reducible exact ih3 _ _ _ _ _ _ _)
      | (with_reducible exact ih4 _ _ _ _ _ _ _ _)
      | (with_reducible exact impl_PlaceText.mono _ _ _ _)
      | (with_reducible exact strings_Split.mono _ _ _)
      | (with_reducible exact LeO.refl _)
      | (with_reducible exact LeO.none _)
      | (with_reducible refine LeO.ite ?_ ?_)
      | (with_reducible refine LeO.bind ?_ (fun _ => ?_))
      | exact ih0 _ _ _
      | exact ih1 _ _ _ _
      | exact ih2 _ _ _ _
      | exact ih3 _ _ _ _ _ _ _
      | exact ih4 _ _ _ _ _ _ _ _
      | exact impl_PlaceText.mono _ _ _ _
      | exact strings_Split.mono _ _ _
      | exact LeO.none _
      | refine LeO.ite ?_ ?_
      | refine LeO.bind ?_ (fun _ => ?_)
theorem impl_ReadPlace.mono : ∀ a0 k, LeO (impl_ReadPlace.f k a0) (impl_ReadPlace.f (k + 1) a0) := by
  intro a0 k
  obtain ⟨ih0, ih1, ih2, ih3, ih4⟩ := impl_ReadPlace.mono_l k
  unfold impl_ReadPlace.f
  repeat' first
      | (with_reducible exact ih0 _ _ _)
      | (with_reducible exact ih1 _ _ _ _)
      | (with_reducible exact ih2 _ _ _ _)
      | (with_reducible exact ih3 _ _ _ _ _ _ _)
      | (with_reducible exact ih4 _ _ _ _ _ _ _ _)
      | (with_reducible exact impl_PlaceText.mono _ _ _ _)
      | (with_reducible exact strings_Split.mono _ _ _)
      | (with_reducible exact LeO.refl _)
      | (with_reducible exact LeO.none _)
      | (with_reducible refine LeO.ite ?_ ?_)
      | (with_reducible refine LeO.bind ?_ (fun _ => ?_))
      | exact ih0 _ _ _
      | exact ih1 _ _ _ _
      | exact ih2 _ _ _ _
      | exact ih3 _ _ _ _ _ _ _
      | exact ih4 _ _ _ _ _ _ _ _
      | exact impl_PlaceText.mono _ _ _ _
      | exact strings_Split.mono _ _ _
      | exact LeO.none _
      | refine LeO.ite ?_ ?_
      | refine LeO.bind ?_ (fun _ => ?_)
def impl_ReadPlace.T7 : Bool × List (List Nat × List Nat) := (true, [([], []), ([0, 0], [0]), ([], []), ([2], [2]), ([3], [3]), ([4], [4]), ([5], [5]), ([6], [6]), ([1, 7], [1, 7]), ([], []), ([9, 8, 0, 1, 2, 3, 4, 5, 6, 7, 8, 9], [8, 9])])
def impl_ReadPlace.B7 : List Nat := [0, 1, 0, 4, 12, 28, 60, 124, 255, 0, 1023]
theorem impl_ReadPlace.tab7 : rtab .any (opsOf Tryd.f17 7) = impl_ReadPlace.T7 := by kernel_rfl
theorem impl_ReadPlace.bits7 : waitsOk impl_ReadPlace.T7.2 impl_ReadPlace.B7 = true := by kernel_rfl
def impl_ReadPlace.T14 : Bool × List (List Nat × List Nat) := (true, [([], []), ([0], [0]), ([1], [1]), ([2], [2]), ([], []), ([4], [4]), ([5], [5]), ([6], [6]), ([3, 0, 1, 2, 3], [3]), ([7, 8, 0, 1, 2, 3, 4, 5, 6, 7, 8], [7])])
def impl_ReadPlace.B14 : List Nat := [0, 1, 3, 7, 0, 16, 48, 112, 15, 511]
theorem impl_ReadPlace.tab14 : rtab .any (opsOf Tryd.f17 14) = impl_ReadPlace.T14 := by kernel_rfl
theorem impl_ReadPlace.bits14 : waitsOk impl_ReadPlace.T14.2 impl_ReadPlace.B14 = true := by kernel_rfl
def impl_ReadPlace.T17 : Bool × List (List Nat × List Nat) := (true, [([], []), ([0], [0]), ([], []), ([1, 2], [1, 2]), ([3], [3]), ([], []), ([5], [5]), ([4, 6], [4, 6]), ([1, 2, 0, 1, 2, 3, 4, 5, 6, 7], [1, 2]), ([8, 7, 0, 1, 2, 3, 4, 5, 6, 7], [7, 8])])
def impl_ReadPlace.B17 : List Nat := [0, 1, 0, 7, 15, 0, 32, 127, 255, 511]
theorem impl_ReadPlace.tab17 : rtab .any (opsOf Tryd.f17 17) = impl_ReadPlace.T17 := by kernel_rfl
theorem impl_ReadPlace.bits17 : waitsOk impl_ReadPlace.T17.2 impl_ReadPlace.B17 = true := by kernel_rfl
def impl_ReadPlace.T18 : Bool × List (List Nat × List Nat) := (true, [([], []), ([0], [0]), ([], []), ([1, 2], [1, 2]), ([3], [3]), ([], []), ([5], [5]), ([4, 6], [4, 6]), ([1, 2, 0, 1, 2, 3, 4, 5, 6, 7], [1, 2]), ([8, 7, 0, 1, 2, 3, 4, 5, 6, 7], [7, 8])])
def impl_ReadPlace.B18 : List Nat := [0, 1, 0, 7, 15, 0, 32, 127, 255, 511]
theorem impl_ReadPlace.tab18 : rtab .any (opsOf Tryd.f17 18) = impl_ReadPlace.T18 := by kernel_rfl
theorem impl_ReadPlace.bits18 : waitsOk impl_ReadPlace.T18.2 impl_ReadPlace.B18 = true := by kernel_rfl
def impl_ReadPlace.T23 : Bool × List (List Nat × List Nat) := (true, [([], []), ([0], [0]), ([], []), ([2], [2]), ([3], [3]), ([], []), ([4, 5], [4, 5]), ([6], [6]), ([7], [7]), ([8], [8]), ([1, 9], [1, 9]), ([0, 1, 2, 3, 4, 5, 6, 7, 8, 9, 10], []), ([11, 10, 10, 0, 1, 2, 3, 4, 5, 6, 7, 8, 9, 10], [10, 11])])
def impl_ReadPlace.B23 : List Nat := [0, 1, 0, 4, 12, 0, 60, 124, 252, 508, 1023, 2047, 4095]
theorem impl_ReadPlace.tab23 : rtab .any (opsOf Tryd.f17 23) = impl_ReadPlace.T23 := by kernel_rfl
theorem impl_ReadPlace.bits23 : waitsOk impl_ReadPlace.T23.2 impl_ReadPlace.B23 = true := by kernel_rfl
set_option maxHeartbeats 8000000 in
set_option maxRecDepth 100000 in
theorem impl_ReadPlace.calls (k : Nat) (a0 : ByteArray) (r1 : List Int) (r2 : Int) (r3 : List Int) (r4 : Bool) (w : World) (h : impl_ReadPlace.f k a0 = some (r1, r2, r3, r4)) :
    Calls Tryd.prog 17 #[.string a0] w fun e w' => ∃ v0_ v2_ : Value, e = .returned (.tuple #[.agg #[v0_, .int .i64 r2, v2_], .bool r4]) ∧ Kd.R (Kd.int .i64) 3 w' w.heap.size (fun k_ => some k_ ≠ (v2_ : Value).ownBlock) v0_ r1 ∧ Kd.R (Kd.int .i64) 3 w' w.heap.size (fun k_ => some k_ ≠ (v0_ : Value).ownBlock) v2_ r3 ∧ Below w.heap.size w w' := by
  have hu36 := Tryd.underlying36
  have HB := Aside0.mk (Below.refl w.heap.size w)
  have H : ((strings_Split.f k a0 (⟨#[32]⟩ : ByteArray)).bind fun t246 => (if (t246.length : Int) = 4 then (if 0 < (t246.length : Int) then (if ((rdOf ByteArray.empty t246 0).size : Int) = 1 then (if 2 < (t246.length : Int) then (impl_ReadPlace.j0 k a0 t246 (((rdOf ByteArray.empty t246 2).size : Int) != 1)) else (none)) else (impl_ReadPlace.j0 k a0 t246 true)) else (none)) else (impl_ReadPlace.j0 k a0 t246 true))) = some (r1, r2, r3, r4) := h
  clear h
  replace H := Option.bind_eq_some_iff.mp H
  obtain ⟨t246, A20, H⟩ := H
  replace H : (if (t246.length : Int) = 4 then (if 0 < (t246.length : Int) then (if ((rdOf ByteArray.empty t246 0).size : Int) = 1 then (if 2 < (t246.length : Int) then (impl_ReadPlace.j0 k a0 t246 (((rdOf ByteArray.empty t246 2).size : Int) != 1)) else (none)) else (impl_ReadPlace.j0 k a0 t246 true)) else (none)) else (impl_ReadPlace.j0 k a0 t246 true)) = some (r1, r2, r3, r4) := H
  have A2 := Aside0.mk A20
  clear A20
  have HC3 := Aside0.mk H
  clear H
  go_enter Tryd.func17, Tryd.ntmps17
  go_upto_region 2 with (first | ((with_reducible refine gate_dst (N := 2) rfl ?_); (try (refine gate_guard (by rfl) ?_; dsimp only)); refine box_event ?hg (N := 2) ?hd (cs := #[.slice none 0 0, .int .i64 0, .slice none 0 0]) (t := 36) ?hr ?_; (case hd => rfl); (case hg => rfl); (case hr => first | (go_simp; done) | (go_simp; rfl)); intro gb245 hg w4 hbox hb; have n0_ := Aside0.mk (below_step (by repeat (first | (with_reducible first | exact HB.out | apply below_alloc | apply pw_below_drewN | apply below_drew1) | exact HB.out)) hb); have n1_ := Aside0.mk (hbox); have n2_ := Aside0.mk ((by rw [hg]; exact (below_size (by repeat (first | (with_reducible first | exact HB.out | apply below_alloc | apply pw_below_drewN | apply below_drew1) | exact HB.out))) : w.heap.size ≤ gb245)); have n3_ := Aside0.mk ((by rw [hg]; exact (below_size (by repeat (first | (with_reducible first | exact HB.out | apply below_alloc | apply pw_below_drewN | apply below_drew1) | exact HB.out))) : w.heap.size ≤ gb245)); clear HB; have HB := n0_; have BK245 := n1_; have GW245 := n2_; have GE245 := n3_; clear n0_ n1_ n2_ n3_; clear hb hbox hg) | ((with_reducible refine gate_callee (f := 25) rfl ?_); refine goesL_ (some 13) rfl rfl Tryd.func25 (by kernel_rfl) rfl #[.string a0, .string (⟨#[32]⟩ : ByteArray)] rfl (by (try simp only [List.map_toArray, List.map_cons, List.map_nil]); first | done | rfl | (simp only [List.length_drop, List.length_take]; rfl)) ?_; (with_reducible refine (strings_Split.calls k a0 (⟨#[32]⟩ : ByteArray) t246 _ A2.out).mono ?_); rintro e w5 ⟨v247, rfl, ho0, hb⟩; refine ⟨_, rfl, ?_⟩; have n0_ := Aside0.mk (Kd.R_lower ho0 (below_size (by repeat (first | (with_reducible first | exact HB.out | apply below_alloc | apply pw_below_drewN | apply below_drew1 | refine below_set ?_ GE245.out) | exact HB.out)))); have n1_ := Aside0.mk (blk_below (g := gb245) (o := .cells #[.slice none 0 0, .int .i64 0, .slice none 0 0] 36 (0, 0)) (by (with_reducible repeat (first | refine blk_drewN ?_ _ | refine blk_drew ?_ | refine blk_alloc ?_ _)); exact BK245.out) hb); have n2_ := Aside0.mk (below_step (by repeat (first | (with_reducible first | exact HB.out | apply below_alloc | apply pw_below_drewN | apply below_drew1 | refine below_set ?_ GE245.out) | exact HB.out)) hb); clear BK245; clear HB; have HO248 := n0_; have BK245 := n1_; have HB := n2_; clear n0_ n1_ n2_; (try clear hb); (try clear hb2); (try clear hk); (try clear hi); (try clear ho0)))
  (try simp only [Act.put, List.setIfInBounds_toArray, List.set_cons_zero, List.set_cons_succ])
  go_cut [30] (fun v30 wc => ∃ (kq : Nat) (x30_2 : Bool), v30 = .bool x30_2 ∧ Aside0 (impl_ReadPlace.j0 kq a0 t246 x30_2 = some (r1, r2, r3, r4)) ∧ Aside0 (kq ≤ k) ∧ Aside0 (Kd.R Kd.string 9 wc w.heap.size (fun _ => True) v247 t246) ∧ Aside0 (wc.heap[gb245]? = some (.cells #[(.slice none 0 0), .int .i64 0, (.slice none 0 0)] 36 (0, 0))) ∧ Aside0 (Below w.heap.size w wc))
  case first =>
    have H := HC3.out
    clear HC3
    by_cases c6 : (t246.length : Int) = 4
    · rw [if_pos c6] at H
      have c6b0 : ((t246.length : Int) == 4) = true := beq_iff_eq.mpr c6
      have c6b1 : ((t246.length : Int) != 4) = false := bne_eq_false_iff_eq.mpr c6
      clear c6
      (first | rw [c6b0] | (simp only [i64_w, i32_w]; rw [c6b0]) | skip)
      by_cases c7 : 0 < (t246.length : Int)
      · rw [if_pos c7] at H
        have c7b0 : decide (0 < (t246.length : Int)) = true := decide_eq_true c7
        have c7b1 : decide (0 < t246.length) = true := decide_eq_true (by omega)
        clear c7
        by_cases c8 : ((rdOf ByteArray.empty t246 0).size : Int) = 1
        · rw [if_pos c8] at H
          have c8b0 : (((rdOf ByteArray.empty t246 0).size : Int) == 1) = true := beq_iff_eq.mpr c8
          have c8b1 : (((rdOf ByteArray.empty t246 0).size : Int) != 1) = false := bne_eq_false_iff_eq.mpr c8
          clear c8
          by_cases c9 : 2 < (t246.length : Int)
          · rw [if_pos c9] at H
            have c9b0 : decide (2 < (t246.length : Int)) = true := decide_eq_true c9
            have c9b1 : decide (2 < t246.length) = true := decide_eq_true (by omega)
            clear c9
            have H' := Aside0.mk H
            clear H
            obtain ⟨Ao10, co10, eo10⟩ := Kd.R_slice HO248.out
            subst eo10
            have p249 : 0 ≤ (0 : Int) := (by omega)
            have q249 : 0 < (t246.length : Int) := of_decide_eq_true (by first | (with_reducible assumption) | assumption)
            obtain ⟨ad249, e249, hx249_0⟩ := Kd.at_string (Kd.R_reads' HO248.out).2.2 0 p249 q249
            cases e249
            have qi249 : (0 < t246.length) = True := eq_true (by omega)
            (try rw [show ((0 : Int)).toNat = 0 from rfl] at hx249_0)
            (try rw [Addr.add_zero'] at hx249_0)
            replace p249 := eq_true p249
            replace q249 := eq_true q249
            have p250 : 0 ≤ (2 : Int) := (by omega)
            have q250 : 2 < (t246.length : Int) := of_decide_eq_true (by first | (with_reducible assumption) | assumption)
            obtain ⟨ad250, e250, hx250_0⟩ := Kd.at_string (Kd.R_reads' HO248.out).2.2 2 p250 q250
            obtain rfl : ad249 = ad250 := (by injection e250)
            (try simp only [show (2 : Int).toNat = 2 from rfl, Nat.reduceMul, Nat.reduceEqDiff, Go.Addr.add, ↓reduceIte] at hx250_0)
            have qi250 : (2 < t246.length) = True := eq_true (by omega)
            (try rw [show ((2 : Int)).toNat = 2 from rfl] at hx250_0)
            replace p250 := eq_true p250
            replace q250 := eq_true q250
            go_wp2
            go_meet
            case rel => exact ⟨_, ((((rdOf ByteArray.empty t246 2).size : Int) != 1)), (by first | rfl | (simp; done) | (simp [*]; done)), H', ⟨by first | omega | exact Nat.le_refl _⟩, ⟨by (with_reducible repeat (first | apply Kd.R_alloc | apply Kd.R_drewN | apply Kd.R_drew)); exact HO248.out⟩, ⟨by (with_reducible repeat (first | refine blk_drewN ?_ _ | refine blk_drew ?_ | refine blk_alloc ?_ _)); exact BK245.out⟩, ⟨by repeat (first | (with_reducible first | exact HB.out | apply below_alloc | apply pw_below_drewN | apply below_drew1 | refine below_set ?_ GE245.out) | exact HB.out)⟩⟩
          · rw [if_neg c9] at H
            exact absurd H (by simp)
        · rw [if_neg c8] at H
          have c8b0 : (((rdOf ByteArray.empty t246 0).size : Int) == 1) = false := beq_eq_false_iff_ne.mpr c8
          have c8b1 : (((rdOf ByteArray.empty t246 0).size : Int) != 1) = true := bne_iff_ne.mpr c8
          have H' := Aside0.mk H
          clear H
          obtain ⟨Ao11, co11, eo11⟩ := Kd.R_slice HO248.out
          subst eo11
          have p249 : 0 ≤ (0 : Int) := (by omega)
          have q249 : 0 < (t246.length : Int) := of_decide_eq_true (by first | (with_reducible assumption) | assumption)
          obtain ⟨ad249, e249, hx249_0⟩ := Kd.at_string (Kd.R_reads' HO248.out).2.2 0 p249 q249
          cases e249
          have qi249 : (0 < t246.length) = True := eq_true (by omega)
          (try rw [show ((0 : Int)).toNat = 0 from rfl] at hx249_0)
          (try rw [Addr.add_zero'] at hx249_0)
          replace p249 := eq_true p249
          replace q249 := eq_true q249
          go_wp2
          go_meet
          case rel => exact ⟨_, (true), (by first | rfl | (simp; done) | (simp [*]; done)), H', ⟨by first | omega | exact Nat.le_refl _⟩, ⟨by (with_reducible repeat (first | apply Kd.R_alloc | apply Kd.R_drewN | apply Kd.R_drew)); exact HO248.out⟩, ⟨by (with_reducible repeat (first | refine blk_drewN ?_ _ | refine blk_drew ?_ | refine blk_alloc ?_ _)); exact BK245.out⟩, ⟨by repeat (first | (with_reducible first | exact HB.out | apply below_alloc | apply pw_below_drewN | apply below_drew1 | refine below_set ?_ GE245.out) | exact HB.out)⟩⟩
      · rw [if_neg c7] at H
        exact absurd H (by simp)
    · rw [if_neg c6] at H
      have c6b0 : ((t246.length : Int) == 4) = false := beq_eq_false_iff_ne.mpr c6
      have c6b1 : ((t246.length : Int) != 4) = true := bne_iff_ne.mpr c6
      (first | rw [c6b0] | (simp only [i64_w, i32_w]; rw [c6b0]) | skip)
      have H' := Aside0.mk H
      clear H
      obtain ⟨Ao12, co12, eo12⟩ := Kd.R_slice HO248.out
      subst eo12
      go_wp2
      go_meet
      case rel => exact ⟨_, (true), (by first | rfl | (simp; done) | (simp [*]; done)), H', ⟨by first | omega | exact Nat.le_refl _⟩, ⟨by (with_reducible repeat (first | apply Kd.R_alloc | apply Kd.R_drewN | apply Kd.R_drew)); exact HO248.out⟩, ⟨by (with_reducible repeat (first | refine blk_drewN ?_ _ | refine blk_drew ?_ | refine blk_alloc ?_ _)); exact BK245.out⟩, ⟨by repeat (first | (with_reducible first | exact HB.out | apply below_alloc | apply pw_below_drewN | apply below_drew1 | refine below_set ?_ GE245.out) | exact HB.out)⟩⟩
  case rest =>
    clear HC3
    try clear c1
    try clear c2
    try clear p2
    try clear q2
    try clear hx2
    try clear qi2
    try clear c6
    try clear c6b0
    try clear c6b1
    try clear c7
    try clear c7b0
    try clear c7b1
    try clear c8
    try clear c8b0
    try clear c8b1
    try clear c9
    try clear c9b0
    try clear c9b1
    try clear hx249_0
    try clear hx250_0
    try clear p249
    try clear p250
    try clear q249
    try clear q250
    obtain ⟨kq, x30_2, rfl, HA, HJ2, HO_4, BK245, HB⟩ := hcut
    cases kq with
    | zero => exact absurd HA.out (by simp [impl_ReadPlace.j0])
    | succ kj2 =>
      have H := HA.out
      clear HA
      simp only [impl_ReadPlace.j0] at H
      by_cases c13 : x30_2 = true
      · subst c13
        have H1 : (some (([] : List Int), 0, ([] : List Int), false)) = some (r1, r2, r3, r4) := by rw [if_pos rfl] at H; exact H
        clear H
        have H := H1
        clear H1
        simp only [Option.some.injEq, Prod.mk.injEq] at H
        obtain ⟨rfl, rfl, rfl, rfl⟩ := H
        have hcz14_0 : wc.cell? ⟨gb245, 0, none⟩ = some (.slice none 0 0) := (blk_cell BK245.out 0).trans rfl
        have hcz14_1 : wc.cell? ⟨gb245, 1, none⟩ = some (.int .i64 0) := (blk_cell BK245.out 1).trans rfl
        have hcz14_2 : wc.cell? ⟨gb245, 2, none⟩ = some (.slice none 0 0) := (blk_cell BK245.out 2).trans rfl
        have hfz14_0 := blk_frozen BK245.out 0
        have hfz14_1 := blk_frozen BK245.out 1
        have hfz14_2 := blk_frozen BK245.out 2
        go_wp2
        refine bodyPost_ret (results_ct rfl _ _ gb245 36 #[.slice none 0 0, .int .i64 0, .slice none 0 0] (0, 0) _ rfl (by (with_reducible repeat (first | refine blk_drewN ?_ _ | refine blk_drew ?_ | refine blk_alloc ?_ _)); refine blk_put (cs := #[.slice none 0 0, .int .i64 0, .slice none 0 0]) ?_ 2 _ rfl; (with_reducible repeat (first | refine blk_drewN ?_ _ | refine blk_drew ?_ | refine blk_alloc ?_ _)); refine blk_put (cs := #[.slice none 0 0, .int .i64 0, .slice none 0 0]) ?_ 1 _ rfl; (with_reducible repeat (first | refine blk_drewN ?_ _ | refine blk_drew ?_ | refine blk_alloc ?_ _)); refine blk_put (cs := #[.slice none 0 0, .int .i64 0, .slice none 0 0]) ?_ 0 _ rfl; (with_reducible repeat (first | refine blk_drewN ?_ _ | refine blk_drew ?_ | refine blk_alloc ?_ _)); exact BK245.out) Tryd.underlying36 rfl (by kernel_rfl)) rfl ?_
        exact ⟨_, _, by first | rfl | (simp [errW_none, errW_some] <;> rfl) | (simp [*, errW_none, errW_some] <;> rfl), by first | exact Kd.R_nil _ _ _ _ _ | exact Kd.N_nil _ _ _ _ _ | exact Kd.V_nil _ _ _ _ _ | exact Kd.Q_nil _ _ _ _ _ | exact Kd.S_nil _ _ _ _ _, by first | exact Kd.R_nil _ _ _ _ _ | exact Kd.N_nil _ _ _ _ _ | exact Kd.V_nil _ _ _ _ _ | exact Kd.Q_nil _ _ _ _ _ | exact Kd.S_nil _ _ _ _ _, by repeat (first | (with_reducible first | exact HB.out | apply below_alloc | apply pw_below_drewN | apply below_drew1 | refine below_set ?_ GE245.out) | exact HB.out)⟩
      · replace c13 := Bool.eq_false_iff.mpr c13
        subst c13
        have H1 : (if 0 < (t246.length : Int) then (if 0 < ((rdOf ByteArray.empty t246 0).size : Int) then (if (wrap64 ((wrap64 (bt (rdOf ByteArray.empty t246 0) 0)) - 48)) < 1 then (impl_ReadPlace.j1 kj2 a0 t246 (wrap64 ((wrap64 (bt (rdOf ByteArray.empty t246 0) 0)) - 48)) true) else (impl_ReadPlace.j1 kj2 a0 t246 (wrap64 ((wrap64 (bt (rdOf ByteArray.empty t246 0) 0)) - 48)) (decide ((wrap64 ((wrap64 (bt (rdOf ByteArray.empty t246 0) 0)) - 48)) > 6)))) else (none)) else (none)) = some (r1, r2, r3, r4) := by rw [if_neg (show ¬ (false = true) by decide)] at H; exact H
        clear H
        have H := H1
        clear H1
        by_cases c15 : 0 < (t246.length : Int)
        · rw [if_pos c15] at H
          have c15b0 : decide (0 < (t246.length : Int)) = true := decide_eq_true c15
          have c15b1 : decide (0 < t246.length) = true := decide_eq_true (by omega)
          clear c15
          by_cases c16 : 0 < ((rdOf ByteArray.empty t246 0).size : Int)
          · rw [if_pos c16] at H
            have c16b0 : decide (0 < ((rdOf ByteArray.empty t246 0).size : Int)) = true := decide_eq_true c16
            have c16b1 : decide (0 < (rdOf ByteArray.empty t246 0).size) = true := decide_eq_true (by omega)
            clear c16
            have HC18 := Aside0.mk H
            clear H
            obtain ⟨Ao19, co19, eo19⟩ := Kd.R_slice HO_4.out
            subst eo19
            have p251 : 0 ≤ (0 : Int) := (by omega)
            have q251 : 0 < (t246.length : Int) := of_decide_eq_true (by first | (with_reducible assumption) | assumption)
            obtain ⟨ad251, e251, hx251_0⟩ := Kd.at_string (Kd.R_reads' HO_4.out).2.2 0 p251 q251
            cases e251
            have qi251 : (0 < t246.length) = True := eq_true (by omega)
            (try rw [show ((0 : Int)).toNat = 0 from rfl] at hx251_0)
            (try rw [Addr.add_zero'] at hx251_0)
            replace p251 := eq_true p251
            replace q251 := eq_true q251
            have p17 : 0 ≤ (0 : Int) := (by omega)
            have q17 : 0 < (rdOf ByteArray.empty t246 0).size := (by have : (0 : Int) < ((rdOf ByteArray.empty t246 0).size : Int) := of_decide_eq_true (by first | (with_reducible assumption) | assumption); omega)
            have hx17 : ∀ h : 0 < (rdOf ByteArray.empty t246 0).size, (((rdOf ByteArray.empty t246 0)[0]'h).toNat : Int) = bt (rdOf ByteArray.empty t246 0) 0 := bt_at (rdOf ByteArray.empty t246 0) 0
            clear p17
            have qi17 : (0 < ((rdOf ByteArray.empty t246 0).size : Int)) = True := eq_true (of_decide_eq_true (by first | (with_reducible assumption) | assumption))
            replace q17 := eq_true q17
            go_upto_region 5 with (fail)
            go_cut [43] (fun v43 wc => ∃ (kq : Nat) (x43_17 : Bool), v43 = .bool x43_17 ∧ Aside0 (impl_ReadPlace.j1 kq a0 t246 (wrap64 ((wrap64 (bt (rdOf ByteArray.empty t246 0) 0)) - 48)) x43_17 = some (r1, r2, r3, r4)) ∧ Aside0 (kq ≤ kj2) ∧ Aside0 (Kd.R Kd.string 9 wc w.heap.size (fun _ => True) (.slice (some ad251) t246.length co19) t246) ∧ Aside0 (wc.heap[gb245]? = some (.cells #[(.slice none 0 0), .int .i64 0, (.slice none 0 0)] 36 (0, 0))) ∧ Aside0 (Below w.heap.size w wc))
            case first =>
              have H := HC18.out
              clear HC18
              by_cases c20 : (wrap64 ((wrap64 (bt (rdOf ByteArray.empty t246 0) 0)) - 48)) < 1
              · rw [if_pos c20] at H
                have c20b0 : decide ((wrap64 ((wrap64 (bt (rdOf ByteArray.empty t246 0) 0)) - 48)) < 1) = true := decide_eq_true c20
                clear c20
                (first | rw [c20b0] | (simp only [i64_w, i32_w]; rw [c20b0]) | skip)
                have H' := Aside0.mk H
                clear H
                go_wp2
                go_meet
                case rel => exact ⟨_, (true), (by first | rfl | (simp; done) | (simp [*]; done)), H', ⟨by have := HJ2.out; first | omega | exact Nat.le_refl _⟩, ⟨by (with_reducible repeat (first | apply Kd.R_alloc | apply Kd.R_drewN | apply Kd.R_drew)); exact HO_4.out⟩, ⟨by (with_reducible repeat (first | refine blk_drewN ?_ _ | refine blk_drew ?_ | refine blk_alloc ?_ _)); exact BK245.out⟩, ⟨by repeat (first | (with_reducible first | exact HB.out | apply below_alloc | apply pw_below_drewN | apply below_drew1 | refine below_set ?_ GE245.out) | exact HB.out)⟩⟩
              · rw [if_neg c20] at H
                have c20b0 : decide ((wrap64 ((wrap64 (bt (rdOf ByteArray.empty t246 0) 0)) - 48)) < 1) = false := decide_eq_false c20
                clear c20
                (first | rw [c20b0] | (simp only [i64_w, i32_w]; rw [c20b0]) | skip)
                have H' := Aside0.mk H
                clear H
                go_wp2
                go_meet
                case rel => exact ⟨_, (decide ((wrap64 ((wrap64 (bt (rdOf ByteArray.empty t246 0) 0)) - 48)) > 6)), (by first | rfl | (simp; done) | (simp [*]; done)), H', ⟨by have := HJ2.out; first | omega | exact Nat.le_refl _⟩, ⟨by (with_reducible repeat (first | apply Kd.R_alloc | apply Kd.R_drewN | apply Kd.R_drew)); exact HO_4.out⟩, ⟨by (with_reducible repeat (first | refine blk_drewN ?_ _ | refine blk_drew ?_ | refine blk_alloc ?_ _)); exact BK245.out⟩, ⟨by repeat (first | (with_reducible first | exact HB.out | apply below_alloc | apply pw_below_drewN | apply below_drew1 | refine below_set ?_ GE245.out) | exact HB.out)⟩⟩
            case rest =>
              clear HC18
              try clear c1
              try clear p1
              try clear q1
              try clear hx1
              try clear qi1
              try clear c2
              try clear p2
              try clear q2
              try clear hx2
              try clear qi2
              try clear c6
              try clear c6b0
              try clear c6b1
              try clear p6
              try clear c7
              try clear c7b0
              try clear c7b1
              try clear c8
              try clear c8b0
              try clear c8b1
              try clear c9
              try clear c9b0
              try clear c9b1
              try clear c13
              try clear c15
              try clear c15b0
              try clear c15b1
              try clear c16
              try clear c16b0
              try clear c16b1
              try clear c17
              try clear p17
              try clear q17
              try clear hx17
              try clear qi17
              try clear c20
              try clear c20b0
              try clear hcz14_0
              try clear hcz14_1
              try clear hcz14_2
              try clear hfz14_0
              try clear hfz14_1
              try clear hfz14_2
              try clear hx249_0
              try clear hx250_0
              try clear hx251_0
              try clear p17
              try clear p2
              try clear p249
              try clear p250
              try clear p251
              try clear q17
              try clear q2
              try clear q249
              try clear q250
              try clear q251
              obtain ⟨kq, x43_17, rfl, HA, HJ17, HO_4, BK245, HB⟩ := hcut
              cases kq with
              | zero => exact absurd HA.out (by simp [impl_ReadPlace.j1])
              | succ kj17 =>
                have H := HA.out
                clear HA
                simp only [impl_ReadPlace.j1] at H
                by_cases c21 : x43_17 = true
                · subst c21
                  have H1 : (some (([] : List Int), 0, ([] : List Int), false)) = some (r1, r2, r3, r4) := by rw [if_pos rfl] at H; exact H
                  clear H
                  have H := H1
                  clear H1
                  simp only [Option.some.injEq, Prod.mk.injEq] at H
                  obtain ⟨rfl, rfl, rfl, rfl⟩ := H
                  have hcz22_0 : wc.cell? ⟨gb245, 0, none⟩ = some (.slice none 0 0) := (blk_cell BK245.out 0).trans rfl
                  have hcz22_1 : wc.cell? ⟨gb245, 1, none⟩ = some (.int .i64 0) := (blk_cell BK245.out 1).trans rfl
                  have hcz22_2 : wc.cell? ⟨gb245, 2, none⟩ = some (.slice none 0 0) := (blk_cell BK245.out 2).trans rfl
                  have hfz22_0 := blk_frozen BK245.out 0
                  have hfz22_1 := blk_frozen BK245.out 1
                  have hfz22_2 := blk_frozen BK245.out 2
                  go_wp2
                  refine bodyPost_ret (results_ct rfl _ _ gb245 36 #[.slice none 0 0, .int .i64 0, .slice none 0 0] (0, 0) _ rfl (by (with_reducible repeat (first | refine blk_drewN ?_ _ | refine blk_drew ?_ | refine blk_alloc ?_ _)); refine blk_put (cs := #[.slice none 0 0, .int .i64 0, .slice none 0 0]) ?_ 2 _ rfl; (with_reducible repeat (first | refine blk_drewN ?_ _ | refine blk_drew ?_ | refine blk_alloc ?_ _)); refine blk_put (cs := #[.slice none 0 0, .int .i64 0, .slice none 0 0]) ?_ 1 _ rfl; (with_reducible repeat (first | refine blk_drewN ?_ _ | refine blk_drew ?_ | refine blk_alloc ?_ _)); refine blk_put (cs := #[.slice none 0 0, .int .i64 0, .slice none 0 0]) ?_ 0 _ rfl; (with_reducible repeat (first | refine blk_drewN ?_ _ | refine blk_drew ?_ | refine blk_alloc ?_ _)); exact BK245.out) Tryd.underlying36 rfl (by kernel_rfl)) rfl ?_
                  exact ⟨_, _, by first | rfl | (simp [errW_none, errW_some] <;> rfl) | (simp [*, errW_none, errW_some] <;> rfl), by first | exact Kd.R_nil _ _ _ _ _ | exact Kd.N_nil _ _ _ _ _ | exact Kd.V_nil _ _ _ _ _ | exact Kd.Q_nil _ _ _ _ _ | exact Kd.S_nil _ _ _ _ _, by first | exact Kd.R_nil _ _ _ _ _ | exact Kd.N_nil _ _ _ _ _ | exact Kd.V_nil _ _ _ _ _ | exact Kd.Q_nil _ _ _ _ _ | exact Kd.S_nil _ _ _ _ _, by repeat (first | (with_reducible first | exact HB.out | apply below_alloc | apply pw_below_drewN | apply below_drew1 | refine below_set ?_ GE245.out) | exact HB.out)⟩
                · replace c21 := Bool.eq_false_iff.mpr c21
                  subst c21
                  have H1 : (if 0 ≤ (wrap64 ((wrap64 (bt (rdOf ByteArray.empty t246 0) 0)) - 48)) then (if ((wrap64 ((wrap64 (bt (rdOf ByteArray.empty t246 0) 0)) - 48)) : Int).toNat ≤ 35184372088832 then ((some (List.replicate ((wrap64 ((wrap64 (bt (rdOf ByteArray.empty t246 0) 0)) - 48)) : Int).toNat 0 : List Int)).bind fun y252 => (if 2 < (t246.length : Int) then (if 0 < ((rdOf ByteArray.empty t246 2).size : Int) then (if 1 < (t246.length : Int) then (if (rdOf ByteArray.empty t246 1).toList = ([46] : List UInt8) then (impl_ReadPlace.j3 kj17 a0 t246 y252 (wrap64 ((wrap64 (bt (rdOf ByteArray.empty t246 2) 0)) - 48))) else ((strings_Split.f kj17 (rdOf ByteArray.empty t246 1) (⟨#[44]⟩ : ByteArray)).bind fun t259 => (impl_ReadPlace.l0 kj17 a0 t246 (wrap64 ((wrap64 (bt (rdOf ByteArray.empty t246 0) 0)) - 48)) t259 (t259.length : Int) 0 y252 (wrap64 ((wrap64 (bt (rdOf ByteArray.empty t246 2) 0)) - 48))))) else (none)) else (none)) else (none))) else (none)) else (none)) = some (r1, r2, r3, r4) := by rw [if_neg (show ¬ (false = true) by decide)] at H; exact H
                  clear H
                  have H := H1
                  clear H1
                  obtain ⟨ji23, hji23⟩ : ∃ j_ : Int, (wrap64 ((wrap64 (bt (rdOf ByteArray.empty t246 0) 0)) - 48)) = j_ := ⟨_, rfl⟩
                  replace H : (if 0 ≤ (ji23) then (if ((ji23) : Int).toNat ≤ 35184372088832 then ((some (List.replicate ((ji23) : Int).toNat 0 : List Int)).bind fun y252 => (if 2 < (t246.length : Int) then (if 0 < ((rdOf ByteArray.empty t246 2).size : Int) then (if 1 < (t246.length : Int) then (if (rdOf ByteArray.empty t246 1).toList = ([46] : List UInt8) then (impl_ReadPlace.j3 kj17 a0 t246 y252 (wrap64 ((wrap64 (bt (rdOf ByteArray.empty t246 2) 0)) - 48))) else ((strings_Split.f kj17 (rdOf ByteArray.empty t246 1) (⟨#[44]⟩ : ByteArray)).bind fun t259 => (impl_ReadPlace.l0 kj17 a0 t246 (ji23) t259 (t259.length : Int) 0 y252 (wrap64 ((wrap64 (bt (rdOf ByteArray.empty t246 2) 0)) - 48))))) else (none)) else (none)) else (none))) else (none)) else (none)) = some (r1, r2, r3, r4) := by first | (rw [hji23] at H; exact H) | (simp only [hji23] at H ⊢; exact H)
                  have hji23w : (IntKind.i64.wrap ((wrap64 (bt (rdOf ByteArray.empty t246 0) 0)) - 48)) = ji23 := (i64_w _).trans hji23
                  by_cases c24 : 0 ≤ (ji23)
                  · rw [if_pos c24] at H
                    have c24b0 := eq_true c24
                    have c24b1 : decide (0 ≤ (ji23)) = true := decide_eq_true c24
                    clear c24
                    by_cases c25 : ((ji23) : Int).toNat ≤ 35184372088832
                    · rw [if_pos c25] at H
                      have c25b0 := eq_true c25
                      have c25b1 : decide (((ji23) : Int).toNat ≤ 35184372088832) = true := decide_eq_true c25
                      clear c25
                      obtain ⟨y252, hy252⟩ : ∃ y_ : List Int, y_ = (List.replicate ((ji23) : Int).toNat 0) := ⟨_, rfl⟩
                      replace H : (if 2 < (t246.length : Int) then (if 0 < ((rdOf ByteArray.empty t246 2).size : Int) then (if 1 < (t246.length : Int) then (if (rdOf ByteArray.empty t246 1).toList = ([46] : List UInt8) then (impl_ReadPlace.j3 kj17 a0 t246 y252 (wrap64 ((wrap64 (bt (rdOf ByteArray.empty t246 2) 0)) - 48))) else ((strings_Split.f kj17 (rdOf ByteArray.empty t246 1) (⟨#[44]⟩ : ByteArray)).bind fun t259 => (impl_ReadPlace.l0 kj17 a0 t246 (ji23) t259 (t259.length : Int) 0 y252 (wrap64 ((wrap64 (bt (rdOf ByteArray.empty t246 2) 0)) - 48))))) else (none)) else (none)) else (none)) = some (r1, r2, r3, r4) := by first | (rw [hy252]; with_reducible exact H) | (have H2_ := (Option.bind_some _ _).symm.trans H; rw [hy252]; with_reducible exact H2_) | (have H2_ := (Option.bind_some _ _).symm.trans H; with_reducible exact H2_) | with_reducible exact H | (rw [hy252]; exact H) | exact H
                      have Ny252 := Aside0.mk hy252
                      clear hy252
                      by_cases c26 : 2 < (t246.length : Int)
                      · rw [if_pos c26] at H
                        have c26b0 : decide (2 < (t246.length : Int)) = true := decide_eq_true c26
                        have c26b1 : decide (2 < t246.length) = true := decide_eq_true (by omega)
                        clear c26
                        by_cases c27 : 0 < ((rdOf ByteArray.empty t246 2).size : Int)
                        · rw [if_pos c27] at H
                          have c27b0 : decide (0 < ((rdOf ByteArray.empty t246 2).size : Int)) = true := decide_eq_true c27
                          have c27b1 : decide (0 < (rdOf ByteArray.empty t246 2).size) = true := decide_eq_true (by omega)
                          clear c27
                          by_cases c29 : 1 < (t246.length : Int)
                          · rw [if_pos c29] at H
                            have c29b0 : decide (1 < (t246.length : Int)) = true := decide_eq_true c29
                            have c29b1 : decide (1 < t246.length) = true := decide_eq_true (by omega)
                            clear c29
                            have HC30 := Aside0.mk H
                            clear H
                            try go_wp2
                            have n0_ := Aside0.mk (Kd.R_drew HO_4.out)
                            have n1_ := Aside0.mk (blk_drew BK245.out)
                            have n2_ := Aside0.mk (below_drew1 HB.out)
                            clear HO_4
                            clear BK245
                            clear HB
                            have HO_4 := n0_
                            have BK245 := n1_
                            have HB := n2_
                            clear n0_ n1_ n2_
                            have p255 : 0 ≤ (2 : Int) := (by omega)
                            have q255 : 2 < (t246.length : Int) := of_decide_eq_true (by first | (with_reducible assumption) | assumption)
                            obtain ⟨ad255, e255, hx255_0⟩ := Kd.at_string (Kd.R_reads' HO_4.out).2.2 2 p255 q255
                            obtain rfl : ad251 = ad255 := (by injection e255)
                            (try simp only [show (2 : Int).toNat = 2 from rfl, Nat.reduceMul, Nat.reduceEqDiff, Go.Addr.add, ↓reduceIte] at hx255_0)
                            have qi255 : (2 < t246.length) = True := eq_true (by omega)
                            (try rw [show ((2 : Int)).toNat = 2 from rfl] at hx255_0)
                            replace p255 := eq_true p255
                            replace q255 := eq_true q255
                            have p28 : 0 ≤ (0 : Int) := (by omega)
                            have q28 : 0 < (rdOf ByteArray.empty t246 2).size := (by have : (0 : Int) < ((rdOf ByteArray.empty t246 2).size : Int) := of_decide_eq_true (by first | (with_reducible assumption) | assumption); omega)
                            have hx28 : ∀ h : 0 < (rdOf ByteArray.empty t246 2).size, (((rdOf ByteArray.empty t246 2)[0]'h).toNat : Int) = bt (rdOf ByteArray.empty t246 2) 0 := bt_at (rdOf ByteArray.empty t246 2) 0
                            clear p28
                            have qi28 : (0 < ((rdOf ByteArray.empty t246 2).size : Int)) = True := eq_true (of_decide_eq_true (by first | (with_reducible assumption) | assumption))
                            replace q28 := eq_true q28
                            refine start_ (n := 11) (S := fun w' => w'.cell? ⟨ad251.block, ad251.off + 2, none⟩ = some (.string (rdOf ByteArray.empty t246 2))) (ds := []) #[false, false, false, false, false, false, false, false, false, false, false] (by kernel_rfl) rfl rfl (hx255_0) (fun hHeld => ?_); refine with_tabW impl_ReadPlace.tab7 impl_ReadPlace.bits7 (fun HT_ HW_ => ?_)
                            generalize wc.drew = w31 at HO_4 BK245 HB hx255_0 hHeld ⊢
                            refine pure_ (i := 0) (N := some 45) (v := ?_) (a' := ?_) #[true, false, false, false, false, false, false, false, false, false, false] rfl rfl (any_of HT_.out (by kernel_rfl)) (fun _ _ _ h => h) (Or.inl ⟨by rfl, ?_⟩) ?_ ?_
                            rotate_left
                            · intro w'
                              go_simp
                              with_reducible rfl
                            rotate_left
                            · simp only [Act.put, List.setIfInBounds_toArray, List.set_cons_zero, List.set_cons_succ, i64_w, i32_w]
                              rfl
                            refine pure_ (i := 2) (N := some 47) (v := ?_) (a' := ?_) #[true, false, true, false, false, false, false, false, false, false, false] rfl rfl (any_of HT_.out (by kernel_rfl)) (fun _ _ _ h => h) (Or.inl ⟨by rfl, ?_⟩) ?_ ?_
                            rotate_left
                            · intro w'
                              go_simp
                              with_reducible rfl
                            rotate_left
                            · simp only [Act.put, List.setIfInBounds_toArray, List.set_cons_zero, List.set_cons_succ, i64_w, i32_w]
                              rfl
                            refine pure_ (i := 3) (N := some 48) (v := ?_) (a' := ?_) #[true, false, true, true, false, false, false, false, false, false, false] rfl rfl (any_of HT_.out (by kernel_rfl)) (fun _ _ _ h => h) (Or.inl ⟨by rfl, ?_⟩) ?_ ?_
                            rotate_left
                            · intro w'
                              go_simp
                              with_reducible rfl
                            rotate_left
                            · simp only [Act.put, List.setIfInBounds_toArray, List.set_cons_zero, List.set_cons_succ, i64_w, i32_w]
                              rfl
                            refine take_ (i := 4) (N := some 49) (v := ?_) (a' := ?_) #[true, false, true, true, true, false, false, false, false, false, false] rfl rfl (take_ofW HT_.out HW_.out (by kernel_rfl)) (fun _ _ _ h => h) (Or.inl ⟨by rfl, ?_⟩) hHeld ?_ ?_
                            rotate_left
                            · intro w' s0
                              go_simp
                              with_reducible rfl
                            rotate_left
                            · simp only [Act.put, List.setIfInBounds_toArray, List.set_cons_zero, List.set_cons_succ, i64_w, i32_w]
                              rfl
                            refine take_ (i := 5) (N := some 50) (v := ?_) (a' := ?_) #[true, false, true, true, true, true, false, false, false, false, false] rfl rfl (take_ofW HT_.out HW_.out (by kernel_rfl)) (fun _ _ _ h => h) (Or.inl ⟨by rfl, ?_⟩) hHeld ?_ ?_
                            rotate_left
                            · intro w' s0
                              go_simp
                              with_reducible rfl
                            rotate_left
                            · simp only [Act.put, List.setIfInBounds_toArray, List.set_cons_zero, List.set_cons_succ, i64_w, i32_w]
                              rfl
                            refine pure_ (i := 6) (N := some 51) (v := ?_) (a' := ?_) #[true, false, true, true, true, true, true, false, false, false, false] rfl rfl (any_of HT_.out (by kernel_rfl)) (fun _ _ _ h => h) (Or.inl ⟨by rfl, ?_⟩) ?_ ?_
                            rotate_left
                            · intro w'
                              go_simp
                              with_reducible rfl
                            rotate_left
                            · simp only [Act.put, List.setIfInBounds_toArray, List.set_cons_zero, List.set_cons_succ, i64_w, i32_w]
                              rfl
                            refine pure_ (i := 7) (N := some 52) (v := ?_) (a' := ?_) #[true, false, true, true, true, true, true, true, false, false, false] rfl rfl (any_of HT_.out (by kernel_rfl)) (fun _ _ _ h => h) (Or.inl ⟨by rfl, ?_⟩) ?_ ?_
                            rotate_left
                            · intro w'
                              go_simp
                              with_reducible rfl
                            rotate_left
                            · simp only [Act.put, List.setIfInBounds_toArray, List.set_cons_zero, List.set_cons_succ, i64_w, i32_w]
                              rfl
                            refine join_ (σ := Value × Nat) 1 #[true, true, true, true, true, true, true, true, true, true, false] (fun s_ => [(46, s_.1), (6, .pointer (some ⟨s_.2, 0, none⟩)), (53, .agg #[s_.1, .int .i64 (wrap64 ((wrap64 (bt (rdOf ByteArray.empty t246 2) 0)) - 48)), .slice none 0 0])]) (fun s_ w' => (w'.cell? ⟨ad251.block, ad251.off + 2, none⟩ = some (.string (rdOf ByteArray.empty t246 2))) ∧ (Kd.R (Kd.int .i64) 3 w' w.heap.size (fun _ => True) s_.1 y252) ∧ (Kd.R Kd.string 9 w' w.heap.size (fun _ => True) (.slice (some ad251) t246.length co19) t246) ∧ (w'.heap[gb245]? = some (.cells #[.slice none 0 0, .int .i64 0, .slice none 0 0] 36 (0, 0))) ∧ (w'.heap[s_.2]? = some (.cells #[.slice none 0 0, .int .i64 0, .slice none 0 0] 36 (0, 0))) ∧ (w.heap.size ≤ s_.2) ∧ (w.heap.size ≤ s_.2) ∧ (gb245 ≠ s_.2) ∧ (s_.2 ≠ gb245) ∧ (Below w.heap.size w w')) ?_ ?_
                            rotate_left
                            · intro hCont
                              refine two_ (i := 1) (j := 9) (Ni := some 46) (Nj := some 6) #[true, true, true, true, true, true, true, true, false, false, false] #[true, false, true, true, true, true, true, true, false, true, false] rfl rfl rfl rfl (two_of HT_.out (by kernel_rfl)) (by decide) (by decide) (fun K hK => ?_) (fun K hK => ?_)
                              · skip
                                refine Kd.R_make_step (Kd.int .i64) _ 3 (by rfl) (N := 46) rfl 34 _ _ rfl (ji23) rfl rfl Tryd.underlying34 (.int .i64 0) 8 info3 rfl (by decide) (by omega) 0 (ok := fun _ => True) (okp := fun _ => True) rfl (fun _ hk => hk) trivial (of_decide_eq_true (by first | (with_reducible assumption) | assumption)) (Nat.le_trans (Nat.mul_le_mul_right _ (of_decide_eq_true (by first | (with_reducible assumption) | assumption) : (ji23).toNat ≤ 35184372088832)) (by omega)) (Below.refl _ _) (Nat.le_refl _) ?_
                                intro v253 w32 ho33 hb hg_ hnew_
                                have HS0_ := (hb.cell (World.block_lt_of_cell? _ _ (hHeld))).trans (hHeld)
                                clear hg_ hnew_
                                (first | rw [← Ny252.out] at ho33 | (simp only [Int.reduceToNat] at ho33; rw [← Ny252.out] at ho33))
                                have n0_ := Aside0.mk (Kd.R_below (by (with_reducible repeat (first | apply Kd.R_alloc | apply Kd.R_drewN | apply Kd.R_drew)); exact HO_4.out) hb)
                                have n1_ := Aside0.mk (Kd.R_lower ho33 (below_size (by repeat (first | (with_reducible first | exact HB.out | apply below_alloc | apply pw_below_drewN | apply below_drew1 | refine below_set ?_ GE245.out) | exact HB.out))))
                                have n2_ := Aside0.mk (blk_below (g := gb245) (o := .cells #[.slice none 0 0, .int .i64 0, .slice none 0 0] 36 (0, 0)) (by (with_reducible repeat (first | refine blk_drewN ?_ _ | refine blk_drew ?_ | refine blk_alloc ?_ _)); exact BK245.out) hb)
                                have n3_ := Aside0.mk (below_step (by repeat (first | (with_reducible first | exact HB.out | apply below_alloc | apply pw_below_drewN | apply below_drew1 | refine below_set ?_ GE245.out) | exact HB.out)) hb)
                                clear HO_4
                                clear BK245
                                clear HB
                                have HO_4 := n0_
                                have HO254 := n1_
                                have BK245 := n2_
                                have HB := n3_
                                clear n0_ n1_ n2_ n3_
                                clear hb ho33
                                obtain ⟨Ao34, co34, eo34⟩ := Kd.R_slice HO254.out
                                (first | subst eo34 | (injection eo34 with f1_ f2_ f3_; have f4_ := f1_.symm; have f5_ := f3_.symm; clear f1_ f2_ f3_; subst f4_; subst f5_))
                                refine hK.out _ _ (HS0_) (fun hHeld => ?_)
                                clear hK K
                                refine norm_ (a' := ?_) ?_ ?_
                                rotate_left
                                · show Act.put _ (some 46) _ = _
                                  simp only [Act.put, List.setIfInBounds_toArray, List.set_cons_zero, List.set_cons_succ, i64_w, i32_w]
                                  rfl
                                refine pure_ (i := 8) (N := some 53) (v := ?_) (a' := ?_) #[true, true, true, true, true, true, true, true, true, false, false] rfl rfl (any_of HT_.out (by kernel_rfl)) (fun _ _ _ h => h) (Or.inl ⟨by rfl, ?_⟩) ?_ ?_
                                rotate_left
                                · intro w'
                                  go_simp
                                  with_reducible rfl
                                rotate_left
                                · simp only [Act.put, List.setIfInBounds_toArray, List.set_cons_zero, List.set_cons_succ, i64_w, i32_w]
                                  rfl
                                refine one_ (i := 9) (N := some 6) #[true, true, true, true, true, true, true, true, true, true, false] rfl rfl (one_of HT_.out (by kernel_rfl)) (by decide) (fun K hK => ?_)
                                refine box_step ?hg (N := 6) ?hd (cs := #[.slice none 0 0, .int .i64 0, .slice none 0 0]) (t := 36) ?hr ?_; (case hd => rfl); (case hg => rfl); (case hr => first | (go_simp; done) | (go_simp; rfl))
                                intro gb256 hg w35 hbox hb
                                have HS0_ := (hb.cell (World.block_lt_of_cell? _ _ (hHeld))).trans (hHeld)
                                have n0_ := Aside0.mk (Kd.R_below (by (with_reducible repeat (first | apply Kd.R_alloc | apply Kd.R_drewN | apply Kd.R_drew)); exact HO_4.out) hb)
                                have n1_ := Aside0.mk (Kd.R_below (by (with_reducible repeat (first | apply Kd.R_alloc | apply Kd.R_drewN | apply Kd.R_drew)); exact HO254.out) hb)
                                have n2_ := Aside0.mk (blk_below (g := gb245) (o := .cells #[.slice none 0 0, .int .i64 0, .slice none 0 0] 36 (0, 0)) (by (with_reducible repeat (first | refine blk_drewN ?_ _ | refine blk_drew ?_ | refine blk_alloc ?_ _)); exact BK245.out) hb)
                                have n3_ := Aside0.mk (below_step (by repeat (first | (with_reducible first | exact HB.out | apply below_alloc | apply pw_below_drewN | apply below_drew1 | refine below_set ?_ GE245.out) | exact HB.out)) hb)
                                have n4_ := Aside0.mk (hbox)
                                have n5_ := Aside0.mk ((by rw [hg]; exact (below_size (by repeat (first | (with_reducible first | exact HB.out | apply below_alloc | apply pw_below_drewN | apply below_drew1 | refine below_set ?_ GE245.out) | exact HB.out))) : w.heap.size ≤ gb256))
                                have n6_ := Aside0.mk ((by rw [hg]; exact (below_size (by repeat (first | (with_reducible first | exact HB.out | apply below_alloc | apply pw_below_drewN | apply below_drew1 | refine below_set ?_ GE245.out) | exact HB.out))) : w.heap.size ≤ gb256))
                                have n7_ := Aside0.mk ((by rw [hg]; exact Nat.ne_of_lt (blk_lt (g := gb245) (o := .cells #[.slice none 0 0, .int .i64 0, .slice none 0 0] 36 (0, 0)) (by (with_reducible repeat (first | refine blk_drewN ?_ _ | refine blk_drew ?_ | refine blk_alloc ?_ _)); exact BK245.out)) : gb245 ≠ gb256))
                                have n8_ := Aside0.mk ((by rw [hg]; exact Nat.ne_of_gt (blk_lt (g := gb245) (o := .cells #[.slice none 0 0, .int .i64 0, .slice none 0 0] 36 (0, 0)) (by (with_reducible repeat (first | refine blk_drewN ?_ _ | refine blk_drew ?_ | refine blk_alloc ?_ _)); exact BK245.out)) : gb256 ≠ gb245))
                                clear HO_4
                                clear HO254
                                clear BK245
                                clear HB
                                have HO_4 := n0_
                                have HO254 := n1_
                                have BK245 := n2_
                                have HB := n3_
                                have BK256 := n4_
                                have GW256 := n5_
                                have GE256 := n6_
                                have NB245_256 := n7_
                                have NB256_245 := n8_
                                clear n0_ n1_ n2_ n3_ n4_ n5_ n6_ n7_ n8_
                                clear hb hbox hg
                                refine hK.out _ _ (HS0_) (fun hHeld => ?_)
                                clear hK K
                                refine norm_ (a' := ?_) ?_ ?_
                                rotate_left
                                · show Act.put _ (some 6) _ = _
                                  simp only [Act.put, List.setIfInBounds_toArray, List.set_cons_zero, List.set_cons_succ, i64_w, i32_w]
                                  rfl
                                exact norm_ (by simp only [putAll, Act.put, List.setIfInBounds_toArray, List.set_cons_zero, List.set_cons_succ]) (hCont (.slice Ao34 y252.length co34, gb256) _ ⟨hHeld, (by (with_reducible repeat (first | apply Kd.R_alloc | apply Kd.R_drewN | apply Kd.R_drew)); exact HO254.out), (by (with_reducible repeat (first | apply Kd.R_alloc | apply Kd.R_drewN | apply Kd.R_drew)); exact HO_4.out), (by (with_reducible repeat (first | refine blk_drewN ?_ _ | refine blk_drew ?_ | refine blk_alloc ?_ _)); exact BK245.out), (by (with_reducible repeat (first | refine blk_drewN ?_ _ | refine blk_drew ?_ | refine blk_alloc ?_ _)); exact BK256.out), GW256.out, GE256.out, NB245_256.out, NB256_245.out, (by repeat (first | (with_reducible first | exact HB.out | apply below_alloc | apply pw_below_drewN | apply below_drew1 | refine below_set ?_ GE245.out | refine below_set ?_ GE256.out) | exact HB.out))⟩)
                              · skip
                                refine box_step ?hg (N := 6) ?hd (cs := #[.slice none 0 0, .int .i64 0, .slice none 0 0]) (t := 36) ?hr ?_; (case hd => rfl); (case hg => rfl); (case hr => first | (go_simp; done) | (go_simp; rfl))
                                intro gb256 hg w32 hbox hb
                                have HS0_ := (hb.cell (World.block_lt_of_cell? _ _ (hHeld))).trans (hHeld)
                                have n0_ := Aside0.mk (Kd.R_below (by (with_reducible repeat (first | apply Kd.R_alloc | apply Kd.R_drewN | apply Kd.R_drew)); exact HO_4.out) hb)
                                have n1_ := Aside0.mk (blk_below (g := gb245) (o := .cells #[.slice none 0 0, .int .i64 0, .slice none 0 0] 36 (0, 0)) (by (with_reducible repeat (first | refine blk_drewN ?_ _ | refine blk_drew ?_ | refine blk_alloc ?_ _)); exact BK245.out) hb)
                                have n2_ := Aside0.mk (below_step (by repeat (first | (with_reducible first | exact HB.out | apply below_alloc | apply pw_below_drewN | apply below_drew1 | refine below_set ?_ GE245.out) | exact HB.out)) hb)
                                have n3_ := Aside0.mk (hbox)
                                have n4_ := Aside0.mk ((by rw [hg]; exact (below_size (by repeat (first | (with_reducible first | exact HB.out | apply below_alloc | apply pw_below_drewN | apply below_drew1 | refine below_set ?_ GE245.out) | exact HB.out))) : w.heap.size ≤ gb256))
                                have n5_ := Aside0.mk ((by rw [hg]; exact (below_size (by repeat (first | (with_reducible first | exact HB.out | apply below_alloc | apply pw_below_drewN | apply below_drew1 | refine below_set ?_ GE245.out) | exact HB.out))) : w.heap.size ≤ gb256))
                                have n6_ := Aside0.mk ((by rw [hg]; exact Nat.ne_of_lt (blk_lt (g := gb245) (o := .cells #[.slice none 0 0, .int .i64 0, .slice none 0 0] 36 (0, 0)) (by (with_reducible repeat (first | refine blk_drewN ?_ _ | refine blk_drew ?_ | refine blk_alloc ?_ _)); exact BK245.out)) : gb245 ≠ gb256))
                                have n7_ := Aside0.mk ((by rw [hg]; exact Nat.ne_of_gt (blk_lt (g := gb245) (o := .cells #[.slice none 0 0, .int .i64 0, .slice none 0 0] 36 (0, 0)) (by (with_reducible repeat (first | refine blk_drewN ?_ _ | refine blk_drew ?_ | refine blk_alloc ?_ _)); exact BK245.out)) : gb256 ≠ gb245))
                                clear HO_4
                                clear BK245
                                clear HB
                                have HO_4 := n0_
                                have BK245 := n1_
                                have HB := n2_
                                have BK256 := n3_
                                have GW256 := n4_
                                have GE256 := n5_
                                have NB245_256 := n6_
                                have NB256_245 := n7_
                                clear n0_ n1_ n2_ n3_ n4_ n5_ n6_ n7_
                                clear hb hbox hg
                                refine hK.out _ _ (HS0_) (fun hHeld => ?_)
                                clear hK K
                                refine norm_ (a' := ?_) ?_ ?_
                                rotate_left
                                · show Act.put _ (some 6) _ = _
                                  simp only [Act.put, List.setIfInBounds_toArray, List.set_cons_zero, List.set_cons_succ, i64_w, i32_w]
                                  rfl
                                refine one_ (i := 1) (N := some 46) #[true, true, true, true, true, true, true, true, false, true, false] rfl rfl (one_of HT_.out (by kernel_rfl)) (by decide) (fun K hK => ?_)
                                refine Kd.R_make_step (Kd.int .i64) _ 3 (by rfl) (N := 46) rfl 34 _ _ rfl (ji23) rfl rfl Tryd.underlying34 (.int .i64 0) 8 info3 rfl (by decide) (by omega) 0 (ok := fun _ => True) (okp := fun _ => True) rfl (fun _ hk => hk) trivial (of_decide_eq_true (by first | (with_reducible assumption) | assumption)) (Nat.le_trans (Nat.mul_le_mul_right _ (of_decide_eq_true (by first | (with_reducible assumption) | assumption) : (ji23).toNat ≤ 35184372088832)) (by omega)) (Below.refl _ _) (Nat.le_refl _) ?_
                                intro v253 w33 ho34 hb hg_ hnew_
                                have HS0_ := (hb.cell (World.block_lt_of_cell? _ _ (hHeld))).trans (hHeld)
                                clear hg_ hnew_
                                (first | rw [← Ny252.out] at ho34 | (simp only [Int.reduceToNat] at ho34; rw [← Ny252.out] at ho34))
                                have n0_ := Aside0.mk (Kd.R_below (by (with_reducible repeat (first | apply Kd.R_alloc | apply Kd.R_drewN | apply Kd.R_drew)); exact HO_4.out) hb)
                                have n1_ := Aside0.mk (Kd.R_lower ho34 (below_size (by repeat (first | (with_reducible first | exact HB.out | apply below_alloc | apply pw_below_drewN | apply below_drew1 | refine below_set ?_ GE245.out | refine below_set ?_ GE256.out) | exact HB.out))))
                                have n2_ := Aside0.mk (blk_below (g := gb245) (o := .cells #[.slice none 0 0, .int .i64 0, .slice none 0 0] 36 (0, 0)) (by (with_reducible repeat (first | refine blk_drewN ?_ _ | refine blk_drew ?_ | refine blk_alloc ?_ _)); exact BK245.out) hb)
                                have n3_ := Aside0.mk (blk_below (g := gb256) (o := .cells #[.slice none 0 0, .int .i64 0, .slice none 0 0] 36 (0, 0)) (by (with_reducible repeat (first | refine blk_drewN ?_ _ | refine blk_drew ?_ | refine blk_alloc ?_ _)); exact BK256.out) hb)
                                have n4_ := Aside0.mk (below_step (by repeat (first | (with_reducible first | exact HB.out | apply below_alloc | apply pw_below_drewN | apply below_drew1 | refine below_set ?_ GE245.out | refine below_set ?_ GE256.out) | exact HB.out)) hb)
                                clear HO_4
                                clear BK245
                                clear BK256
                                clear HB
                                have HO_4 := n0_
                                have HO254 := n1_
                                have BK245 := n2_
                                have BK256 := n3_
                                have HB := n4_
                                clear n0_ n1_ n2_ n3_ n4_
                                clear hb ho34
                                obtain ⟨Ao35, co35, eo35⟩ := Kd.R_slice HO254.out
                                (first | subst eo35 | (injection eo35 with f1_ f2_ f3_; have f4_ := f1_.symm; have f5_ := f3_.symm; clear f1_ f2_ f3_; subst f4_; subst f5_))
                                refine hK.out _ _ (HS0_) (fun hHeld => ?_)
                                clear hK K
                                refine norm_ (a' := ?_) ?_ ?_
                                rotate_left
                                · show Act.put _ (some 46) _ = _
                                  simp only [Act.put, List.setIfInBounds_toArray, List.set_cons_zero, List.set_cons_succ, i64_w, i32_w]
                                  rfl
                                refine pure_ (i := 8) (N := some 53) (v := ?_) (a' := ?_) #[true, true, true, true, true, true, true, true, true, true, false] rfl rfl (any_of HT_.out (by kernel_rfl)) (fun _ _ _ h => h) (Or.inl ⟨by rfl, ?_⟩) ?_ ?_
                                rotate_left
                                · intro w'
                                  go_simp
                                  with_reducible rfl
                                rotate_left
                                · simp only [Act.put, List.setIfInBounds_toArray, List.set_cons_zero, List.set_cons_succ, i64_w, i32_w]
                                  rfl
                                exact norm_ (by simp only [putAll, Act.put, List.setIfInBounds_toArray, List.set_cons_zero, List.set_cons_succ]) (hCont (.slice Ao35 y252.length co35, gb256) _ ⟨hHeld, (by (with_reducible repeat (first | apply Kd.R_alloc | apply Kd.R_drewN | apply Kd.R_drew)); exact HO254.out), (by (with_reducible repeat (first | apply Kd.R_alloc | apply Kd.R_drewN | apply Kd.R_drew)); exact HO_4.out), (by (with_reducible repeat (first | refine blk_drewN ?_ _ | refine blk_drew ?_ | refine blk_alloc ?_ _)); exact BK245.out), (by (with_reducible repeat (first | refine blk_drewN ?_ _ | refine blk_drew ?_ | refine blk_alloc ?_ _)); exact BK256.out), GW256.out, GE256.out, NB245_256.out, NB256_245.out, (by repeat (first | (with_reducible first | exact HB.out | apply below_alloc | apply pw_below_drewN | apply below_drew1 | refine below_set ?_ GE245.out | refine below_set ?_ GE256.out) | exact HB.out))⟩)
                            rintro ⟨v253, gb256⟩ w36 ⟨hS_, h0_, h1_, h2_, h3_, h4_, h5_, h6_, h7_, h8_⟩
                            have n0_ : Aside0 (Kd.R (Kd.int .i64) 3 w36 w.heap.size (fun _ => True) v253 y252) := ⟨h0_⟩
                            have n1_ : Aside0 (Kd.R Kd.string 9 w36 w.heap.size (fun _ => True) (.slice (some ad251) t246.length co19) t246) := ⟨h1_⟩
                            have n2_ : Aside0 (w36.heap[gb245]? = some (.cells #[.slice none 0 0, .int .i64 0, .slice none 0 0] 36 (0, 0))) := ⟨h2_⟩
                            have n3_ : Aside0 (w36.heap[gb256]? = some (.cells #[.slice none 0 0, .int .i64 0, .slice none 0 0] 36 (0, 0))) := ⟨h3_⟩
                            have n4_ : Aside0 (w.heap.size ≤ gb256) := ⟨h4_⟩
                            have n5_ : Aside0 (w.heap.size ≤ gb256) := ⟨h5_⟩
                            have n6_ : Aside0 (gb245 ≠ gb256) := ⟨h6_⟩
                            have n7_ : Aside0 (gb256 ≠ gb245) := ⟨h7_⟩
                            have n8_ : Aside0 (Below w.heap.size w w36) := ⟨h8_⟩
                            clear HO_4
                            clear BK245
                            clear HB
                            clear h0_ h1_ h2_ h3_ h4_ h5_ h6_ h7_ h8_
                            have HO254 := n0_
                            have HO_4 := n1_
                            have BK245 := n2_
                            have BK256 := n3_
                            have GW256 := n4_
                            have GE256 := n5_
                            have NB245_256 := n6_
                            have NB256_245 := n7_
                            have HB := n8_
                            clear n0_ n1_ n2_ n3_ n4_ n5_ n6_ n7_ n8_
                            have hHeld : w36.cell? ⟨ad251.block, ad251.off + 2, none⟩ = some (.string (rdOf ByteArray.empty t246 2)) := hS_
                            obtain ⟨Ao37, co37, eo37⟩ := Kd.R_slice HO254.out
                            (first | subst eo37 | (injection eo37 with f1_ f2_ f3_; have f4_ := f1_.symm; have f5_ := f3_.symm; clear f1_ f2_ f3_; subst f4_; subst f5_))
                            refine norm_ (a' := ?_) ?_ ?_
                            rotate_left
                            · simp only [putAll, Act.put, List.setIfInBounds_toArray, List.set_cons_zero, List.set_cons_succ]
                              rfl
                            refine one_ (i := 10) (N := none) #[true, true, true, true, true, true, true, true, true, true, true] rfl rfl (one_of HT_.out (by kernel_rfl)) (by decide) (fun K hK => ?_)
                            have hs38 : w36.cell? ⟨gb256, 0, none⟩ = some (.slice none 0 0) := (blk_cell BK256.out 0).trans rfl
                            have hfs38 := blk_frozen BK256.out 0
                            have hns38_0 := NB245_256.out
                            have hms38_0 := NB256_245.out
                            have hs39 : w36.cell? ⟨gb256, 1, none⟩ = some (.int .i64 0) := (blk_cell BK256.out 1).trans rfl
                            have hfs39 := blk_frozen BK256.out 1
                            have hns39_0 := NB245_256.out
                            have hms39_0 := NB256_245.out
                            have hs40 : w36.cell? ⟨gb256, 2, none⟩ = some (.slice none 0 0) := (blk_cell BK256.out 2).trans rfl
                            have hfs40 := blk_frozen BK256.out 2
                            have hns40_0 := NB245_256.out
                            have hms40_0 := NB256_245.out
                            refine skip_ (w1 := ?_) (by rfl) rfl ?_ ?_
                            rotate_left
                            · go_simp
                              rfl
                            refine hK.out _ _ (((cell_far (p := ⟨gb256, _, none⟩) (by first | exact Kd.own_blk (Kd.R_ne HO_4.out BK256.out (by decide)) | (rw [add_block]; exact Kd.own_blk (Kd.R_ne HO_4.out BK256.out (by decide))) | (show (Addr.add _ _).block ≠ _; rw [add_block]; exact Kd.own_blk (Kd.R_ne HO_4.out BK256.out (by decide))) | (dsimp only; exact Kd.own_blk (Kd.R_ne HO_4.out BK256.out (by decide)))) _).trans (((cell_far (p := ⟨gb256, _, none⟩) (by first | exact Kd.own_blk (Kd.R_ne HO_4.out BK256.out (by decide)) | (rw [add_block]; exact Kd.own_blk (Kd.R_ne HO_4.out BK256.out (by decide))) | (show (Addr.add _ _).block ≠ _; rw [add_block]; exact Kd.own_blk (Kd.R_ne HO_4.out BK256.out (by decide))) | (dsimp only; exact Kd.own_blk (Kd.R_ne HO_4.out BK256.out (by decide)))) _).trans (((cell_far (p := ⟨gb256, _, none⟩) (by first | exact Kd.own_blk (Kd.R_ne HO_4.out BK256.out (by decide)) | (rw [add_block]; exact Kd.own_blk (Kd.R_ne HO_4.out BK256.out (by decide))) | (show (Addr.add _ _).block ≠ _; rw [add_block]; exact Kd.own_blk (Kd.R_ne HO_4.out BK256.out (by decide))) | (dsimp only; exact Kd.own_blk (Kd.R_ne HO_4.out BK256.out (by decide)))) _).trans (hHeld))))))) (fun hHeld => ?_)
                            clear hK K
                            refine done_ (done_of HT_.out (by kernel_rfl)) ?_
                            have p257 : 0 ≤ (1 : Int) := (by omega)
                            have q257 : 1 < (t246.length : Int) := of_decide_eq_true (by first | (with_reducible assumption) | assumption)
                            obtain ⟨ad257, e257, hx257_0⟩ := Kd.at_string (Kd.R_reads' HO_4.out).2.2 1 p257 q257
                            obtain rfl : ad251 = ad257 := (by injection e257)
                            (try simp only [show (1 : Int).toNat = 1 from rfl, Nat.reduceMul, Nat.reduceEqDiff, Go.Addr.add, ↓reduceIte] at hx257_0)
                            have qi257 : (1 < t246.length) = True := eq_true (by omega)
                            (try rw [show ((1 : Int)).toNat = 1 from rfl] at hx257_0)
                            have hn257_0 : ad251.block ≠ gb256 := Kd.own_blk (Kd.R_ne HO_4.out BK256.out (by decide))
                            have hn257_1 : ad251.block ≠ gb256 := Kd.own_blk (Kd.R_ne HO_4.out BK256.out (by decide))
                            have hn257_2 : ad251.block ≠ gb256 := Kd.own_blk (Kd.R_ne HO_4.out BK256.out (by decide))
                            replace hx257_0 := (cell_far (p := ⟨gb256, 0, none⟩) (by first | (rw [add_block]; exact hn257_0) | (show (Addr.add _ _).block ≠ _; rw [add_block]; exact hn257_0) | exact hn257_0) (.slice Ao37 y252.length co37)).trans hx257_0
                            replace hx257_0 := (cell_far (p := ⟨gb256, 1, none⟩) (by first | (rw [add_block]; exact hn257_1) | (show (Addr.add _ _).block ≠ _; rw [add_block]; exact hn257_1) | exact hn257_1) (.int .i64 (wrap64 ((wrap64 (bt (rdOf ByteArray.empty t246 2) 0)) - 48)))).trans hx257_0
                            replace hx257_0 := (cell_far (p := ⟨gb256, 2, none⟩) (by first | (rw [add_block]; exact hn257_2) | (show (Addr.add _ _).block ≠ _; rw [add_block]; exact hn257_2) | exact hn257_2) (.slice none 0 0)).trans hx257_0
                            clear hn257_0
                            clear hn257_1
                            clear hn257_2
                            replace p257 := eq_true p257
                            replace q257 := eq_true q257
                            go_upto_if 57 with (fail)
                            go_cut [] (fun wc => ∃ (kq : Nat) (x246001_29 : Int) (x257000_29 : List Int) (u257000 : Value), Aside0 (impl_ReadPlace.j3 kq a0 t246 x257000_29 (wrap64 ((wrap64 (bt (rdOf ByteArray.empty t246 2) 0)) - 48)) = some (r1, r2, r3, r4)) ∧ Aside0 (kq ≤ kj17) ∧ Aside0 (Kd.R Kd.string 9 wc w.heap.size (fun _ => True) (.slice (some ad251) t246.length co19) t246) ∧ Aside0 (Kd.R (Kd.int .i64) 3 wc w.heap.size (fun _ => True) u257000 x257000_29) ∧ Aside0 (wc.heap[gb245]? = some (.cells #[(.slice none 0 0), .int .i64 x246001_29, (.slice none 0 0)] 36 (0, 0))) ∧ Aside0 (wc.heap[gb256]? = some (.cells #[u257000, .int .i64 (wrap64 ((wrap64 (bt (rdOf ByteArray.empty t246 2) 0)) - 48)), (.slice none 0 0)] 36 (0, 0))) ∧ Aside0 (Below w.heap.size w wc))
                            case first =>
                              have H := HC30.out
                              clear HC30
                              by_cases c41 : (rdOf ByteArray.empty t246 1).toList = ([46] : List UInt8)
                              · rw [if_pos c41] at H
                                have c41b0 : ((rdOf ByteArray.empty t246 1).toList == ([46] : List UInt8)) = true := beq_iff_eq.mpr c41
                                have c41b1 : ((rdOf ByteArray.empty t246 1).toList != ([46] : List UInt8)) = false := bne_eq_false_iff_eq.mpr c41
                                clear c41
                                (first | rw [c41b0] | (simp only [i64_w, i32_w]; rw [c41b0]) | skip)
                                have H' := Aside0.mk H
                                clear H
                                go_wp2
                                subst hji23
                                go_meet
                                case rel => exact ⟨_, (0), (y252), (.slice Ao37 y252.length co37), H', ⟨by have := HJ2.out; have := HJ17.out; first | omega | exact Nat.le_refl _⟩, ⟨by (with_reducible repeat (first | apply Kd.R_alloc | apply Kd.R_drewN | apply Kd.R_drew)); exact Kd.R_mono (Kd.R_far (p := ⟨gb256, 2, none⟩) (Kd.R_far (p := ⟨gb256, 1, none⟩) (Kd.R_far (p := ⟨gb256, 0, none⟩) (Kd.R_types HO_4.out BK256.out (by decide)) (fun _ hk => hk.2) (.slice Ao37 y252.length co37)) (fun _ hk => hk.2) (.int .i64 (wrap64 ((wrap64 (bt (rdOf ByteArray.empty t246 2) 0)) - 48)))) (fun _ hk => hk.2) (.slice none 0 0)) (fun _ hk => trivial)⟩, ⟨by (with_reducible repeat (first | apply Kd.R_alloc | apply Kd.R_drewN | apply Kd.R_drew)); exact Kd.R_mono (Kd.R_far (p := ⟨gb256, 2, none⟩) (Kd.R_far (p := ⟨gb256, 1, none⟩) (Kd.R_far (p := ⟨gb256, 0, none⟩) (Kd.R_types HO254.out BK256.out (by decide)) (fun _ hk => hk.2) (.slice Ao37 y252.length co37)) (fun _ hk => hk.2) (.int .i64 (wrap64 ((wrap64 (bt (rdOf ByteArray.empty t246 2) 0)) - 48)))) (fun _ hk => hk.2) (.slice none 0 0)) (fun _ hk => trivial)⟩, ⟨by (with_reducible repeat (first | refine blk_drewN ?_ _ | refine blk_drew ?_ | refine blk_alloc ?_ _)); refine blk_far ?_ NB245_256.out _; (with_reducible repeat (first | refine blk_drewN ?_ _ | refine blk_drew ?_ | refine blk_alloc ?_ _)); refine blk_far ?_ NB245_256.out _; (with_reducible repeat (first | refine blk_drewN ?_ _ | refine blk_drew ?_ | refine blk_alloc ?_ _)); refine blk_far ?_ NB245_256.out _; (with_reducible repeat (first | refine blk_drewN ?_ _ | refine blk_drew ?_ | refine blk_alloc ?_ _)); exact BK245.out⟩, ⟨by (with_reducible repeat (first | refine blk_drewN ?_ _ | refine blk_drew ?_ | refine blk_alloc ?_ _)); refine blk_put (cs := #[.slice Ao37 y252.length co37, .int .i64 (wrap64 ((wrap64 (bt (rdOf ByteArray.empty t246 2) 0)) - 48)), .slice none 0 0]) ?_ 2 _ rfl; (with_reducible repeat (first | refine blk_drewN ?_ _ | refine blk_drew ?_ | refine blk_alloc ?_ _)); refine blk_put (cs := #[.slice Ao37 y252.length co37, .int .i64 0, .slice none 0 0]) ?_ 1 _ rfl; (with_reducible repeat (first | refine blk_drewN ?_ _ | refine blk_drew ?_ | refine blk_alloc ?_ _)); refine blk_put (cs := #[.slice none 0 0, .int .i64 0, .slice none 0 0]) ?_ 0 _ rfl; (with_reducible repeat (first | refine blk_drewN ?_ _ | refine blk_drew ?_ | refine blk_alloc ?_ _)); exact BK256.out⟩, ⟨by repeat (first | (with_reducible first | exact HB.out | apply below_alloc | apply pw_below_drewN | apply below_drew1 | refine below_set ?_ GE245.out | refine below_set ?_ GE256.out) | exact HB.out)⟩⟩
                              · rw [if_neg c41] at H
                                have c41b0 : ((rdOf ByteArray.empty t246 1).toList == ([46] : List UInt8)) = false := beq_eq_false_iff_ne.mpr c41
                                have c41b1 : ((rdOf ByteArray.empty t246 1).toList != ([46] : List UInt8)) = true := bne_iff_ne.mpr c41
                                (first | rw [c41b0] | (simp only [i64_w, i32_w]; rw [c41b0]) | skip)
                                replace H := Option.bind_eq_some_iff.mp H
                                obtain ⟨t259, A420, H⟩ := H
                                replace H : (impl_ReadPlace.l0 kj17 a0 t246 (ji23) t259 (t259.length : Int) 0 y252 (wrap64 ((wrap64 (bt (rdOf ByteArray.empty t246 2) 0)) - 48))) = some (r1, r2, r3, r4) := H
                                have A42 := Aside0.mk A420
                                clear A420
                                have H' := Aside0.mk H
                                clear H
                                have p258 : 0 ≤ (1 : Int) := (by omega)
                                have q258 : 1 < (t246.length : Int) := of_decide_eq_true (by first | (with_reducible assumption) | assumption)
                                obtain ⟨ad258, e258, hx258_0⟩ := Kd.at_string (Kd.R_reads' HO_4.out).2.2 1 p258 q258
                                obtain rfl : ad251 = ad258 := (by injection e258)
                                (try simp only [show (1 : Int).toNat = 1 from rfl, Nat.reduceMul, Nat.reduceEqDiff, Go.Addr.add, ↓reduceIte] at hx258_0)
                                have qi258 : (1 < t246.length) = True := eq_true (by omega)
                                (try rw [show ((1 : Int)).toNat = 1 from rfl] at hx258_0)
                                have hn258_0 : ad251.block ≠ gb256 := Kd.own_blk (Kd.R_ne HO_4.out BK256.out (by decide))
                                have hn258_1 : ad251.block ≠ gb256 := Kd.own_blk (Kd.R_ne HO_4.out BK256.out (by decide))
                                have hn258_2 : ad251.block ≠ gb256 := Kd.own_blk (Kd.R_ne HO_4.out BK256.out (by decide))
                                replace hx258_0 := (cell_far (p := ⟨gb256, 0, none⟩) (by first | (rw [add_block]; exact hn258_0) | (show (Addr.add _ _).block ≠ _; rw [add_block]; exact hn258_0) | exact hn258_0) (.slice Ao37 y252.length co37)).trans hx258_0
                                replace hx258_0 := (cell_far (p := ⟨gb256, 1, none⟩) (by first | (rw [add_block]; exact hn258_1) | (show (Addr.add _ _).block ≠ _; rw [add_block]; exact hn258_1) | exact hn258_1) (.int .i64 (wrap64 ((wrap64 (bt (rdOf ByteArray.empty t246 2) 0)) - 48)))).trans hx258_0
                                replace hx258_0 := (cell_far (p := ⟨gb256, 2, none⟩) (by first | (rw [add_block]; exact hn258_2) | (show (Addr.add _ _).block ≠ _; rw [add_block]; exact hn258_2) | exact hn258_2) (.slice none 0 0)).trans hx258_0
                                clear hn258_0
                                clear hn258_1
                                clear hn258_2
                                replace p258 := eq_true p258
                                replace q258 := eq_true q258
                                go_wp2_with (first | ((with_reducible refine gate_callee (f := 25) rfl ?_); refine goesL_ (some 61) rfl rfl Tryd.func25 (by kernel_rfl) rfl #[.string (rdOf ByteArray.empty t246 1), .string (⟨#[44]⟩ : ByteArray)] rfl (by (try simp only [List.map_toArray, List.map_cons, List.map_nil]); first | done | rfl | (simp only [List.length_drop, List.length_take]; rfl)) ?_; (with_reducible refine (strings_Split.calls kj17 (rdOf ByteArray.empty t246 1) (⟨#[44]⟩ : ByteArray) t259 _ A42.out).mono ?_); rintro e w43 ⟨v260, rfl, ho0, hb⟩; refine ⟨_, rfl, ?_⟩; have n0_ := Aside0.mk (Kd.R_elder' (by (with_reducible repeat (first | apply Kd.R_alloc | apply Kd.R_drewN | apply Kd.R_drew)); exact (Kd.R_mono (Kd.R_far (p := ⟨gb256, 2, none⟩) (Kd.R_far (p := ⟨gb256, 1, none⟩) (Kd.R_far (p := ⟨gb256, 0, none⟩) (Kd.R_types HO_4.out BK256.out (by decide)) (fun _ hk => hk.2) (.slice Ao37 y252.length co37)) (fun _ hk => hk.2) (.int .i64 (wrap64 ((wrap64 (bt (rdOf ByteArray.empty t246 2) 0)) - 48)))) (fun _ hk => hk.2) (.slice none 0 0)) (fun _ h_ => h_.1))) (Kd.R_base ho0) hb); have n1_ := Aside0.mk (Kd.R_below (by (with_reducible repeat (first | apply Kd.R_alloc | apply Kd.R_drewN | apply Kd.R_drew)); exact (Kd.R_mono (Kd.R_far (p := ⟨gb256, 2, none⟩) (Kd.R_far (p := ⟨gb256, 1, none⟩) (Kd.R_far (p := ⟨gb256, 0, none⟩) (Kd.R_types HO254.out BK256.out (by decide)) (fun _ hk => hk.2) (.slice Ao37 y252.length co37)) (fun _ hk => hk.2) (.int .i64 (wrap64 ((wrap64 (bt (rdOf ByteArray.empty t246 2) 0)) - 48)))) (fun _ hk => hk.2) (.slice none 0 0)) (fun _ h_ => h_.1))) hb); have n2_ := Aside0.mk (Kd.R_lower (Kd.R_new' ho0 (Kd.R_lt (by (with_reducible repeat (first | apply Kd.R_alloc | apply Kd.R_drewN | apply Kd.R_drew)); exact (Kd.R_mono (Kd.R_far (p := ⟨gb256, 2, none⟩) (Kd.R_far (p := ⟨gb256, 1, none⟩) (Kd.R_far (p := ⟨gb256, 0, none⟩) (Kd.R_types HO_4.out BK256.out (by decide)) (fun _ hk => hk.2) (.slice Ao37 y252.length co37)) (fun _ hk => hk.2) (.int .i64 (wrap64 ((wrap64 (bt (rdOf ByteArray.empty t246 2) 0)) - 48)))) (fun _ hk => hk.2) (.slice none 0 0)) (fun _ h_ => h_.1))))) (below_size (by repeat (first | (with_reducible first | exact HB.out | apply below_alloc | apply pw_below_drewN | apply below_drew1 | refine below_set ?_ GE245.out | refine below_set ?_ GE256.out) | exact HB.out)))); have n3_ := Aside0.mk (blk_below (g := gb245) (o := .cells #[.slice none 0 0, .int .i64 0, .slice none 0 0] 36 (0, 0)) (by (with_reducible repeat (first | refine blk_drewN ?_ _ | refine blk_drew ?_ | refine blk_alloc ?_ _)); refine blk_far ?_ NB245_256.out _; (with_reducible repeat (first | refine blk_drewN ?_ _ | refine blk_drew ?_ | refine blk_alloc ?_ _)); refine blk_far ?_ NB245_256.out _; (with_reducible repeat (first | refine blk_drewN ?_ _ | refine blk_drew ?_ | refine blk_alloc ?_ _)); refine blk_far ?_ NB245_256.out _; (with_reducible repeat (first | refine blk_drewN ?_ _ | refine blk_drew ?_ | refine blk_alloc ?_ _)); exact BK245.out) hb); have n4_ := Aside0.mk (blk_below (g := gb256) (o := .cells #[.slice Ao37 y252.length co37, .int .i64 (wrap64 ((wrap64 (bt (rdOf ByteArray.empty t246 2) 0)) - 48)), .slice none 0 0] 36 (0, 0)) (by (with_reducible repeat (first | refine blk_drewN ?_ _ | refine blk_drew ?_ | refine blk_alloc ?_ _)); refine blk_put (cs := #[.slice Ao37 y252.length co37, .int .i64 (wrap64 ((wrap64 (bt (rdOf ByteArray.empty t246 2) 0)) - 48)), .slice none 0 0]) ?_ 2 _ rfl; (with_reducible repeat (first | refine blk_drewN ?_ _ | refine blk_drew ?_ | refine blk_alloc ?_ _)); refine blk_put (cs := #[.slice Ao37 y252.length co37, .int .i64 0, .slice none 0 0]) ?_ 1 _ rfl; (with_reducible repeat (first | refine blk_drewN ?_ _ | refine blk_drew ?_ | refine blk_alloc ?_ _)); refine blk_put (cs := #[.slice none 0 0, .int .i64 0, .slice none 0 0]) ?_ 0 _ rfl; (with_reducible repeat (first | refine blk_drewN ?_ _ | refine blk_drew ?_ | refine blk_alloc ?_ _)); exact BK256.out) hb); have n5_ := Aside0.mk (below_step (by repeat (first | (with_reducible first | exact HB.out | apply below_alloc | apply pw_below_drewN | apply below_drew1 | refine below_set ?_ GE245.out | refine below_set ?_ GE256.out) | exact HB.out)) hb); clear HO_4; clear HO254; clear BK245; clear BK256; clear HB; have HO_4 := n0_; have HO254 := n1_; have HO261 := n2_; have BK245 := n3_; have BK256 := n4_; have HB := n5_; clear n0_ n1_ n2_ n3_ n4_ n5_; (try clear hb); (try clear hb2); (try clear hk); (try clear hi); (try clear ho0); obtain ⟨Ao44, co44, eo44⟩ := Kd.R_slice HO261.out; subst eo44))
                                go_loopg [63] kj17 (fun kq v63 w' => ∃ (x63_3 : Int) (x246001_3 : Int) (x257000_3 : List Int) (u257000 : Value), v63 = .int .i64 x63_3 ∧ Aside0 (impl_ReadPlace.l0 kq a0 t246 (ji23) t259 (t259.length : Int) x63_3 x257000_3 (wrap64 ((wrap64 (bt (rdOf ByteArray.empty t246 2) 0)) - 48)) = some (r1, r2, r3, r4)) ∧ Aside0 (kq ≤ kj17) ∧ Aside0 (Kd.R Kd.string 9 w' w.heap.size (fun k_ => some k_ ≠ ((.slice Ao44 t259.length co44) : Value).ownBlock) (.slice (some ad251) t246.length co19) t246) ∧ Aside0 (Kd.R Kd.string 9 w' w.heap.size (fun k_ => some k_ ≠ ((.slice (some ad251) t246.length co19) : Value).ownBlock) (.slice Ao44 t259.length co44) t259) ∧ Aside0 (Kd.R (Kd.int .i64) 3 w' w.heap.size (fun _ => True) u257000 x257000_3) ∧ Aside0 (w'.heap[gb245]? = some (.cells #[(.slice none 0 0), .int .i64 x246001_3, (.slice none 0 0)] 36 (0, 0))) ∧ Aside0 (w'.heap[gb256]? = some (.cells #[u257000, .int .i64 (wrap64 ((wrap64 (bt (rdOf ByteArray.empty t246 2) 0)) - 48)), (.slice none 0 0)] 36 (0, 0))) ∧ Aside0 (Below w.heap.size w w'))
                                case atStart => exact ⟨(0), (0), (y252), (.slice Ao37 y252.length co37), (by first | rfl | (simp; done) | (simp [*]; done)), H', ⟨Nat.le_refl _⟩, ⟨by (with_reducible repeat (first | apply Kd.R_alloc | apply Kd.R_drewN | apply Kd.R_drew)); exact Kd.R_mono HO_4.out (fun _ hk => hk.2)⟩, ⟨by (with_reducible repeat (first | apply Kd.R_alloc | apply Kd.R_drewN | apply Kd.R_drew)); exact Kd.R_mono HO261.out (fun _ hk => hk.2)⟩, ⟨by (with_reducible repeat (first | apply Kd.R_alloc | apply Kd.R_drewN | apply Kd.R_drew)); exact HO254.out⟩, ⟨by (with_reducible repeat (first | refine blk_drewN ?_ _ | refine blk_drew ?_ | refine blk_alloc ?_ _)); exact BK245.out⟩, ⟨by (with_reducible repeat (first | refine blk_drewN ?_ _ | refine blk_drew ?_ | refine blk_alloc ?_ _)); exact BK256.out⟩, ⟨by repeat (first | (with_reducible first | exact HB.out | apply below_alloc | apply pw_below_drewN | apply below_drew1 | refine below_set ?_ GE245.out | refine below_set ?_ GE256.out) | exact HB.out)⟩⟩
                                case round =>
                                  clear H'
                                  try clear c1
                                  try clear p1
                                  try clear q1
                                  try clear hx1
                                  try clear qi1
                                  try clear c2
                                  try clear p2
                                  try clear q2
                                  try clear hx2
                                  try clear qi2
                                  try clear c4
                                  try clear c6
                                  try clear c6b0
                                  try clear c6b1
                                  try clear p6
                                  try clear c7
                                  try clear c7b0
                                  try clear c7b1
                                  try clear c8
                                  try clear c8b0
                                  try clear c8b1
                                  try clear c9
                                  try clear c9b0
                                  try clear c9b1
                                  try clear c13
                                  try clear c15
                                  try clear c15b0
                                  try clear c15b1
                                  try clear c16
                                  try clear c16b0
                                  try clear c16b1
                                  try clear c17
                                  try clear p17
                                  try clear q17
                                  try clear hx17
                                  try clear qi17
                                  try clear c20
                                  try clear c20b0
                                  try clear c21
                                  try clear c24
                                  try clear c24b0
                                  try clear c24b1
                                  try clear p24
                                  try clear q24
                                  try clear hx24
                                  try clear c25
                                  try clear c25b0
                                  try clear c25b1
                                  try clear p25
                                  try clear q25
                                  try clear hx25
                                  try clear qi25
                                  try clear c26
                                  try clear c26b0
                                  try clear c26b1
                                  try clear c27
                                  try clear c27b0
                                  try clear c27b1
                                  try clear p28
                                  try clear q28
                                  try clear hx28
                                  try clear qi28
                                  try clear c29
                                  try clear c29b0
                                  try clear c29b1
                                  try clear c41
                                  try clear c41b0
                                  try clear c41b1
                                  try clear hcz14_0
                                  try clear hcz14_1
                                  try clear hcz14_2
                                  try clear hcz22_0
                                  try clear hcz22_1
                                  try clear hcz22_2
                                  try clear hfz14_0
                                  try clear hfz14_1
                                  try clear hfz14_2
                                  try clear hfz22_0
                                  try clear hfz22_1
                                  try clear hfz22_2
                                  try clear hx249_0
                                  try clear hx250_0
                                  try clear hx251_0
                                  try clear hx255_0
                                  try clear hx257_0
                                  try clear hx258_0
                                  try clear p1
                                  try clear p17
                                  try clear p2
                                  try clear p249
                                  try clear p250
                                  try clear p251
                                  try clear p255
                                  try clear p257
                                  try clear p258
                                  try clear p28
                                  try clear p6
                                  try clear q1
                                  try clear q17
                                  try clear q2
                                  try clear q249
                                  try clear q250
                                  try clear q251
                                  try clear q255
                                  try clear q257
                                  try clear q258
                                  try clear q28
                                  obtain ⟨x63_3, x246001_3, x257000_3, u257000, rfl, HA, HK3, HO_4, HO_61, HO_257000, BK245, BK256, HB⟩ := hrel
                                  cases gk with
                                  | zero => exact absurd HA.out (by simp [impl_ReadPlace.l0])
                                  | succ k3 =>
                                    have H := HA.out
                                    clear HA
                                    simp only [impl_ReadPlace.l0] at H
                                    by_cases c45 : x63_3 < (t259.length : Int)
                                    · rw [if_pos c45] at H
                                      have c45b0 : decide (x63_3 < (t259.length : Int)) = true := decide_eq_true c45
                                      clear c45
                                      by_cases c46 : 0 ≤ x63_3
                                      · rw [if_pos c46] at H
                                        have c46b0 : decide (0 ≤ x63_3) = true := decide_eq_true c46
                                        clear c46
                                        by_cases c47 : x63_3 < (t259.length : Int)
                                        · rw [if_pos c47] at H
                                          have c47b0 : decide (x63_3 < (t259.length : Int)) = true := decide_eq_true c47
                                          clear c47
                                          by_cases c48 : ((rdOf ByteArray.empty t259 x63_3).size : Int) = 2
                                          · rw [if_pos c48] at H
                                            have c48b0 : (((rdOf ByteArray.empty t259 x63_3).size : Int) == 2) = true := beq_iff_eq.mpr c48
                                            have c48b1 : (((rdOf ByteArray.empty t259 x63_3).size : Int) != 2) = false := bne_eq_false_iff_eq.mpr c48
                                            clear c48
                                            by_cases c49 : 0 < ((rdOf ByteArray.empty t259 x63_3).size : Int)
                                            · rw [if_pos c49] at H
                                              have c49b0 : decide (0 < ((rdOf ByteArray.empty t259 x63_3).size : Int)) = true := decide_eq_true c49
                                              have c49b1 : decide (0 < (rdOf ByteArray.empty t259 x63_3).size) = true := decide_eq_true (by omega)
                                              clear c49
                                              by_cases c51 : 1 < ((rdOf ByteArray.empty t259 x63_3).size : Int)
                                              · rw [if_pos c51] at H
                                                have c51b0 : decide (1 < ((rdOf ByteArray.empty t259 x63_3).size : Int)) = true := decide_eq_true c51
                                                have c51b1 : decide (1 < (rdOf ByteArray.empty t259 x63_3).size) = true := decide_eq_true (by omega)
                                                clear c51
                                                by_cases c53 : (wrap64 ((wrap64 (bt (rdOf ByteArray.empty t259 x63_3) 0)) - 48)) < 0
                                                · rw [if_pos c53] at H
                                                  have c53b0 : decide ((wrap64 ((wrap64 (bt (rdOf ByteArray.empty t259 x63_3) 0)) - 48)) < 0) = true := decide_eq_true c53
                                                  clear c53
                                                  simp only [Option.some.injEq, Prod.mk.injEq] at H
                                                  obtain ⟨rfl, rfl, rfl, rfl⟩ := H
                                                  have p262 : 0 ≤ (x63_3 : Int) := of_decide_eq_true (by first | (with_reducible assumption) | assumption)
                                                  have q262 : x63_3 < (t259.length : Int) := of_decide_eq_true (by first | (with_reducible assumption) | assumption)
                                                  obtain ⟨ad262, e262, hx262_0⟩ := Kd.at_string (Kd.R_reads' HO_61.out).2.2 x63_3 p262 q262
                                                  cases e262
                                                  replace p262 := eq_true p262
                                                  replace q262 := eq_true q262
                                                  try go_wp2
                                                  have n0_ := Aside0.mk (Kd.R_drew HO_4.out)
                                                  have n1_ := Aside0.mk (Kd.R_drew HO_61.out)
                                                  have n2_ := Aside0.mk (Kd.R_drew HO_257000.out)
                                                  have n3_ := Aside0.mk (blk_drew BK245.out)
                                                  have n4_ := Aside0.mk (blk_drew BK256.out)
                                                  have n5_ := Aside0.mk (below_drew1 HB.out)
                                                  clear HO_4
                                                  clear HO_61
                                                  clear HO_257000
                                                  clear BK245
                                                  clear BK256
                                                  clear HB
                                                  have HO_4 := n0_
                                                  have HO_61 := n1_
                                                  have HO_257000 := n2_
                                                  have BK245 := n3_
                                                  have BK256 := n4_
                                                  have HB := n5_
                                                  clear n0_ n1_ n2_ n3_ n4_ n5_
                                                  have p50 : 0 ≤ (0 : Int) := (by omega)
                                                  have q50 : 0 < (rdOf ByteArray.empty t259 x63_3).size := (by have : (0 : Int) < ((rdOf ByteArray.empty t259 x63_3).size : Int) := of_decide_eq_true (by first | (with_reducible assumption) | assumption); omega)
                                                  have hx50 : ∀ h : 0 < (rdOf ByteArray.empty t259 x63_3).size, (((rdOf ByteArray.empty t259 x63_3)[0]'h).toNat : Int) = bt (rdOf ByteArray.empty t259 x63_3) 0 := bt_at (rdOf ByteArray.empty t259 x63_3) 0
                                                  clear p50
                                                  have qi50 : (0 < ((rdOf ByteArray.empty t259 x63_3).size : Int)) = True := eq_true (of_decide_eq_true (by first | (with_reducible assumption) | assumption))
                                                  replace q50 := eq_true q50
                                                  have p52 : 0 ≤ (1 : Int) := (by omega)
                                                  have q52 : 1 < (rdOf ByteArray.empty t259 x63_3).size := (by have : (1 : Int) < ((rdOf ByteArray.empty t259 x63_3).size : Int) := of_decide_eq_true (by first | (with_reducible assumption) | assumption); omega)
                                                  have hx52 : ∀ h : 1 < (rdOf ByteArray.empty t259 x63_3).size, (((rdOf ByteArray.empty t259 x63_3)[1]'h).toNat : Int) = bt (rdOf ByteArray.empty t259 x63_3) 1 := bt_at (rdOf ByteArray.empty t259 x63_3) 1
                                                  clear p52
                                                  have qi52 : (1 < ((rdOf ByteArray.empty t259 x63_3).size : Int)) = True := eq_true (of_decide_eq_true (by first | (with_reducible assumption) | assumption))
                                                  replace q52 := eq_true q52
                                                  refine start_ (n := 10) (S := fun w' => True) (ds := []) #[false, false, false, false, false, false, false, false, false, false] (by kernel_rfl) rfl rfl trivial (fun hHeld => ?_); refine with_tabW impl_ReadPlace.tab14 impl_ReadPlace.bits14 (fun HT_ HW_ => ?_)
                                                  generalize wr.drew = w54 at HO_4 HO_61 HO_257000 BK245 BK256 HB hHeld ⊢
                                                  refine pure_ (i := 0) (N := some 71) (v := ?_) (a' := ?_) #[true, false, false, false, false, false, false, false, false, false] rfl rfl (any_of HT_.out (by kernel_rfl)) (fun _ _ _ h => h) (Or.inl ⟨by rfl, ?_⟩) ?_ ?_
                                                  rotate_left
                                                  · intro w'
                                                    go_simp
                                                    with_reducible rfl
                                                  rotate_left
                                                  · simp only [Act.put, List.setIfInBounds_toArray, List.set_cons_zero, List.set_cons_succ, i64_w, i32_w]
                                                    rfl
                                                  refine pure_ (i := 4) (N := some 75) (v := ?_) (a' := ?_) #[true, false, false, false, true, false, false, false, false, false] rfl rfl (any_of HT_.out (by kernel_rfl)) (fun _ _ _ h => h) (Or.inl ⟨by rfl, ?_⟩) ?_ ?_
                                                  rotate_left
                                                  · intro w'
                                                    go_simp
                                                    with_reducible rfl
                                                  rotate_left
                                                  · simp only [Act.put, List.setIfInBounds_toArray, List.set_cons_zero, List.set_cons_succ, i64_w, i32_w]
                                                    rfl
                                                  refine take_ (i := 1) (N := some 72) (v := ?_) (a' := ?_) #[true, true, false, false, true, false, false, false, false, false] rfl rfl (take_ofW HT_.out HW_.out (by kernel_rfl)) (fun _ _ _ h => h) (Or.inl ⟨by rfl, ?_⟩) hHeld ?_ ?_
                                                  rotate_left
                                                  · intro w' _
                                                    go_simp
                                                    with_reducible rfl
                                                  rotate_left
                                                  · simp only [Act.put, List.setIfInBounds_toArray, List.set_cons_zero, List.set_cons_succ, i64_w, i32_w]
                                                    rfl
                                                  refine pure_ (i := 2) (N := some 73) (v := ?_) (a' := ?_) #[true, true, true, false, true, false, false, false, false, false] rfl rfl (any_of HT_.out (by kernel_rfl)) (fun _ _ _ h => h) (Or.inl ⟨by rfl, ?_⟩) ?_ ?_
                                                  rotate_left
                                                  · intro w'
                                                    go_simp
                                                    with_reducible rfl
                                                  rotate_left
                                                  · simp only [Act.put, List.setIfInBounds_toArray, List.set_cons_zero, List.set_cons_succ, i64_w, i32_w]
                                                    rfl
                                                  refine pure_ (i := 3) (N := some 74) (v := ?_) (a' := ?_) #[true, true, true, true, true, false, false, false, false, false] rfl rfl (any_of HT_.out (by kernel_rfl)) (fun _ _ _ h => h) (Or.inl ⟨by rfl, ?_⟩) ?_ ?_
                                                  rotate_left
                                                  · intro w'
                                                    go_simp
                                                    with_reducible rfl
                                                  rotate_left
                                                  · simp only [Act.put, List.setIfInBounds_toArray, List.set_cons_zero, List.set_cons_succ, i64_w, i32_w]
                                                    rfl
                                                  refine pure_ (i := 8) (N := some 9) (v := ?_) (a' := ?_) #[true, true, true, true, true, false, false, false, true, false] rfl rfl (any_of HT_.out (by kernel_rfl)) (fun _ _ _ h => h) (Or.inl ⟨by rfl, ?_⟩) ?_ ?_
                                                  rotate_left
                                                  · intro w'
                                                    go_simp
                                                    with_reducible rfl
                                                  rotate_left
                                                  · simp only [Act.put, List.setIfInBounds_toArray, List.set_cons_zero, List.set_cons_succ, i64_w, i32_w]
                                                    rfl
                                                  refine take_ (i := 5) (N := some 76) (v := ?_) (a' := ?_) #[true, true, true, true, true, true, false, false, true, false] rfl rfl (take_ofW HT_.out HW_.out (by kernel_rfl)) (fun _ _ _ h => h) (Or.inl ⟨by rfl, ?_⟩) hHeld ?_ ?_
                                                  rotate_left
                                                  · intro w' _
                                                    go_simp
                                                    with_reducible rfl
                                                  rotate_left
                                                  · simp only [Act.put, List.setIfInBounds_toArray, List.set_cons_zero, List.set_cons_succ, i64_w, i32_w]
                                                    rfl
                                                  refine pure_ (i := 6) (N := some 77) (v := ?_) (a' := ?_) #[true, true, true, true, true, true, true, false, true, false] rfl rfl (any_of HT_.out (by kernel_rfl)) (fun _ _ _ h => h) (Or.inl ⟨by rfl, ?_⟩) ?_ ?_
                                                  rotate_left
                                                  · intro w'
                                                    go_simp
                                                    with_reducible rfl
                                                  rotate_left
                                                  · simp only [Act.put, List.setIfInBounds_toArray, List.set_cons_zero, List.set_cons_succ, i64_w, i32_w]
                                                    rfl
                                                  refine pure_ (i := 7) (N := some 78) (v := ?_) (a' := ?_) #[true, true, true, true, true, true, true, true, true, false] rfl rfl (any_of HT_.out (by kernel_rfl)) (fun _ _ _ h => h) (Or.inl ⟨by rfl, ?_⟩) ?_ ?_
                                                  rotate_left
                                                  · intro w'
                                                    go_simp
                                                    with_reducible rfl
                                                  rotate_left
                                                  · simp only [Act.put, List.setIfInBounds_toArray, List.set_cons_zero, List.set_cons_succ, i64_w, i32_w]
                                                    rfl
                                                  refine pure_ (i := 9) (N := some 10) (v := ?_) (a' := ?_) #[true, true, true, true, true, true, true, true, true, true] rfl rfl (any_of HT_.out (by kernel_rfl)) (fun _ _ _ h => h) (Or.inl ⟨by rfl, ?_⟩) ?_ ?_
                                                  rotate_left
                                                  · intro w'
                                                    go_simp
                                                    with_reducible rfl
                                                  rotate_left
                                                  · simp only [Act.put, List.setIfInBounds_toArray, List.set_cons_zero, List.set_cons_succ, i64_w, i32_w]
                                                    rfl
                                                  refine done_ (done_of HT_.out (by kernel_rfl)) ?_
                                                  have hnb55 := NB245_256.out
                                                  have hnc55 := NB256_245.out
                                                  have hcz56_0 : w54.cell? ⟨gb245, 0, none⟩ = some (.slice none 0 0) := (blk_cell BK245.out 0).trans rfl
                                                  have hcz56_1 : w54.cell? ⟨gb245, 1, none⟩ = some (.int .i64 x246001_3) := (blk_cell BK245.out 1).trans rfl
                                                  have hcz56_2 : w54.cell? ⟨gb245, 2, none⟩ = some (.slice none 0 0) := (blk_cell BK245.out 2).trans rfl
                                                  have hfz56_0 := blk_frozen BK245.out 0
                                                  have hfz56_1 := blk_frozen BK245.out 1
                                                  have hfz56_2 := blk_frozen BK245.out 2
                                                  try go_wp2
                                                  refine bodyPost_ret (results_ct rfl _ _ gb245 36 #[.slice none 0 0, .int .i64 0, .slice none 0 0] (0, 0) _ rfl (by (with_reducible repeat (first | refine blk_drewN ?_ _ | refine blk_drew ?_ | refine blk_alloc ?_ _)); refine blk_put (cs := #[.slice none 0 0, .int .i64 0, .slice none 0 0]) ?_ 2 _ rfl; (with_reducible repeat (first | refine blk_drewN ?_ _ | refine blk_drew ?_ | refine blk_alloc ?_ _)); refine blk_put (cs := #[.slice none 0 0, .int .i64 x246001_3, .slice none 0 0]) ?_ 1 _ rfl; (with_reducible repeat (first | refine blk_drewN ?_ _ | refine blk_drew ?_ | refine blk_alloc ?_ _)); refine blk_put (cs := #[.slice none 0 0, .int .i64 x246001_3, .slice none 0 0]) ?_ 0 _ rfl; (with_reducible repeat (first | refine blk_drewN ?_ _ | refine blk_drew ?_ | refine blk_alloc ?_ _)); exact BK245.out) Tryd.underlying36 rfl (by kernel_rfl)) rfl ?_
                                                  exact ⟨_, _, by first | rfl | (simp [errW_none, errW_some] <;> rfl) | (simp only [← hji23]; first | rfl | (simp [errW_none, errW_some] <;> rfl)) | (simp [*, errW_none, errW_some] <;> rfl), by first | exact Kd.R_nil _ _ _ _ _ | exact Kd.N_nil _ _ _ _ _ | exact Kd.V_nil _ _ _ _ _ | exact Kd.Q_nil _ _ _ _ _ | exact Kd.S_nil _ _ _ _ _, by first | exact Kd.R_nil _ _ _ _ _ | exact Kd.N_nil _ _ _ _ _ | exact Kd.V_nil _ _ _ _ _ | exact Kd.Q_nil _ _ _ _ _ | exact Kd.S_nil _ _ _ _ _, by repeat (first | (with_reducible first | exact HB.out | apply below_alloc | apply pw_below_drewN | apply below_drew1 | refine below_set ?_ GE245.out | refine below_set ?_ GE256.out) | exact HB.out)⟩
                                                · rw [if_neg c53] at H
                                                  have c53b0 : decide ((wrap64 ((wrap64 (bt (rdOf ByteArray.empty t259 x63_3) 0)) - 48)) < 0) = false := decide_eq_false c53
                                                  clear c53
                                                  by_cases c57 : (wrap64 ((wrap64 (bt (rdOf ByteArray.empty t259 x63_3) 0)) - 48)) ≥ (ji23)
                                                  · rw [if_pos c57] at H
                                                    have c57b0 : decide ((ji23) ≤ (wrap64 ((wrap64 (bt (rdOf ByteArray.empty t259 x63_3) 0)) - 48))) = true := decide_eq_true c57
                                                    clear c57
                                                    simp only [Option.some.injEq, Prod.mk.injEq] at H
                                                    obtain ⟨rfl, rfl, rfl, rfl⟩ := H
                                                    have p262 : 0 ≤ (x63_3 : Int) := of_decide_eq_true (by first | (with_reducible assumption) | assumption)
                                                    have q262 : x63_3 < (t259.length : Int) := of_decide_eq_true (by first | (with_reducible assumption) | assumption)
                                                    obtain ⟨ad262, e262, hx262_0⟩ := Kd.at_string (Kd.R_reads' HO_61.out).2.2 x63_3 p262 q262
                                                    cases e262
                                                    replace p262 := eq_true p262
                                                    replace q262 := eq_true q262
                                                    try go_wp2
                                                    have n0_ := Aside0.mk (Kd.R_drew HO_4.out)
                                                    have n1_ := Aside0.mk (Kd.R_drew HO_61.out)
                                                    have n2_ := Aside0.mk (Kd.R_drew HO_257000.out)
                                                    have n3_ := Aside0.mk (blk_drew BK245.out)
                                                    have n4_ := Aside0.mk (blk_drew BK256.out)
                                                    have n5_ := Aside0.mk (below_drew1 HB.out)
                                                    clear HO_4
                                                    clear HO_61
                                                    clear HO_257000
                                                    clear BK245
                                                    clear BK256
                                                    clear HB
                                                    have HO_4 := n0_
                                                    have HO_61 := n1_
                                                    have HO_257000 := n2_
                                                    have BK245 := n3_
                                                    have BK256 := n4_
                                                    have HB := n5_
                                                    clear n0_ n1_ n2_ n3_ n4_ n5_
                                                    have p50 : 0 ≤ (0 : Int) := (by omega)
                                                    have q50 : 0 < (rdOf ByteArray.empty t259 x63_3).size := (by have : (0 : Int) < ((rdOf ByteArray.empty t259 x63_3).size : Int) := of_decide_eq_true (by first | (with_reducible assumption) | assumption); omega)
                                                    have hx50 : ∀ h : 0 < (rdOf ByteArray.empty t259 x63_3).size, (((rdOf ByteArray.empty t259 x63_3)[0]'h).toNat : Int) = bt (rdOf ByteArray.empty t259 x63_3) 0 := bt_at (rdOf ByteArray.empty t259 x63_3) 0
                                                    clear p50
                                                    have qi50 : (0 < ((rdOf ByteArray.empty t259 x63_3).size : Int)) = True := eq_true (of_decide_eq_true (by first | (with_reducible assumption) | assumption))
                                                    replace q50 := eq_true q50
                                                    have p52 : 0 ≤ (1 : Int) := (by omega)
                                                    have q52 : 1 < (rdOf ByteArray.empty t259 x63_3).size := (by have : (1 : Int) < ((rdOf ByteArray.empty t259 x63_3).size : Int) := of_decide_eq_true (by first | (with_reducible assumption) | assumption); omega)
                                                    have hx52 : ∀ h : 1 < (rdOf ByteArray.empty t259 x63_3).size, (((rdOf ByteArray.empty t259 x63_3)[1]'h).toNat : Int) = bt (rdOf ByteArray.empty t259 x63_3) 1 := bt_at (rdOf ByteArray.empty t259 x63_3) 1
                                                    clear p52
                                                    have qi52 : (1 < ((rdOf ByteArray.empty t259 x63_3).size : Int)) = True := eq_true (of_decide_eq_true (by first | (with_reducible assumption) | assumption))
                                                    replace q52 := eq_true q52
                                                    refine start_ (n := 10) (S := fun w' => True) (ds := []) #[false, false, false, false, false, false, false, false, false, false] (by kernel_rfl) rfl rfl trivial (fun hHeld => ?_); refine with_tabW impl_ReadPlace.tab14 impl_ReadPlace.bits14 (fun HT_ HW_ => ?_)
                                                    generalize wr.drew = w58 at HO_4 HO_61 HO_257000 BK245 BK256 HB hHeld ⊢
                                                    refine pure_ (i := 0) (N := some 71) (v := ?_) (a' := ?_) #[true, false, false, false, false, false, false, false, false, false] rfl rfl (any_of HT_.out (by kernel_rfl)) (fun _ _ _ h => h) (Or.inl ⟨by rfl, ?_⟩) ?_ ?_
                                                    rotate_left
                                                    · intro w'
                                                      go_simp
                                                      with_reducible rfl
                                                    rotate_left
                                                    · simp only [Act.put, List.setIfInBounds_toArray, List.set_cons_zero, List.set_cons_succ, i64_w, i32_w]
                                                      rfl
                                                    refine pure_ (i := 4) (N := some 75) (v := ?_) (a' := ?_) #[true, false, false, false, true, false, false, false, false, false] rfl rfl (any_of HT_.out (by kernel_rfl)) (fun _ _ _ h => h) (Or.inl ⟨by rfl, ?_⟩) ?_ ?_
                                                    rotate_left
                                                    · intro w'
                                                      go_simp
                                                      with_reducible rfl
                                                    rotate_left
                                                    · simp only [Act.put, List.setIfInBounds_toArray, List.set_cons_zero, List.set_cons_succ, i64_w, i32_w]
                                                      rfl
                                                    refine take_ (i := 1) (N := some 72) (v := ?_) (a' := ?_) #[true, true, false, false, true, false, false, false, false, false] rfl rfl (take_ofW HT_.out HW_.out (by kernel_rfl)) (fun _ _ _ h => h) (Or.inl ⟨by rfl, ?_⟩) hHeld ?_ ?_
                                                    rotate_left
                                                    · intro w' _
                                                      go_simp
                                                      with_reducible rfl
                                                    rotate_left
                                                    · simp only [Act.put, List.setIfInBounds_toArray, List.set_cons_zero, List.set_cons_succ, i64_w, i32_w]
                                                      rfl
                                                    refine pure_ (i := 2) (N := some 73) (v := ?_) (a' := ?_) #[true, true, true, false, true, false, false, false, false, false] rfl rfl (any_of HT_.out (by kernel_rfl)) (fun _ _ _ h => h) (Or.inl ⟨by rfl, ?_⟩) ?_ ?_
                                                    rotate_left
                                                    · intro w'
                                                      go_simp
                                                      with_reducible rfl
                                                    rotate_left
                                                    · simp only [Act.put, List.setIfInBounds_toArray, List.set_cons_zero, List.set_cons_succ, i64_w, i32_w]
                                                      rfl
                                                    refine pure_ (i := 3) (N := some 74) (v := ?_) (a' := ?_) #[true, true, true, true, true, false, false, false, false, false] rfl rfl (any_of HT_.out (by kernel_rfl)) (fun _ _ _ h => h) (Or.inl ⟨by rfl, ?_⟩) ?_ ?_
                                                    rotate_left
                                                    · intro w'
                                                      go_simp
                                                      with_reducible rfl
                                                    rotate_left
                                                    · simp only [Act.put, List.setIfInBounds_toArray, List.set_cons_zero, List.set_cons_succ, i64_w, i32_w]
                                                      rfl
                                                    refine pure_ (i := 8) (N := some 9) (v := ?_) (a' := ?_) #[true, true, true, true, true, false, false, false, true, false] rfl rfl (any_of HT_.out (by kernel_rfl)) (fun _ _ _ h => h) (Or.inl ⟨by rfl, ?_⟩) ?_ ?_
                                                    rotate_left
                                                    · intro w'
                                                      go_simp
                                                      with_reducible rfl
                                                    rotate_left
                                                    · simp only [Act.put, List.setIfInBounds_toArray, List.set_cons_zero, List.set_cons_succ, i64_w, i32_w]
                                                      rfl
                                                    refine take_ (i := 5) (N := some 76) (v := ?_) (a' := ?_) #[true, true, true, true, true, true, false, false, true, false] rfl rfl (take_ofW HT_.out HW_.out (by kernel_rfl)) (fun _ _ _ h => h) (Or.inl ⟨by rfl, ?_⟩) hHeld ?_ ?_
                                                    rotate_left
                                                    · intro w' _
                                                      go_simp
                                                      with_reducible rfl
                                                    rotate_left
                                                    · simp only [Act.put, List.setIfInBounds_toArray, List.set_cons_zero, List.set_cons_succ, i64_w, i32_w]
                                                      rfl
                                                    refine pure_ (i := 6) (N := some 77) (v := ?_) (a' := ?_) #[true, true, true, true, true, true, true, false, true, false] rfl rfl (any_of HT_.out (by kernel_rfl)) (fun _ _ _ h => h) (Or.inl ⟨by rfl, ?_⟩) ?_ ?_
                                                    rotate_left
                                                    · intro w'
                                                      go_simp
                                                      with_reducible rfl
                                                    rotate_left
                                                    · simp only [Act.put, List.setIfInBounds_toArray, List.set_cons_zero, List.set_cons_succ, i64_w, i32_w]
                                                      rfl
                                                    refine pure_ (i := 7) (N := some 78) (v := ?_) (a' := ?_) #[true, true, true, true, true, true, true, true, true, false] rfl rfl (any_of HT_.out (by kernel_rfl)) (fun _ _ _ h => h) (Or.inl ⟨by rfl, ?_⟩) ?_ ?_
                                                    rotate_left
                                                    · intro w'
                                                      go_simp
                                                      with_reducible rfl
                                                    rotate_left
                                                    · simp only [Act.put, List.setIfInBounds_toArray, List.set_cons_zero, List.set_cons_succ, i64_w, i32_w]
                                                      rfl
                                                    refine pure_ (i := 9) (N := some 10) (v := ?_) (a' := ?_) #[true, true, true, true, true, true, true, true, true, true] rfl rfl (any_of HT_.out (by kernel_rfl)) (fun _ _ _ h => h) (Or.inl ⟨by rfl, ?_⟩) ?_ ?_
                                                    rotate_left
                                                    · intro w'
                                                      go_simp
                                                      with_reducible rfl
                                                    rotate_left
                                                    · simp only [Act.put, List.setIfInBounds_toArray, List.set_cons_zero, List.set_cons_succ, i64_w, i32_w]
                                                      rfl
                                                    refine done_ (done_of HT_.out (by kernel_rfl)) ?_
                                                    have hnb59 := NB245_256.out
                                                    have hnc59 := NB256_245.out
                                                    have hcz60_0 : w58.cell? ⟨gb245, 0, none⟩ = some (.slice none 0 0) := (blk_cell BK245.out 0).trans rfl
                                                    have hcz60_1 : w58.cell? ⟨gb245, 1, none⟩ = some (.int .i64 x246001_3) := (blk_cell BK245.out 1).trans rfl
                                                    have hcz60_2 : w58.cell? ⟨gb245, 2, none⟩ = some (.slice none 0 0) := (blk_cell BK245.out 2).trans rfl
                                                    have hfz60_0 := blk_frozen BK245.out 0
                                                    have hfz60_1 := blk_frozen BK245.out 1
                                                    have hfz60_2 := blk_frozen BK245.out 2
                                                    try go_wp2
                                                    refine bodyPost_ret (results_ct rfl _ _ gb245 36 #[.slice none 0 0, .int .i64 0, .slice none 0 0] (0, 0) _ rfl (by (with_reducible repeat (first | refine blk_drewN ?_ _ | refine blk_drew ?_ | refine blk_alloc ?_ _)); refine blk_put (cs := #[.slice none 0 0, .int .i64 0, .slice none 0 0]) ?_ 2 _ rfl; (with_reducible repeat (first | refine blk_drewN ?_ _ | refine blk_drew ?_ | refine blk_alloc ?_ _)); refine blk_put (cs := #[.slice none 0 0, .int .i64 x246001_3, .slice none 0 0]) ?_ 1 _ rfl; (with_reducible repeat (first | refine blk_drewN ?_ _ | refine blk_drew ?_ | refine blk_alloc ?_ _)); refine blk_put (cs := #[.slice none 0 0, .int .i64 x246001_3, .slice none 0 0]) ?_ 0 _ rfl; (with_reducible repeat (first | refine blk_drewN ?_ _ | refine blk_drew ?_ | refine blk_alloc ?_ _)); exact BK245.out) Tryd.underlying36 rfl (by kernel_rfl)) rfl ?_
                                                    exact ⟨_, _, by first | rfl | (simp [errW_none, errW_some] <;> rfl) | (simp only [← hji23]; first | rfl | (simp [errW_none, errW_some] <;> rfl)) | (simp [*, errW_none, errW_some] <;> rfl), by first | exact Kd.R_nil _ _ _ _ _ | exact Kd.N_nil _ _ _ _ _ | exact Kd.V_nil _ _ _ _ _ | exact Kd.Q_nil _ _ _ _ _ | exact Kd.S_nil _ _ _ _ _, by first | exact Kd.R_nil _ _ _ _ _ | exact Kd.N_nil _ _ _ _ _ | exact Kd.V_nil _ _ _ _ _ | exact Kd.Q_nil _ _ _ _ _ | exact Kd.S_nil _ _ _ _ _, by repeat (first | (with_reducible first | exact HB.out | apply below_alloc | apply pw_below_drewN | apply below_drew1 | refine below_set ?_ GE245.out | refine below_set ?_ GE256.out) | exact HB.out)⟩
                                                  · rw [if_neg c57] at H
                                                    have c57b0 : decide ((ji23) ≤ (wrap64 ((wrap64 (bt (rdOf ByteArray.empty t259 x63_3) 0)) - 48))) = false := decide_eq_false c57
                                                    clear c57
                                                    by_cases c61 : (wrap64 ((wrap64 (bt (rdOf ByteArray.empty t259 x63_3) 1)) - 48)) < 0
                                                    · rw [if_pos c61] at H
                                                      have c61b0 : decide ((wrap64 ((wrap64 (bt (rdOf ByteArray.empty t259 x63_3) 1)) - 48)) < 0) = true := decide_eq_true c61
                                                      clear c61
                                                      simp only [Option.some.injEq, Prod.mk.injEq] at H
                                                      obtain ⟨rfl, rfl, rfl, rfl⟩ := H
                                                      have p262 : 0 ≤ (x63_3 : Int) := of_decide_eq_true (by first | (with_reducible assumption) | assumption)
                                                      have q262 : x63_3 < (t259.length : Int) := of_decide_eq_true (by first | (with_reducible assumption) | assumption)
                                                      obtain ⟨ad262, e262, hx262_0⟩ := Kd.at_string (Kd.R_reads' HO_61.out).2.2 x63_3 p262 q262
                                                      cases e262
                                                      replace p262 := eq_true p262
                                                      replace q262 := eq_true q262
                                                      try go_wp2
                                                      have n0_ := Aside0.mk (Kd.R_drew HO_4.out)
                                                      have n1_ := Aside0.mk (Kd.R_drew HO_61.out)
                                                      have n2_ := Aside0.mk (Kd.R_drew HO_257000.out)
                                                      have n3_ := Aside0.mk (blk_drew BK245.out)
                                                      have n4_ := Aside0.mk (blk_drew BK256.out)
                                                      have n5_ := Aside0.mk (below_drew1 HB.out)
                                                      clear HO_4
                                                      clear HO_61
                                                      clear HO_257000
                                                      clear BK245
                                                      clear BK256
                                                      clear HB
                                                      have HO_4 := n0_
                                                      have HO_61 := n1_
                                                      have HO_257000 := n2_
                                                      have BK245 := n3_
                                                      have BK256 := n4_
                                                      have HB := n5_
                                                      clear n0_ n1_ n2_ n3_ n4_ n5_
                                                      have p50 : 0 ≤ (0 : Int) := (by omega)
                                                      have q50 : 0 < (rdOf ByteArray.empty t259 x63_3).size := (by have : (0 : Int) < ((rdOf ByteArray.empty t259 x63_3).size : Int) := of_decide_eq_true (by first | (with_reducible assumption) | assumption); omega)
                                                      have hx50 : ∀ h : 0 < (rdOf ByteArray.empty t259 x63_3).size, (((rdOf ByteArray.empty t259 x63_3)[0]'h).toNat : Int) = bt (rdOf ByteArray.empty t259 x63_3) 0 := bt_at (rdOf ByteArray.empty t259 x63_3) 0
                                                      clear p50
                                                      have qi50 : (0 < ((rdOf ByteArray.empty t259 x63_3).size : Int)) = True := eq_true (of_decide_eq_true (by first | (with_reducible assumption) | assumption))
                                                      replace q50 := eq_true q50
                                                      have p52 : 0 ≤ (1 : Int) := (by omega)
                                                      have q52 : 1 < (rdOf ByteArray.empty t259 x63_3).size := (by have : (1 : Int) < ((rdOf ByteArray.empty t259 x63_3).size : Int) := of_decide_eq_true (by first | (with_reducible assumption) | assumption); omega)
                                                      have hx52 : ∀ h : 1 < (rdOf ByteArray.empty t259 x63_3).size, (((rdOf ByteArray.empty t259 x63_3)[1]'h).toNat : Int) = bt (rdOf ByteArray.empty t259 x63_3) 1 := bt_at (rdOf ByteArray.empty t259 x63_3) 1
                                                      clear p52
                                                      have qi52 : (1 < ((rdOf ByteArray.empty t259 x63_3).size : Int)) = True := eq_true (of_decide_eq_true (by first | (with_reducible assumption) | assumption))
                                                      replace q52 := eq_true q52
                                                      refine start_ (n := 10) (S := fun w' => True) (ds := []) #[false, false, false, false, false, false, false, false, false, false] (by kernel_rfl) rfl rfl trivial (fun hHeld => ?_); refine with_tabW impl_ReadPlace.tab14 impl_ReadPlace.bits14 (fun HT_ HW_ => ?_)
                                                      generalize wr.drew = w62 at HO_4 HO_61 HO_257000 BK245 BK256 HB hHeld ⊢
                                                      refine pure_ (i := 0) (N := some 71) (v := ?_) (a' := ?_) #[true, false, false, false, false, false, false, false, false, false] rfl rfl (any_of HT_.out (by kernel_rfl)) (fun _ _ _ h => h) (Or.inl ⟨by rfl, ?_⟩) ?_ ?_
                                                      rotate_left
                                                      · intro w'
                                                        go_simp
                                                        with_reducible rfl
                                                      rotate_left
                                                      · simp only [Act.put, List.setIfInBounds_toArray, List.set_cons_zero, List.set_cons_succ, i64_w, i32_w]
                                                        rfl
                                                      refine pure_ (i := 4) (N := some 75) (v := ?_) (a' := ?_) #[true, false, false, false, true, false, false, false, false, false] rfl rfl (any_of HT_.out (by kernel_rfl)) (fun _ _ _ h => h) (Or.inl ⟨by rfl, ?_⟩) ?_ ?_
                                                      rotate_left
                                                      · intro w'
                                                        go_simp
                                                        with_reducible rfl
                                                      rotate_left
                                                      · simp only [Act.put, List.setIfInBounds_toArray, List.set_cons_zero, List.set_cons_succ, i64_w, i32_w]
                                                        rfl
                                                      refine take_ (i := 1) (N := some 72) (v := ?_) (a' := ?_) #[true, true, false, false, true, false, false, false, false, false] rfl rfl (take_ofW HT_.out HW_.out (by kernel_rfl)) (fun _ _ _ h => h) (Or.inl ⟨by rfl, ?_⟩) hHeld ?_ ?_
                                                      rotate_left
                                                      · intro w' _
                                                        go_simp
                                                        with_reducible rfl
                                                      rotate_left
                                                      · simp only [Act.put, List.setIfInBounds_toArray, List.set_cons_zero, List.set_cons_succ, i64_w, i32_w]
                                                        rfl
                                                      refine pure_ (i := 2) (N := some 73) (v := ?_) (a' := ?_) #[true, true, true, false, true, false, false, false, false, false] rfl rfl (any_of HT_.out (by kernel_rfl)) (fun _ _ _ h => h) (Or.inl ⟨by rfl, ?_⟩) ?_ ?_
                                                      rotate_left
                                                      · intro w'
                                                        go_simp
                                                        with_reducible rfl
                                                      rotate_left
                                                      · simp only [Act.put, List.setIfInBounds_toArray, List.set_cons_zero, List.set_cons_succ, i64_w, i32_w]
                                                        rfl
                                                      refine pure_ (i := 3) (N := some 74) (v := ?_) (a' := ?_) #[true, true, true, true, true, false, false, false, false, false] rfl rfl (any_of HT_.out (by kernel_rfl)) (fun _ _ _ h => h) (Or.inl ⟨by rfl, ?_⟩) ?_ ?_
                                                      rotate_left
                                                      · intro w'
                                                        go_simp
                                                        with_reducible rfl
                                                      rotate_left
                                                      · simp only [Act.put, List.setIfInBounds_toArray, List.set_cons_zero, List.set_cons_succ, i64_w, i32_w]
                                                        rfl
                                                      refine pure_ (i := 8) (N := some 9) (v := ?_) (a' := ?_) #[true, true, true, true, true, false, false, false, true, false] rfl rfl (any_of HT_.out (by kernel_rfl)) (fun _ _ _ h => h) (Or.inl ⟨by rfl, ?_⟩) ?_ ?_
                                                      rotate_left
                                                      · intro w'
                                                        go_simp
                                                        with_reducible rfl
                                                      rotate_left
                                                      · simp only [Act.put, List.setIfInBounds_toArray, List.set_cons_zero, List.set_cons_succ, i64_w, i32_w]
                                                        rfl
                                                      refine take_ (i := 5) (N := some 76) (v := ?_) (a' := ?_) #[true, true, true, true, true, true, false, false, true, false] rfl rfl (take_ofW HT_.out HW_.out (by kernel_rfl)) (fun _ _ _ h => h) (Or.inl ⟨by rfl, ?_⟩) hHeld ?_ ?_
                                                      rotate_left
                                                      · intro w' _
                                                        go_simp
                                                        with_reducible rfl
                                                      rotate_left
                                                      · simp only [Act.put, List.setIfInBounds_toArray, List.set_cons_zero, List.set_cons_succ, i64_w, i32_w]
                                                        rfl
                                                      refine pure_ (i := 6) (N := some 77) (v := ?_) (a' := ?_) #[true, true, true, true, true, true, true, false, true, false] rfl rfl (any_of HT_.out (by kernel_rfl)) (fun _ _ _ h => h) (Or.inl ⟨by rfl, ?_⟩) ?_ ?_
                                                      rotate_left
                                                      · intro w'
                                                        go_simp
                                                        with_reducible rfl
                                                      rotate_left
                                                      · simp only [Act.put, List.setIfInBounds_toArray, List.set_cons_zero, List.set_cons_succ, i64_w, i32_w]
                                                        rfl
                                                      refine pure_ (i := 7) (N := some 78) (v := ?_) (a' := ?_) #[true, true, true, true, true, true, true, true, true, false] rfl rfl (any_of HT_.out (by kernel_rfl)) (fun _ _ _ h => h) (Or.inl ⟨by rfl, ?_⟩) ?_ ?_
                                                      rotate_left
                                                      · intro w'
                                                        go_simp
                                                        with_reducible rfl
                                                      rotate_left
                                                      · simp only [Act.put, List.setIfInBounds_toArray, List.set_cons_zero, List.set_cons_succ, i64_w, i32_w]
                                                        rfl
                                                      refine pure_ (i := 9) (N := some 10) (v := ?_) (a' := ?_) #[true, true, true, true, true, true, true, true, true, true] rfl rfl (any_of HT_.out (by kernel_rfl)) (fun _ _ _ h => h) (Or.inl ⟨by rfl, ?_⟩) ?_ ?_
                                                      rotate_left
                                                      · intro w'
                                                        go_simp
                                                        with_reducible rfl
                                                      rotate_left
                                                      · simp only [Act.put, List.setIfInBounds_toArray, List.set_cons_zero, List.set_cons_succ, i64_w, i32_w]
                                                        rfl
                                                      refine done_ (done_of HT_.out (by kernel_rfl)) ?_
                                                      have hnb63 := NB245_256.out
                                                      have hnc63 := NB256_245.out
                                                      have hcz64_0 : w62.cell? ⟨gb245, 0, none⟩ = some (.slice none 0 0) := (blk_cell BK245.out 0).trans rfl
                                                      have hcz64_1 : w62.cell? ⟨gb245, 1, none⟩ = some (.int .i64 x246001_3) := (blk_cell BK245.out 1).trans rfl
                                                      have hcz64_2 : w62.cell? ⟨gb245, 2, none⟩ = some (.slice none 0 0) := (blk_cell BK245.out 2).trans rfl
                                                      have hfz64_0 := blk_frozen BK245.out 0
                                                      have hfz64_1 := blk_frozen BK245.out 1
                                                      have hfz64_2 := blk_frozen BK245.out 2
                                                      try go_wp2
                                                      refine bodyPost_ret (results_ct rfl _ _ gb245 36 #[.slice none 0 0, .int .i64 0, .slice none 0 0] (0, 0) _ rfl (by (with_reducible repeat (first | refine blk_drewN ?_ _ | refine blk_drew ?_ | refine blk_alloc ?_ _)); refine blk_put (cs := #[.slice none 0 0, .int .i64 0, .slice none 0 0]) ?_ 2 _ rfl; (with_reducible repeat (first | refine blk_drewN ?_ _ | refine blk_drew ?_ | refine blk_alloc ?_ _)); refine blk_put (cs := #[.slice none 0 0, .int .i64 x246001_3, .slice none 0 0]) ?_ 1 _ rfl; (with_reducible repeat (first | refine blk_drewN ?_ _ | refine blk_drew ?_ | refine blk_alloc ?_ _)); refine blk_put (cs := #[.slice none 0 0, .int .i64 x246001_3, .slice none 0 0]) ?_ 0 _ rfl; (with_reducible repeat (first | refine blk_drewN ?_ _ | refine blk_drew ?_ | refine blk_alloc ?_ _)); exact BK245.out) Tryd.underlying36 rfl (by kernel_rfl)) rfl ?_
                                                      exact ⟨_, _, by first | rfl | (simp [errW_none, errW_some] <;> rfl) | (simp only [← hji23]; first | rfl | (simp [errW_none, errW_some] <;> rfl)) | (simp [*, errW_none, errW_some] <;> rfl), by first | exact Kd.R_nil _ _ _ _ _ | exact Kd.N_nil _ _ _ _ _ | exact Kd.V_nil _ _ _ _ _ | exact Kd.Q_nil _ _ _ _ _ | exact Kd.S_nil _ _ _ _ _, by first | exact Kd.R_nil _ _ _ _ _ | exact Kd.N_nil _ _ _ _ _ | exact Kd.V_nil _ _ _ _ _ | exact Kd.Q_nil _ _ _ _ _ | exact Kd.S_nil _ _ _ _ _, by repeat (first | (with_reducible first | exact HB.out | apply below_alloc | apply pw_below_drewN | apply below_drew1 | refine below_set ?_ GE245.out | refine below_set ?_ GE256.out) | exact HB.out)⟩
                                                    · rw [if_neg c61] at H
                                                      have c61b0 : decide ((wrap64 ((wrap64 (bt (rdOf ByteArray.empty t259 x63_3) 1)) - 48)) < 0) = false := decide_eq_false c61
                                                      clear c61
                                                      by_cases c65 : (wrap64 ((wrap64 (bt (rdOf ByteArray.empty t259 x63_3) 1)) - 48)) ≥ (ji23)
                                                      · rw [if_pos c65] at H
                                                        have c65b0 : decide ((ji23) ≤ (wrap64 ((wrap64 (bt (rdOf ByteArray.empty t259 x63_3) 1)) - 48))) = true := decide_eq_true c65
                                                        clear c65
                                                        simp only [Option.some.injEq, Prod.mk.injEq] at H
                                                        obtain ⟨rfl, rfl, rfl, rfl⟩ := H
                                                        have p262 : 0 ≤ (x63_3 : Int) := of_decide_eq_true (by first | (with_reducible assumption) | assumption)
                                                        have q262 : x63_3 < (t259.length : Int) := of_decide_eq_true (by first | (with_reducible assumption) | assumption)
                                                        obtain ⟨ad262, e262, hx262_0⟩ := Kd.at_string (Kd.R_reads' HO_61.out).2.2 x63_3 p262 q262
                                                        cases e262
                                                        replace p262 := eq_true p262
                                                        replace q262 := eq_true q262
                                                        try go_wp2
                                                        have n0_ := Aside0.mk (Kd.R_drew HO_4.out)
                                                        have n1_ := Aside0.mk (Kd.R_drew HO_61.out)
                                                        have n2_ := Aside0.mk (Kd.R_drew HO_257000.out)
                                                        have n3_ := Aside0.mk (blk_drew BK245.out)
                                                        have n4_ := Aside0.mk (blk_drew BK256.out)
                                                        have n5_ := Aside0.mk (below_drew1 HB.out)
                                                        clear HO_4
                                                        clear HO_61
                                                        clear HO_257000
                                                        clear BK245
                                                        clear BK256
                                                        clear HB
                                                        have HO_4 := n0_
                                                        have HO_61 := n1_
                                                        have HO_257000 := n2_
                                                        have BK245 := n3_
                                                        have BK256 := n4_
                                                        have HB := n5_
                                                        clear n0_ n1_ n2_ n3_ n4_ n5_
                                                        have p50 : 0 ≤ (0 : Int) := (by omega)
                                                        have q50 : 0 < (rdOf ByteArray.empty t259 x63_3).size := (by have : (0 : Int) < ((rdOf ByteArray.empty t259 x63_3).size : Int) := of_decide_eq_true (by first | (with_reducible assumption) | assumption); omega)
                                                        have hx50 : ∀ h : 0 < (rdOf ByteArray.empty t259 x63_3).size, (((rdOf ByteArray.empty t259 x63_3)[0]'h).toNat : Int) = bt (rdOf ByteArray.empty t259 x63_3) 0 := bt_at (rdOf ByteArray.empty t259 x63_3) 0
                                                        clear p50
                                                        have qi50 : (0 < ((rdOf ByteArray.empty t259 x63_3).size : Int)) = True := eq_true (of_decide_eq_true (by first | (with_reducible assumption) | assumption))
                                                        replace q50 := eq_true q50
                                                        have p52 : 0 ≤ (1 : Int) := (by omega)
                                                        have q52 : 1 < (rdOf ByteArray.empty t259 x63_3).size := (by have : (1 : Int) < ((rdOf ByteArray.empty t259 x63_3).size : Int) := of_decide_eq_true (by first | (with_reducible assumption) | assumption); omega)
                                                        have hx52 : ∀ h : 1 < (rdOf ByteArray.empty t259 x63_3).size, (((rdOf ByteArray.empty t259 x63_3)[1]'h).toNat : Int) = bt (rdOf ByteArray.empty t259 x63_3) 1 := bt_at (rdOf ByteArray.empty t259 x63_3) 1
                                                        clear p52
                                                        have qi52 : (1 < ((rdOf ByteArray.empty t259 x63_3).size : Int)) = True := eq_true (of_decide_eq_true (by first | (with_reducible assumption) | assumption))
                                                        replace q52 := eq_true q52
                                                        refine start_ (n := 10) (S := fun w' => True) (ds := []) #[false, false, false, false, false, false, false, false, false, false] (by kernel_rfl) rfl rfl trivial (fun hHeld => ?_); refine with_tabW impl_ReadPlace.tab14 impl_ReadPlace.bits14 (fun HT_ HW_ => ?_)
                                                        generalize wr.drew = w66 at HO_4 HO_61 HO_257000 BK245 BK256 HB hHeld ⊢
                                                        refine pure_ (i := 0) (N := some 71) (v := ?_) (a' := ?_) #[true, false, false, false, false, false, false, false, false, false] rfl rfl (any_of HT_.out (by kernel_rfl)) (fun _ _ _ h => h) (Or.inl ⟨by rfl, ?_⟩) ?_ ?_
                                                        rotate_left
                                                        · intro w'
                                                          go_simp
                                                          with_reducible rfl
                                                        rotate_left
                                                        · simp only [Act.put, List.setIfInBounds_toArray, List.set_cons_zero, List.set_cons_succ, i64_w, i32_w]
                                                          rfl
                                                        refine pure_ (i := 4) (N := some 75) (v := ?_) (a' := ?_) #[true, false, false, false, true, false, false, false, false, false] rfl rfl (any_of HT_.out (by kernel_rfl)) (fun _ _ _ h => h) (Or.inl ⟨by rfl, ?_⟩) ?_ ?_
                                                        rotate_left
                                                        · intro w'
                                                          go_simp
                                                          with_reducible rfl
                                                        rotate_left
                                                        · simp only [Act.put, List.setIfInBounds_toArray, List.set_cons_zero, List.set_cons_succ, i64_w, i32_w]
                                                          rfl
                                                        refine take_ (i := 1) (N := some 72) (v := ?_) (a' := ?_) #[true, true, false, false, true, false, false, false, false, false] rfl rfl (take_ofW HT_.out HW_.out (by kernel_rfl)) (fun _ _ _ h => h) (Or.inl ⟨by rfl, ?_⟩) hHeld ?_ ?_
                                                        rotate_left
                                                        · intro w' _
                                                          go_simp
                                                          with_reducible rfl
                                                        rotate_left
                                                        · simp only [Act.put, List.setIfInBounds_toArray, List.set_cons_zero, List.set_cons_succ, i64_w, i32_w]
                                                          rfl
                                                        refine pure_ (i := 2) (N := some 73) (v := ?_) (a' := ?_) #[true, true, true, false, true, false, false, false, false, false] rfl rfl (any_of HT_.out (by kernel_rfl)) (fun _ _ _ h => h) (Or.inl ⟨by rfl, ?_⟩) ?_ ?_
                                                        rotate_left
                                                        · intro w'
                                                          go_simp
                                                          with_reducible rfl
                                                        rotate_left
                                                        · simp only [Act.put, List.setIfInBounds_toArray, List.set_cons_zero, List.set_cons_succ, i64_w, i32_w]
                                                          rfl
                                                        refine pure_ (i := 3) (N := some 74) (v := ?_) (a' := ?_) #[true, true, true, true, true, false, false, false, false, false] rfl rfl (any_of HT_.out (by kernel_rfl)) (fun _ _ _ h => h) (Or.inl ⟨by rfl, ?_⟩) ?_ ?_
                                                        rotate_left
                                                        · intro w'
                                                          go_simp
                                                          with_reducible rfl
                                                        rotate_left
                                                        · simp only [Act.put, List.setIfInBounds_toArray, List.set_cons_zero, List.set_cons_succ, i64_w, i32_w]
                                                          rfl
                                                        refine pure_ (i := 8) (N := some 9) (v := ?_) (a' := ?_) #[true, true, true, true, true, false, false, false, true, false] rfl rfl (any_of HT_.out (by kernel_rfl)) (fun _ _ _ h => h) (Or.inl ⟨by rfl, ?_⟩) ?_ ?_
                                                        rotate_left
                                                        · intro w'
                                                          go_simp
                                                          with_reducible rfl
                                                        rotate_left
                                                        · simp only [Act.put, List.setIfInBounds_toArray, List.set_cons_zero, List.set_cons_succ, i64_w, i32_w]
                                                          rfl
                                                        refine take_ (i := 5) (N := some 76) (v := ?_) (a' := ?_) #[true, true, true, true, true, true, false, false, true, false] rfl rfl (take_ofW HT_.out HW_.out (by kernel_rfl)) (fun _ _ _ h => h) (Or.inl ⟨by rfl, ?_⟩) hHeld ?_ ?_
                                                        rotate_left
                                                        · intro w' _
                                                          go_simp
                                                          with_reducible rfl
                                                        rotate_left
                                                        · simp only [Act.put, List.setIfInBounds_toArray, List.set_cons_zero, List.set_cons_succ, i64_w, i32_w]
                                                          rfl
                                                        refine pure_ (i := 6) (N := some 77) (v := ?_) (a' := ?_) #[true, true, true, true, true, true, true, false, true, false] rfl rfl (any_of HT_.out (by kernel_rfl)) (fun _ _ _ h => h) (Or.inl ⟨by rfl, ?_⟩) ?_ ?_
                                                        rotate_left
                                                        · intro w'
                                                          go_simp
                                                          with_reducible rfl
                                                        rotate_left
                                                        · simp only [Act.put, List.setIfInBounds_toArray, List.set_cons_zero, List.set_cons_succ, i64_w, i32_w]
                                                          rfl
                                                        refine pure_ (i := 7) (N := some 78) (v := ?_) (a' := ?_) #[true, true, true, true, true, true, true, true, true, false] rfl rfl (any_of HT_.out (by kernel_rfl)) (fun _ _ _ h => h) (Or.inl ⟨by rfl, ?_⟩) ?_ ?_
                                                        rotate_left
                                                        · intro w'
                                                          go_simp
                                                          with_reducible rfl
                                                        rotate_left
                                                        · simp only [Act.put, List.setIfInBounds_toArray, List.set_cons_zero, List.set_cons_succ, i64_w, i32_w]
                                                          rfl
                                                        refine pure_ (i := 9) (N := some 10) (v := ?_) (a' := ?_) #[true, true, true, true, true, true, true, true, true, true] rfl rfl (any_of HT_.out (by kernel_rfl)) (fun _ _ _ h => h) (Or.inl ⟨by rfl, ?_⟩) ?_ ?_
                                                        rotate_left
                                                        · intro w'
                                                          go_simp
                                                          with_reducible rfl
                                                        rotate_left
                                                        · simp only [Act.put, List.setIfInBounds_toArray, List.set_cons_zero, List.set_cons_succ, i64_w, i32_w]
                                                          rfl
                                                        refine done_ (done_of HT_.out (by kernel_rfl)) ?_
                                                        have hnb67 := NB245_256.out
                                                        have hnc67 := NB256_245.out
                                                        have hcz68_0 : w66.cell? ⟨gb245, 0, none⟩ = some (.slice none 0 0) := (blk_cell BK245.out 0).trans rfl
                                                        have hcz68_1 : w66.cell? ⟨gb245, 1, none⟩ = some (.int .i64 x246001_3) := (blk_cell BK245.out 1).trans rfl
                                                        have hcz68_2 : w66.cell? ⟨gb245, 2, none⟩ = some (.slice none 0 0) := (blk_cell BK245.out 2).trans rfl
                                                        have hfz68_0 := blk_frozen BK245.out 0
                                                        have hfz68_1 := blk_frozen BK245.out 1
                                                        have hfz68_2 := blk_frozen BK245.out 2
                                                        try go_wp2
                                                        refine bodyPost_ret (results_ct rfl _ _ gb245 36 #[.slice none 0 0, .int .i64 0, .slice none 0 0] (0, 0) _ rfl (by (with_reducible repeat (first | refine blk_drewN ?_ _ | refine blk_drew ?_ | refine blk_alloc ?_ _)); refine blk_put (cs := #[.slice none 0 0, .int .i64 0, .slice none 0 0]) ?_ 2 _ rfl; (with_reducible repeat (first | refine blk_drewN ?_ _ | refine blk_drew ?_ | refine blk_alloc ?_ _)); refine blk_put (cs := #[.slice none 0 0, .int .i64 x246001_3, .slice none 0 0]) ?_ 1 _ rfl; (with_reducible repeat (first | refine blk_drewN ?_ _ | refine blk_drew ?_ | refine blk_alloc ?_ _)); refine blk_put (cs := #[.slice none 0 0, .int .i64 x246001_3, .slice none 0 0]) ?_ 0 _ rfl; (with_reducible repeat (first | refine blk_drewN ?_ _ | refine blk_drew ?_ | refine blk_alloc ?_ _)); exact BK245.out) Tryd.underlying36 rfl (by kernel_rfl)) rfl ?_
                                                        exact ⟨_, _, by first | rfl | (simp [errW_none, errW_some] <;> rfl) | (simp only [← hji23]; first | rfl | (simp [errW_none, errW_some] <;> rfl)) | (simp [*, errW_none, errW_some] <;> rfl), by first | exact Kd.R_nil _ _ _ _ _ | exact Kd.N_nil _ _ _ _ _ | exact Kd.V_nil _ _ _ _ _ | exact Kd.Q_nil _ _ _ _ _ | exact Kd.S_nil _ _ _ _ _, by first | exact Kd.R_nil _ _ _ _ _ | exact Kd.N_nil _ _ _ _ _ | exact Kd.V_nil _ _ _ _ _ | exact Kd.Q_nil _ _ _ _ _ | exact Kd.S_nil _ _ _ _ _, by repeat (first | (with_reducible first | exact HB.out | apply below_alloc | apply pw_below_drewN | apply below_drew1 | refine below_set ?_ GE245.out | refine below_set ?_ GE256.out) | exact HB.out)⟩
                                                      · rw [if_neg c65] at H
                                                        have c65b0 : decide ((ji23) ≤ (wrap64 ((wrap64 (bt (rdOf ByteArray.empty t259 x63_3) 1)) - 48))) = false := decide_eq_false c65
                                                        clear c65
                                                        obtain ⟨ji69, hji69⟩ : ∃ j_ : Int, (wrap64 ((wrap64 (bt (rdOf ByteArray.empty t259 x63_3) 0)) - 48)) = j_ := ⟨_, rfl⟩
                                                        replace H : (if 0 ≤ (ji69) then (if (ji69) < (x257000_3.length : Int) then (if 0 ≤ (wrap64 ((wrap64 (bt (rdOf ByteArray.empty t259 x63_3) 1)) - 48)) then ((some (x257000_3.set ((ji69) : Int).toNat (Go.bits .or .i64 (rd x257000_3 (ji69)) (shl .i64 1 (wrap64 ((wrap64 (bt (rdOf ByteArray.empty t259 x63_3) 1)) - 48)))) : List Int)).bind fun y264 => (if (wrap64 ((wrap64 (bt (rdOf ByteArray.empty t259 x63_3) 1)) - 48)) < (x257000_3.length : Int) then (impl_ReadPlace.l0 k3 a0 t246 (ji23) t259 (t259.length : Int) (wrap64 (x63_3 + 1)) (y264.set ((wrap64 ((wrap64 (bt (rdOf ByteArray.empty t259 x63_3) 1)) - 48)) : Int).toNat (Go.bits .or .i64 (rd y264 (wrap64 ((wrap64 (bt (rdOf ByteArray.empty t259 x63_3) 1)) - 48))) (shl .i64 1 (ji69)))) (wrap64 ((wrap64 (bt (rdOf ByteArray.empty t246 2) 0)) - 48))) else (none))) else (none)) else (none)) else (none)) = some (r1, r2, r3, r4) := by first | (rw [hji69] at H; exact H) | (simp only [hji69] at H ⊢; exact H)
                                                        (try rw [hji69] at c53b0)
                                                        (try rw [hji69] at c57b0)
                                                        have hji69w : (IntKind.i64.wrap ((wrap64 (bt (rdOf ByteArray.empty t259 x63_3) 0)) - 48)) = ji69 := (i64_w _).trans hji69
                                                        by_cases c70 : 0 ≤ (ji69)
                                                        · rw [if_pos c70] at H
                                                          have c70b0 : decide (0 ≤ (ji69)) = true := decide_eq_true c70
                                                          clear c70
                                                          by_cases c71 : (ji69) < (x257000_3.length : Int)
                                                          · rw [if_pos c71] at H
                                                            have c71b0 : decide ((ji69) < (x257000_3.length : Int)) = true := decide_eq_true c71
                                                            clear c71
                                                            obtain ⟨ji72, hji72⟩ : ∃ j_ : Int, (wrap64 ((wrap64 (bt (rdOf ByteArray.empty t259 x63_3) 1)) - 48)) = j_ := ⟨_, rfl⟩
                                                            replace H : (if 0 ≤ (ji72) then ((some (x257000_3.set ((ji69) : Int).toNat (Go.bits .or .i64 (rd x257000_3 (ji69)) (shl .i64 1 (ji72))) : List Int)).bind fun y264 => (if (ji72) < (x257000_3.length : Int) then (impl_ReadPlace.l0 k3 a0 t246 (ji23) t259 (t259.length : Int) (wrap64 (x63_3 + 1)) (y264.set ((ji72) : Int).toNat (Go.bits .or .i64 (rd y264 (ji72)) (shl .i64 1 (ji69)))) (wrap64 ((wrap64 (bt (rdOf ByteArray.empty t246 2) 0)) - 48))) else (none))) else (none)) = some (r1, r2, r3, r4) := by first | (rw [hji72] at H; exact H) | (simp only [hji72] at H ⊢; exact H)
                                                            (try rw [hji72] at c61b0)
                                                            (try rw [hji72] at c65b0)
                                                            have hji72w : (IntKind.i64.wrap ((wrap64 (bt (rdOf ByteArray.empty t259 x63_3) 1)) - 48)) = ji72 := (i64_w _).trans hji72
                                                            by_cases c73 : 0 ≤ (ji72)
                                                            · rw [if_pos c73] at H
                                                              have c73b0 := eq_true c73
                                                              have c73b1 : decide (0 ≤ (ji72)) = true := decide_eq_true c73
                                                              clear c73
                                                              obtain ⟨ji74, hji74⟩ : ∃ j_ : Int, (shl .i64 1 (ji72)) = j_ := ⟨_, rfl⟩
                                                              replace H : ((some (x257000_3.set ((ji69) : Int).toNat (Go.bits .or .i64 (rd x257000_3 (ji69)) (ji74)) : List Int)).bind fun y264 => (if (ji72) < (x257000_3.length : Int) then (impl_ReadPlace.l0 k3 a0 t246 (ji23) t259 (t259.length : Int) (wrap64 (x63_3 + 1)) (y264.set ((ji72) : Int).toNat (Go.bits .or .i64 (rd y264 (ji72)) (shl .i64 1 (ji69)))) (wrap64 ((wrap64 (bt (rdOf ByteArray.empty t246 2) 0)) - 48))) else (none))) = some (r1, r2, r3, r4) := by first | (rw [hji74] at H; exact H) | (simp only [hji74] at H ⊢; exact H)
                                                              have hji74_ : (IntKind.i64.wrap (1 * 2 ^ min (ji72).toNat 64)) = ji74 := hji74
                                                              have hji74z : (ji72) ≤ 64 → (IntKind.i64.wrap (1 * 2 ^ (ji72).toNat)) = ji74 := shl_small hji74
                                                              have hji74u : (IntKind.i64.wrap (2 ^ min (ji72).toNat 64)) = ji74 := by have h_ := hji74_; rw [Int.one_mul] at h_; exact h_
                                                              have hji74v : (ji72) ≤ 64 → (IntKind.i64.wrap (2 ^ (ji72).toNat)) = ji74 := fun hle_ => by have h_ := hji74z hle_; rw [Int.one_mul] at h_; exact h_
                                                              have hji74y : (wrap64 (1 * 2 ^ min (ji72).toNat 64)) = ji74 := (i64_w _).symm.trans hji74_
                                                              have hji74x : (ji72) ≤ 64 → (wrap64 (1 * 2 ^ (ji72).toNat)) = ji74 := fun h_ => (i64_w _).symm.trans (hji74z h_)
                                                              obtain ⟨y264, hy264⟩ : ∃ y_ : List Int, y_ = (x257000_3.set ((ji69) : Int).toNat (Go.bits .or .i64 (rd x257000_3 (ji69)) (ji74))) := ⟨_, rfl⟩
                                                              replace H : (if (ji72) < (x257000_3.length : Int) then (impl_ReadPlace.l0 k3 a0 t246 (ji23) t259 (t259.length : Int) (wrap64 (x63_3 + 1)) (y264.set ((ji72) : Int).toNat (Go.bits .or .i64 (rd y264 (ji72)) (shl .i64 1 (ji69)))) (wrap64 ((wrap64 (bt (rdOf ByteArray.empty t246 2) 0)) - 48))) else (none)) = some (r1, r2, r3, r4) := by first | (rw [hy264]; with_reducible exact H) | (have H2_ := (Option.bind_some _ _).symm.trans H; rw [hy264]; with_reducible exact H2_) | (have H2_ := (Option.bind_some _ _).symm.trans H; with_reducible exact H2_) | with_reducible exact H | (rw [hy264]; exact H) | exact H
                                                              have Ny264 := Aside0.mk hy264
                                                              clear hy264
                                                              by_cases c76 : (ji72) < (x257000_3.length : Int)
                                                              · rw [if_pos c76] at H
                                                                have c76b0 : decide ((ji72) < (x257000_3.length : Int)) = true := decide_eq_true c76
                                                                clear c76
                                                                have c77b0 := eq_true (of_decide_eq_true (by first | (with_reducible assumption) | assumption) : 0 ≤ (ji69))
                                                                obtain ⟨ji78, hji78⟩ : ∃ j_ : Int, (shl .i64 1 (ji69)) = j_ := ⟨_, rfl⟩
                                                                replace H : (impl_ReadPlace.l0 k3 a0 t246 (ji23) t259 (t259.length : Int) (wrap64 (x63_3 + 1)) (y264.set ((ji72) : Int).toNat (Go.bits .or .i64 (rd y264 (ji72)) (ji78))) (wrap64 ((wrap64 (bt (rdOf ByteArray.empty t246 2) 0)) - 48))) = some (r1, r2, r3, r4) := by first | (rw [hji78] at H; exact H) | (simp only [hji78] at H ⊢; exact H)
                                                                have hji78_ : (IntKind.i64.wrap (1 * 2 ^ min (ji69).toNat 64)) = ji78 := hji78
                                                                have hji78z : (ji69) ≤ 64 → (IntKind.i64.wrap (1 * 2 ^ (ji69).toNat)) = ji78 := shl_small hji78
                                                                have hji78u : (IntKind.i64.wrap (2 ^ min (ji69).toNat 64)) = ji78 := by have h_ := hji78_; rw [Int.one_mul] at h_; exact h_
                                                                have hji78v : (ji69) ≤ 64 → (IntKind.i64.wrap (2 ^ (ji69).toNat)) = ji78 := fun hle_ => by have h_ := hji78z hle_; rw [Int.one_mul] at h_; exact h_
                                                                have hji78y : (wrap64 (1 * 2 ^ min (ji69).toNat 64)) = ji78 := (i64_w _).symm.trans hji78_
                                                                have hji78x : (ji69) ≤ 64 → (wrap64 (1 * 2 ^ (ji69).toNat)) = ji78 := fun h_ => (i64_w _).symm.trans (hji78z h_)
                                                                obtain ⟨y266, hy266⟩ : ∃ y_ : List Int, y_ = (y264.set ((ji72) : Int).toNat (Go.bits .or .i64 (rd y264 (ji72)) (ji78))) := ⟨_, rfl⟩
                                                                replace H : (impl_ReadPlace.l0 k3 a0 t246 (ji23) t259 (t259.length : Int) (wrap64 (x63_3 + 1)) y266 (wrap64 ((wrap64 (bt (rdOf ByteArray.empty t246 2) 0)) - 48))) = some (r1, r2, r3, r4) := by first | (rw [hy266]; with_reducible exact H) | (have H2_ := (Option.bind_some _ _).symm.trans H; rw [hy266]; with_reducible exact H2_) | (have H2_ := (Option.bind_some _ _).symm.trans H; with_reducible exact H2_) | with_reducible exact H | (rw [hy266]; exact H) | exact H
                                                                have Ny266 := Aside0.mk hy266
                                                                clear hy266
                                                                have H' := Aside0.mk H
                                                                clear H
                                                                have p262 : 0 ≤ (x63_3 : Int) := of_decide_eq_true (by first | (with_reducible assumption) | assumption)
                                                                have q262 : x63_3 < (t259.length : Int) := of_decide_eq_true (by first | (with_reducible assumption) | assumption)
                                                                obtain ⟨ad262, e262, hx262_0⟩ := Kd.at_string (Kd.R_reads' HO_61.out).2.2 x63_3 p262 q262
                                                                cases e262
                                                                replace p262 := eq_true p262
                                                                replace q262 := eq_true q262
                                                                try go_wp2
                                                                have n0_ := Aside0.mk (Kd.R_drew HO_4.out)
                                                                have n1_ := Aside0.mk (Kd.R_drew HO_61.out)
                                                                have n2_ := Aside0.mk (Kd.R_drew HO_257000.out)
                                                                have n3_ := Aside0.mk (blk_drew BK245.out)
                                                                have n4_ := Aside0.mk (blk_drew BK256.out)
                                                                have n5_ := Aside0.mk (below_drew1 HB.out)
                                                                clear HO_4
                                                                clear HO_61
                                                                clear HO_257000
                                                                clear BK245
                                                                clear BK256
                                                                clear HB
                                                                have HO_4 := n0_
                                                                have HO_61 := n1_
                                                                have HO_257000 := n2_
                                                                have BK245 := n3_
                                                                have BK256 := n4_
                                                                have HB := n5_
                                                                clear n0_ n1_ n2_ n3_ n4_ n5_
                                                                have p50 : 0 ≤ (0 : Int) := (by omega)
                                                                have q50 : 0 < (rdOf ByteArray.empty t259 x63_3).size := (by have : (0 : Int) < ((rdOf ByteArray.empty t259 x63_3).size : Int) := of_decide_eq_true (by first | (with_reducible assumption) | assumption); omega)
                                                                have hx50 : ∀ h : 0 < (rdOf ByteArray.empty t259 x63_3).size, (((rdOf ByteArray.empty t259 x63_3)[0]'h).toNat : Int) = bt (rdOf ByteArray.empty t259 x63_3) 0 := bt_at (rdOf ByteArray.empty t259 x63_3) 0
                                                                clear p50
                                                                have qi50 : (0 < ((rdOf ByteArray.empty t259 x63_3).size : Int)) = True := eq_true (of_decide_eq_true (by first | (with_reducible assumption) | assumption))
                                                                replace q50 := eq_true q50
                                                                have p52 : 0 ≤ (1 : Int) := (by omega)
                                                                have q52 : 1 < (rdOf ByteArray.empty t259 x63_3).size := (by have : (1 : Int) < ((rdOf ByteArray.empty t259 x63_3).size : Int) := of_decide_eq_true (by first | (with_reducible assumption) | assumption); omega)
                                                                have hx52 : ∀ h : 1 < (rdOf ByteArray.empty t259 x63_3).size, (((rdOf ByteArray.empty t259 x63_3)[1]'h).toNat : Int) = bt (rdOf ByteArray.empty t259 x63_3) 1 := bt_at (rdOf ByteArray.empty t259 x63_3) 1
                                                                clear p52
                                                                have qi52 : (1 < ((rdOf ByteArray.empty t259 x63_3).size : Int)) = True := eq_true (of_decide_eq_true (by first | (with_reducible assumption) | assumption))
                                                                replace q52 := eq_true q52
                                                                refine start_ (n := 10) (S := fun w' => True) (ds := []) #[false, false, false, false, false, false, false, false, false, false] (by kernel_rfl) rfl rfl trivial (fun hHeld => ?_); refine with_tabW impl_ReadPlace.tab14 impl_ReadPlace.bits14 (fun HT_ HW_ => ?_)
                                                                generalize wr.drew = w80 at HO_4 HO_61 HO_257000 BK245 BK256 HB hHeld ⊢
                                                                refine pure_ (i := 0) (N := some 71) (v := ?_) (a' := ?_) #[true, false, false, false, false, false, false, false, false, false] rfl rfl (any_of HT_.out (by kernel_rfl)) (fun _ _ _ h => h) (Or.inl ⟨by rfl, ?_⟩) ?_ ?_
                                                                rotate_left
                                                                · intro w'
                                                                  go_simp
                                                                  with_reducible rfl
                                                                rotate_left
                                                                · simp only [Act.put, List.setIfInBounds_toArray, List.set_cons_zero, List.set_cons_succ, i64_w, i32_w]
                                                                  rfl
                                                                refine pure_ (i := 4) (N := some 75) (v := ?_) (a' := ?_) #[true, false, false, false, true, false, false, false, false, false] rfl rfl (any_of HT_.out (by kernel_rfl)) (fun _ _ _ h => h) (Or.inl ⟨by rfl, ?_⟩) ?_ ?_
                                                                rotate_left
                                                                · intro w'
                                                                  go_simp
                                                                  with_reducible rfl
                                                                rotate_left
                                                                · simp only [Act.put, List.setIfInBounds_toArray, List.set_cons_zero, List.set_cons_succ, i64_w, i32_w]
                                                                  rfl
                                                                refine take_ (i := 1) (N := some 72) (v := ?_) (a' := ?_) #[true, true, false, false, true, false, false, false, false, false] rfl rfl (take_ofW HT_.out HW_.out (by kernel_rfl)) (fun _ _ _ h => h) (Or.inl ⟨by rfl, ?_⟩) hHeld ?_ ?_
                                                                rotate_left
                                                                · intro w' _
                                                                  go_simp
                                                                  with_reducible rfl
                                                                rotate_left
                                                                · simp only [Act.put, List.setIfInBounds_toArray, List.set_cons_zero, List.set_cons_succ, i64_w, i32_w]
                                                                  rfl
                                                                refine pure_ (i := 2) (N := some 73) (v := ?_) (a' := ?_) #[true, true, true, false, true, false, false, false, false, false] rfl rfl (any_of HT_.out (by kernel_rfl)) (fun _ _ _ h => h) (Or.inl ⟨by rfl, ?_⟩) ?_ ?_
                                                                rotate_left
                                                                · intro w'
                                                                  go_simp
                                                                  with_reducible rfl
                                                                rotate_left
                                                                · simp only [Act.put, List.setIfInBounds_toArray, List.set_cons_zero, List.set_cons_succ, i64_w, i32_w]
                                                                  rfl
                                                                refine pure_ (i := 3) (N := some 74) (v := ?_) (a' := ?_) #[true, true, true, true, true, false, false, false, false, false] rfl rfl (any_of HT_.out (by kernel_rfl)) (fun _ _ _ h => h) (Or.inl ⟨by rfl, ?_⟩) ?_ ?_
                                                                rotate_left
                                                                · intro w'
                                                                  go_simp
                                                                  with_reducible rfl
                                                                rotate_left
                                                                · simp only [Act.put, List.setIfInBounds_toArray, List.set_cons_zero, List.set_cons_succ, i64_w, i32_w]
                                                                  rfl
                                                                refine pure_ (i := 8) (N := some 9) (v := ?_) (a' := ?_) #[true, true, true, true, true, false, false, false, true, false] rfl rfl (any_of HT_.out (by kernel_rfl)) (fun _ _ _ h => h) (Or.inl ⟨by rfl, ?_⟩) ?_ ?_
                                                                rotate_left
                                                                · intro w'
                                                                  go_simp
                                                                  with_reducible rfl
                                                                rotate_left
                                                                · simp only [Act.put, List.setIfInBounds_toArray, List.set_cons_zero, List.set_cons_succ, i64_w, i32_w]
                                                                  rfl
                                                                refine take_ (i := 5) (N := some 76) (v := ?_) (a' := ?_) #[true, true, true, true, true, true, false, false, true, false] rfl rfl (take_ofW HT_.out HW_.out (by kernel_rfl)) (fun _ _ _ h => h) (Or.inl ⟨by rfl, ?_⟩) hHeld ?_ ?_
                                                                rotate_left
                                                                · intro w' _
                                                                  go_simp
                                                                  with_reducible rfl
                                                                rotate_left
                                                                · simp only [Act.put, List.setIfInBounds_toArray, List.set_cons_zero, List.set_cons_succ, i64_w, i32_w]
                                                                  rfl
                                                                refine pure_ (i := 6) (N := some 77) (v := ?_) (a' := ?_) #[true, true, true, true, true, true, true, false, true, false] rfl rfl (any_of HT_.out (by kernel_rfl)) (fun _ _ _ h => h) (Or.inl ⟨by rfl, ?_⟩) ?_ ?_
                                                                rotate_left
                                                                · intro w'
                                                                  go_simp
                                                                  with_reducible rfl
                                                                rotate_left
                                                                · simp only [Act.put, List.setIfInBounds_toArray, List.set_cons_zero, List.set_cons_succ, i64_w, i32_w]
                                                                  rfl
                                                                refine pure_ (i := 7) (N := some 78) (v := ?_) (a' := ?_) #[true, true, true, true, true, true, true, true, true, false] rfl rfl (any_of HT_.out (by kernel_rfl)) (fun _ _ _ h => h) (Or.inl ⟨by rfl, ?_⟩) ?_ ?_
                                                                rotate_left
                                                                · intro w'
                                                                  go_simp
                                                                  with_reducible rfl
                                                                rotate_left
                                                                · simp only [Act.put, List.setIfInBounds_toArray, List.set_cons_zero, List.set_cons_succ, i64_w, i32_w]
                                                                  rfl
                                                                refine pure_ (i := 9) (N := some 10) (v := ?_) (a' := ?_) #[true, true, true, true, true, true, true, true, true, true] rfl rfl (any_of HT_.out (by kernel_rfl)) (fun _ _ _ h => h) (Or.inl ⟨by rfl, ?_⟩) ?_ ?_
                                                                rotate_left
                                                                · intro w'
                                                                  go_simp
                                                                  with_reducible rfl
                                                                rotate_left
                                                                · simp only [Act.put, List.setIfInBounds_toArray, List.set_cons_zero, List.set_cons_succ, i64_w, i32_w]
                                                                  rfl
                                                                refine done_ (done_of HT_.out (by kernel_rfl)) ?_
                                                                try go_wp2
                                                                have n0_ := Aside0.mk (Kd.R_drew HO_4.out)
                                                                have n1_ := Aside0.mk (Kd.R_drew HO_61.out)
                                                                have n2_ := Aside0.mk (Kd.R_drew HO_257000.out)
                                                                have n3_ := Aside0.mk (blk_drew BK245.out)
                                                                have n4_ := Aside0.mk (blk_drew BK256.out)
                                                                have n5_ := Aside0.mk (below_drew1 HB.out)
                                                                clear HO_4
                                                                clear HO_61
                                                                clear HO_257000
                                                                clear BK245
                                                                clear BK256
                                                                clear HB
                                                                have HO_4 := n0_
                                                                have HO_61 := n1_
                                                                have HO_257000 := n2_
                                                                have BK245 := n3_
                                                                have BK256 := n4_
                                                                have HB := n5_
                                                                clear n0_ n1_ n2_ n3_ n4_ n5_
                                                                obtain ⟨Ao82, co82, eo82⟩ := Kd.R_slice HO_257000.out
                                                                (first | subst eo82 | (injection eo82 with f1_ f2_ f3_; have f4_ := f1_.symm; have f5_ := f3_.symm; clear f1_ f2_ f3_; subst f4_; subst f5_))
                                                                have p263 : 0 ≤ ((ji69) : Int) := of_decide_eq_true (by first | (with_reducible assumption) | assumption)
                                                                have q263 : (ji69) < (x257000_3.length : Int) := of_decide_eq_true (by first | (with_reducible assumption) | assumption)
                                                                obtain ⟨ad263, e263, hx263_0⟩ := Kd.at_int (Kd.R_reads' HO_257000.out).2.2 (ji69) p263 q263
                                                                cases e263
                                                                replace p263 := eq_true p263
                                                                replace q263 := eq_true q263
                                                                have p75 : 0 ≤ ((ji69) : Int) := of_decide_eq_true (by first | (with_reducible assumption) | assumption)
                                                                have q75 : ((ji69) : Int) < ((x257000_3.length : Int) : Int) := of_decide_eq_true (by first | (with_reducible assumption) | assumption)
                                                                obtain ⟨go75, co75, eo75, gb75, gl75, cl75, HG75⟩ := Kd.R_form HO_257000.out (by omega)
                                                                (first | cases eo75 | (injection eo75 with ea_ en_ ec_; (first | subst ea_ | (injection ea_ with ea_; subst ea_)); subst ec_; clear en_))
                                                                have GB75 := Aside0.mk gb75
                                                                have GG75 := Aside0.mk HG75
                                                                clear gb75 gl75 HG75
                                                                (first | simp only [add_plain] at hx263_0 | skip)
                                                                obtain ⟨hx75_0, hf75_0⟩ := Kd.R_celln 0 HO_257000.out ((ji69) : Int) p75 q75
                                                                replace p75 := eq_true p75
                                                                replace q75 := eq_true q75
                                                                have HP83 := Kd.R_putn HO_257000.out ((ji69) : Int) (Go.bits .or .i64 (rd x257000_3 (ji69)) (ji74))
                                                                rw [← Ny264.out] at HP83
                                                                have HQ83 := Aside0.mk HP83
                                                                clear HP83
                                                                refine start_ (n := 10) (S := fun w' => w'.cell? ⟨gb256, 0, none⟩ = some (.slice (some ⟨go75, 0, none⟩) x257000_3.length co82) ∧ w'.cell? ⟨gb256, 1, none⟩ = some (.int .i64 (wrap64 ((wrap64 (bt (rdOf ByteArray.empty t246 2) 0)) - 48))) ∧ w'.cell? ⟨gb256, 2, none⟩ = some (.slice none 0 0) ∧ w'.cell? ⟨go75, ((ji69)).toNat, none⟩ = some (.int .i64 (rd x257000_3 (ji69)))) (ds := [9]) #[false, false, false, false, false, false, false, false, false, false] (by kernel_rfl) rfl rfl ⟨(blk_cell BK256.out 0).trans rfl, (blk_cell BK256.out 1).trans rfl, (blk_cell BK256.out 2).trans rfl, hx263_0⟩ (fun hHeld => ?_); refine with_tabW impl_ReadPlace.tab17 impl_ReadPlace.bits17 (fun HT_ HW_ => ?_)
                                                                generalize w80.drew = w81 at HO_4 HO_61 HO_257000 BK245 BK256 HB GG75 HQ83 hf75_0 hx263_0 hx75_0 hHeld ⊢
                                                                refine pure_ (i := 0) (N := some 96) (v := ?_) (a' := ?_) #[true, false, false, false, false, false, false, false, false, false] rfl rfl (any_of HT_.out (by kernel_rfl)) (fun _ _ _ h => h) (Or.inl ⟨by rfl, ?_⟩) ?_ ?_
                                                                rotate_left
                                                                · intro w'
                                                                  go_simp
                                                                  with_reducible rfl
                                                                rotate_left
                                                                · simp only [Act.put, List.setIfInBounds_toArray, List.set_cons_zero, List.set_cons_succ, i64_w, i32_w]
                                                                  rfl
                                                                refine pure_ (i := 2) (N := some 98) (v := ?_) (a' := ?_) #[true, false, true, false, false, false, false, false, false, false] rfl rfl (any_of HT_.out (by kernel_rfl)) (fun _ _ _ h => h) (Or.inl ⟨by rfl, ?_⟩) ?_ ?_
                                                                rotate_left
                                                                · intro w'
                                                                  go_simp
                                                                  with_reducible rfl
                                                                rotate_left
                                                                · simp only [Act.put, List.setIfInBounds_toArray, List.set_cons_zero, List.set_cons_succ, i64_w, i32_w]
                                                                  rfl
                                                                refine pure_ (i := 5) (N := some 101) (v := ?_) (a' := ?_) #[true, false, true, false, false, true, false, false, false, false] rfl rfl (any_of HT_.out (by kernel_rfl)) (fun _ _ _ h => h) (Or.inl ⟨by rfl, ?_⟩) ?_ ?_
                                                                rotate_left
                                                                · intro w'
                                                                  go_simp
                                                                  with_reducible rfl
                                                                rotate_left
                                                                · simp only [Act.put, List.setIfInBounds_toArray, List.set_cons_zero, List.set_cons_succ, i64_w, i32_w]
                                                                  rfl
                                                                refine pure_ (i := 6) (N := some 102) (v := ?_) (a' := ?_) #[true, false, true, false, false, true, true, false, false, false] rfl rfl (any_of HT_.out (by kernel_rfl)) (fun _ _ _ h => h) (Or.inl ⟨by rfl, ?_⟩) ?_ ?_
                                                                rotate_left
                                                                · intro w'
                                                                  go_simp
                                                                  with_reducible rfl
                                                                rotate_left
                                                                · simp only [Act.put, List.setIfInBounds_toArray, List.set_cons_zero, List.set_cons_succ, i64_w, i32_w]
                                                                  rfl
                                                                refine take_ (i := 1) (N := some 97) (v := ?_) (a' := ?_) #[true, true, true, false, false, true, true, false, false, false] rfl rfl (take_ofW HT_.out HW_.out (by kernel_rfl)) (fun _ _ _ h => h) (Or.inl ⟨by rfl, ?_⟩) hHeld ?_ ?_
                                                                rotate_left
                                                                · rintro w' ⟨s0, s1, s2, s3⟩
                                                                  go_simp
                                                                  with_reducible rfl
                                                                rotate_left
                                                                · simp only [Act.put, List.setIfInBounds_toArray, List.set_cons_zero, List.set_cons_succ, i64_w, i32_w]
                                                                  rfl
                                                                refine pure_ (i := 3) (N := some 99) (v := ?_) (a' := ?_) #[true, true, true, true, false, true, true, false, false, false] rfl rfl (any_of HT_.out (by kernel_rfl)) (fun _ _ _ h => h) (Or.inl ⟨by rfl, ?_⟩) ?_ ?_
                                                                rotate_left
                                                                · intro w'
                                                                  go_simp
                                                                  with_reducible rfl
                                                                rotate_left
                                                                · simp only [Act.put, List.setIfInBounds_toArray, List.set_cons_zero, List.set_cons_succ, i64_w, i32_w]
                                                                  rfl
                                                                refine take_ (i := 4) (N := some 100) (v := ?_) (a' := ?_) #[true, true, true, true, true, true, true, false, false, false] rfl rfl (take_ofW HT_.out HW_.out (by kernel_rfl)) (fun _ _ _ h => h) (Or.inl ⟨by rfl, ?_⟩) hHeld ?_ ?_
                                                                rotate_left
                                                                · rintro w' ⟨s0, s1, s2, s3⟩
                                                                  go_simp
                                                                  with_reducible rfl
                                                                rotate_left
                                                                · simp only [Act.put, List.setIfInBounds_toArray, List.set_cons_zero, List.set_cons_succ, i64_w, i32_w]
                                                                  rfl
                                                                refine pure_ (i := 7) (N := some 103) (v := ?_) (a' := ?_) #[true, true, true, true, true, true, true, true, false, false] rfl rfl (any_of HT_.out (by kernel_rfl)) (fun _ _ _ h => h) (Or.inl ⟨by rfl, ?_⟩) ?_ ?_
                                                                rotate_left
                                                                · intro w'
                                                                  go_simp
                                                                  with_reducible rfl
                                                                rotate_left
                                                                · simp only [Act.put, List.setIfInBounds_toArray, List.set_cons_zero, List.set_cons_succ, i64_w, i32_w]
                                                                  rfl
                                                                refine pure_ (i := 8) (N := some 104) (v := ?_) (a' := ?_) #[true, true, true, true, true, true, true, true, true, false] rfl rfl (any_of HT_.out (by kernel_rfl)) (fun _ _ _ h => h) (Or.inl ⟨by rfl, ?_⟩) ?_ ?_
                                                                rotate_left
                                                                · intro w'
                                                                  go_simp
                                                                  with_reducible rfl
                                                                rotate_left
                                                                · simp only [Act.put, List.setIfInBounds_toArray, List.set_cons_zero, List.set_cons_succ, i64_w, i32_w]
                                                                  rfl
                                                                refine last_ (i := 9) (N := none) #[true, true, true, true, true, true, true, true, true, true] rfl rfl (one_of HT_.out (by kernel_rfl)) (by decide) (fun K hK => ?_)
                                                                refine skip_ (w1 := ?_) (by rfl) rfl ?_ ?_
                                                                rotate_left
                                                                · go_simp
                                                                  rfl
                                                                refine hK.out _ _ ?_
                                                                clear hK K
                                                                refine done_ (done_of HT_.out (by kernel_rfl)) ?_
                                                                try go_wp2
                                                                have n0_ : Aside0 (Kd.R Kd.string 9 (w81.setCell ⟨go75, ((ji69) : Int).toNat, none⟩ (.int .i64 (Go.bits .or .i64 (rd x257000_3 (ji69)) (ji74)))) w.heap.size (fun k_ => some k_ ≠ (.slice (some ad262) t259.length co44 : Value).ownBlock) (.slice (some ad251) t246.length co19) t246) := ⟨by (with_reducible repeat (first | apply Kd.R_alloc | apply Kd.R_drewN | apply Kd.R_drew)); exact Kd.R_mono (Kd.R_far (p := ⟨go75, ((ji69) : Int).toNat, none⟩) (Kd.R_types HO_4.out GG75.out (by decide)) (fun _ hk => hk.2) (.int .i64 (Go.bits .or .i64 (rd x257000_3 (ji69)) (ji74)))) (fun _ hk => hk.1)⟩
                                                                have n1_ : Aside0 (Kd.R Kd.string 9 (w81.setCell ⟨go75, ((ji69) : Int).toNat, none⟩ (.int .i64 (Go.bits .or .i64 (rd x257000_3 (ji69)) (ji74)))) w.heap.size (fun k_ => some k_ ≠ (.slice (some ad251) t246.length co19 : Value).ownBlock) (.slice (some ad262) t259.length co44) t259) := ⟨by (with_reducible repeat (first | apply Kd.R_alloc | apply Kd.R_drewN | apply Kd.R_drew)); exact Kd.R_mono (Kd.R_far (p := ⟨go75, ((ji69) : Int).toNat, none⟩) (Kd.R_types HO_61.out GG75.out (by decide)) (fun _ hk => hk.2) (.int .i64 (Go.bits .or .i64 (rd x257000_3 (ji69)) (ji74)))) (fun _ hk => hk.1)⟩
                                                                have n2_ : Aside0 (Kd.R (Kd.int .i64) 3 (w81.setCell ⟨go75, ((ji69) : Int).toNat, none⟩ (.int .i64 (Go.bits .or .i64 (rd x257000_3 (ji69)) (ji74)))) w.heap.size (fun _ => True) (.slice (some ⟨go75, 0, none⟩) x257000_3.length co82) y264) := ⟨by (with_reducible repeat (first | apply Kd.R_alloc | apply Kd.R_drewN | apply Kd.R_drew)); exact HQ83.out⟩
                                                                have n3_ : Aside0 ((w81.setCell ⟨go75, ((ji69) : Int).toNat, none⟩ (.int .i64 (Go.bits .or .i64 (rd x257000_3 (ji69)) (ji74)))).heap[gb245]? = some (.cells #[.slice none 0 0, .int .i64 x246001_3, .slice none 0 0] 36 (0, 0))) := ⟨by (with_reducible repeat (first | refine blk_drewN ?_ _ | refine blk_drew ?_ | refine blk_alloc ?_ _)); refine blk_far ?_ (by have h_ := Kd.R_ne HO_257000.out BK245.out (by decide); intro e_; exact h_ (by rw [e_]; rfl)) _; (with_reducible repeat (first | refine blk_drewN ?_ _ | refine blk_drew ?_ | refine blk_alloc ?_ _)); exact BK245.out⟩
                                                                have n4_ : Aside0 ((w81.setCell ⟨go75, ((ji69) : Int).toNat, none⟩ (.int .i64 (Go.bits .or .i64 (rd x257000_3 (ji69)) (ji74)))).heap[gb256]? = some (.cells #[.slice (some ⟨go75, 0, none⟩) x257000_3.length co82, .int .i64 (wrap64 ((wrap64 (bt (rdOf ByteArray.empty t246 2) 0)) - 48)), .slice none 0 0] 36 (0, 0))) := ⟨by (with_reducible repeat (first | refine blk_drewN ?_ _ | refine blk_drew ?_ | refine blk_alloc ?_ _)); refine blk_far ?_ (by have h_ := Kd.R_ne HO_257000.out BK256.out (by decide); intro e_; exact h_ (by rw [e_]; rfl)) _; (with_reducible repeat (first | refine blk_drewN ?_ _ | refine blk_drew ?_ | refine blk_alloc ?_ _)); exact BK256.out⟩
                                                                have n5_ : Aside0 (Below w.heap.size w (w81.setCell ⟨go75, ((ji69) : Int).toNat, none⟩ (.int .i64 (Go.bits .or .i64 (rd x257000_3 (ji69)) (ji74))))) := ⟨by repeat (first | (with_reducible first | exact HB.out | apply below_alloc | apply pw_below_drewN | apply below_drew1 | refine below_set ?_ GB75.out | refine below_set ?_ GE245.out | refine below_set ?_ GE256.out) | exact HB.out)⟩
                                                                (try clear HO_4)
                                                                (try clear HO_61)
                                                                (try clear HO_257000)
                                                                (try clear BK245)
                                                                (try clear BK256)
                                                                (try clear HB)
                                                                generalize (w81.setCell ⟨go75, ((ji69) : Int).toNat, none⟩ (.int .i64 (Go.bits .or .i64 (rd x257000_3 (ji69)) (ji74)))) = w84 at n0_ n1_ n2_ n3_ n4_ n5_ ⊢
                                                                have HO_4 := n0_
                                                                have HO_61 := n1_
                                                                have HO_257000 := n2_
                                                                have BK245 := n3_
                                                                have BK256 := n4_
                                                                have HB := n5_
                                                                clear n0_ n1_ n2_ n3_ n4_ n5_
                                                                have n0_ := Aside0.mk (Kd.R_drew HO_4.out)
                                                                have n1_ := Aside0.mk (Kd.R_drew HO_61.out)
                                                                have n2_ := Aside0.mk (Kd.R_drew HO_257000.out)
                                                                have n3_ := Aside0.mk (blk_drew BK245.out)
                                                                have n4_ := Aside0.mk (blk_drew BK256.out)
                                                                have n5_ := Aside0.mk (below_drew1 HB.out)
                                                                clear HO_4
                                                                clear HO_61
                                                                clear HO_257000
                                                                clear BK245
                                                                clear BK256
                                                                clear HB
                                                                have HO_4 := n0_
                                                                have HO_61 := n1_
                                                                have HO_257000 := n2_
                                                                have BK245 := n3_
                                                                have BK256 := n4_
                                                                have HB := n5_
                                                                clear n0_ n1_ n2_ n3_ n4_ n5_
                                                                have p265 : 0 ≤ ((ji72) : Int) := of_decide_eq_true (by first | (with_reducible assumption) | assumption)
                                                                have q265 : (ji72) < (y264.length : Int) := (by have h_ : ((ji72) : Int) < ((x257000_3.length : Int) : Int) := of_decide_eq_true (by first | (with_reducible assumption) | assumption); first | (have e_ := (Kd.R_reads' HO_257000.out).1; omega) | simpa only [Ny264.out, List.length_set] using h_)
                                                                have ql265 : (((ji72) : Int) < ((x257000_3.length : Int) : Int)) = True := eq_true (of_decide_eq_true (by first | (with_reducible assumption) | assumption))
                                                                obtain ⟨ad265, e265, hx265_0⟩ := Kd.at_int (Kd.R_reads' HO_257000.out).2.2 (ji72) p265 q265
                                                                obtain rfl : (⟨go75, 0, none⟩ : Addr) = ad265 := (by injection e265)
                                                                (first | simp only [add_plain] at hx265_0 | simp only [add_at] at hx265_0 | simp only [Addr.add, Nat.zero_add] at hx265_0 | skip)
                                                                replace p265 := eq_true p265
                                                                replace q265 := eq_true q265
                                                                have p79 : 0 ≤ ((ji72) : Int) := of_decide_eq_true (by first | (with_reducible assumption) | assumption)
                                                                have q79 : ((ji72) : Int) < ((x257000_3.length : Int) : Int) := of_decide_eq_true (by first | (with_reducible assumption) | assumption)
                                                                obtain ⟨hx79_0, hf79_0⟩ := Kd.R_celln 0 HO_257000.out ((ji72) : Int) p79 q79
                                                                replace p79 := eq_true p79
                                                                replace q79 := eq_true q79
                                                                obtain ⟨gz_, cz_, ez_, _, _, clz_, hz_⟩ := Kd.R_form HO_257000.out (by have h1_ : 0 ≤ (ji72 : Int) := of_decide_eq_true (by first | (with_reducible assumption) | assumption); have h2_ : (ji72 : Int) < ((x257000_3.length : Int) : Int) := of_decide_eq_true (by first | (with_reducible assumption) | assumption); have e2_ := (Kd.R_reads' HO_257000.out).1; omega)
                                                                injection ez_ with ea_ _ _
                                                                injection ea_ with ea_
                                                                injection ea_ with ea_ _ _
                                                                subst ea_
                                                                clear GG75
                                                                have GG75 := Aside0.mk hz_
                                                                clear hz_
                                                                have HP86 := Kd.R_putn HO_257000.out ((ji72) : Int) (Go.bits .or .i64 (rd y264 (ji72)) (ji78))
                                                                rw [← Ny266.out] at HP86
                                                                have HQ86 := Aside0.mk HP86
                                                                clear HP86
                                                                refine start_ (n := 10) (S := fun w' => w'.cell? ⟨gb256, 0, none⟩ = some (.slice (some ⟨go75, 0, none⟩) x257000_3.length co82) ∧ w'.cell? ⟨gb256, 1, none⟩ = some (.int .i64 (wrap64 ((wrap64 (bt (rdOf ByteArray.empty t246 2) 0)) - 48))) ∧ w'.cell? ⟨gb256, 2, none⟩ = some (.slice none 0 0) ∧ w'.cell? ⟨go75, ((ji72)).toNat, none⟩ = some (.int .i64 (rd y264 (ji72)))) (ds := [9]) #[false, false, false, false, false, false, false, false, false, false] (by kernel_rfl) rfl rfl ⟨(blk_cell BK256.out 0).trans rfl, (blk_cell BK256.out 1).trans rfl, (blk_cell BK256.out 2).trans rfl, hx265_0⟩ (fun hHeld => ?_); refine with_tabW impl_ReadPlace.tab18 impl_ReadPlace.bits18 (fun HT_ HW_ => ?_)
                                                                generalize w84.drew = w85 at GG75 HO_4 HO_61 HO_257000 BK245 BK256 HB HQ83 HQ86 hf79_0 hx265_0 hx79_0 hHeld ⊢
                                                                refine pure_ (i := 0) (N := some 105) (v := ?_) (a' := ?_) #[true, false, false, false, false, false, false, false, false, false] rfl rfl (any_of HT_.out (by kernel_rfl)) (fun _ _ _ h => h) (Or.inl ⟨by rfl, ?_⟩) ?_ ?_
                                                                rotate_left
                                                                · intro w'
                                                                  go_simp
                                                                  with_reducible rfl
                                                                rotate_left
                                                                · simp only [Act.put, List.setIfInBounds_toArray, List.set_cons_zero, List.set_cons_succ, i64_w, i32_w]
                                                                  rfl
                                                                refine pure_ (i := 2) (N := some 107) (v := ?_) (a' := ?_) #[true, false, true, false, false, false, false, false, false, false] rfl rfl (any_of HT_.out (by kernel_rfl)) (fun _ _ _ h => h) (Or.inl ⟨by rfl, ?_⟩) ?_ ?_
                                                                rotate_left
                                                                · intro w'
                                                                  go_simp
                                                                  with_reducible rfl
                                                                rotate_left
                                                                · simp only [Act.put, List.setIfInBounds_toArray, List.set_cons_zero, List.set_cons_succ, i64_w, i32_w]
                                                                  rfl
                                                                refine pure_ (i := 5) (N := some 110) (v := ?_) (a' := ?_) #[true, false, true, false, false, true, false, false, false, false] rfl rfl (any_of HT_.out (by kernel_rfl)) (fun _ _ _ h => h) (Or.inl ⟨by rfl, ?_⟩) ?_ ?_
                                                                rotate_left
                                                                · intro w'
                                                                  go_simp
                                                                  with_reducible rfl
                                                                rotate_left
                                                                · simp only [Act.put, List.setIfInBounds_toArray, List.set_cons_zero, List.set_cons_succ, i64_w, i32_w]
                                                                  rfl
                                                                refine pure_ (i := 6) (N := some 111) (v := ?_) (a' := ?_) #[true, false, true, false, false, true, true, false, false, false] rfl rfl (any_of HT_.out (by kernel_rfl)) (fun _ _ _ h => h) (Or.inl ⟨by rfl, ?_⟩) ?_ ?_
                                                                rotate_left
                                                                · intro w'
                                                                  go_simp
                                                                  with_reducible rfl
                                                                rotate_left
                                                                · simp only [Act.put, List.setIfInBounds_toArray, List.set_cons_zero, List.set_cons_succ, i64_w, i32_w]
                                                                  rfl
                                                                refine take_ (i := 1) (N := some 106) (v := ?_) (a' := ?_) #[true, true, true, false, false, true, true, false, false, false] rfl rfl (take_ofW HT_.out HW_.out (by kernel_rfl)) (fun _ _ _ h => h) (Or.inl ⟨by rfl, ?_⟩) hHeld ?_ ?_
                                                                rotate_left
                                                                · rintro w' ⟨s0, s1, s2, s3⟩
                                                                  go_simp
                                                                  with_reducible rfl
                                                                rotate_left
                                                                · simp only [Act.put, List.setIfInBounds_toArray, List.set_cons_zero, List.set_cons_succ, i64_w, i32_w]
                                                                  rfl
                                                                refine pure_ (i := 3) (N := some 108) (v := ?_) (a' := ?_) #[true, true, true, true, false, true, true, false, false, false] rfl rfl (any_of HT_.out (by kernel_rfl)) (fun _ _ _ h => h) (Or.inl ⟨by rfl, ?_⟩) ?_ ?_
                                                                rotate_left
                                                                · intro w'
                                                                  go_simp
                                                                  with_reducible rfl
                                                                rotate_left
                                                                · simp only [Act.put, List.setIfInBounds_toArray, List.set_cons_zero, List.set_cons_succ, i64_w, i32_w]
                                                                  rfl
                                                                refine take_ (i := 4) (N := some 109) (v := ?_) (a' := ?_) #[true, true, true, true, true, true, true, false, false, false] rfl rfl (take_ofW HT_.out HW_.out (by kernel_rfl)) (fun _ _ _ h => h) (Or.inl ⟨by rfl, ?_⟩) hHeld ?_ ?_
                                                                rotate_left
                                                                · rintro w' ⟨s0, s1, s2, s3⟩
                                                                  go_simp
                                                                  with_reducible rfl
                                                                rotate_left
                                                                · simp only [Act.put, List.setIfInBounds_toArray, List.set_cons_zero, List.set_cons_succ, i64_w, i32_w]
                                                                  rfl
                                                                refine pure_ (i := 7) (N := some 112) (v := ?_) (a' := ?_) #[true, true, true, true, true, true, true, true, false, false] rfl rfl (any_of HT_.out (by kernel_rfl)) (fun _ _ _ h => h) (Or.inl ⟨by rfl, ?_⟩) ?_ ?_
                                                                rotate_left
                                                                · intro w'
                                                                  go_simp
                                                                  with_reducible rfl
                                                                rotate_left
                                                                · simp only [Act.put, List.setIfInBounds_toArray, List.set_cons_zero, List.set_cons_succ, i64_w, i32_w]
                                                                  rfl
                                                                refine pure_ (i := 8) (N := some 113) (v := ?_) (a' := ?_) #[true, true, true, true, true, true, true, true, true, false] rfl rfl (any_of HT_.out (by kernel_rfl)) (fun _ _ _ h => h) (Or.inl ⟨by rfl, ?_⟩) ?_ ?_
                                                                rotate_left
                                                                · intro w'
                                                                  go_simp
                                                                  with_reducible rfl
                                                                rotate_left
                                                                · simp only [Act.put, List.setIfInBounds_toArray, List.set_cons_zero, List.set_cons_succ, i64_w, i32_w]
                                                                  rfl
                                                                refine last_ (i := 9) (N := none) #[true, true, true, true, true, true, true, true, true, true] rfl rfl (one_of HT_.out (by kernel_rfl)) (by decide) (fun K hK => ?_)
                                                                refine skip_ (w1 := ?_) (by rfl) rfl ?_ ?_
                                                                rotate_left
                                                                · go_simp
                                                                  rfl
                                                                refine hK.out _ _ ?_
                                                                clear hK K
                                                                refine done_ (done_of HT_.out (by kernel_rfl)) ?_
                                                                try go_wp2
                                                                go_roundg k3
                                                                case measure => have := HJ2.out; have := HJ17.out; have := HK3.out; omega
                                                                case rel => exact ⟨(wrap64 (x63_3 + 1)), (x246001_3), (y266), (.slice (some ⟨go75, 0, none⟩) x257000_3.length co82), (by first | rfl | (simp; done) | (simp [*]; done)), H', ⟨by have := HJ2.out; have := HJ17.out; have := HK3.out; omega⟩, ⟨by (with_reducible repeat (first | apply Kd.R_alloc | apply Kd.R_drewN | apply Kd.R_drew)); exact Kd.R_mono (Kd.R_far (p := ⟨go75, ((ji72) : Int).toNat, none⟩) (Kd.R_types HO_4.out GG75.out (by decide)) (fun _ hk => hk.2) (.int .i64 (Go.bits .or .i64 (rd y264 (ji72)) (ji78)))) (fun _ hk => hk.1)⟩, ⟨by (with_reducible repeat (first | apply Kd.R_alloc | apply Kd.R_drewN | apply Kd.R_drew)); exact Kd.R_mono (Kd.R_far (p := ⟨go75, ((ji72) : Int).toNat, none⟩) (Kd.R_types HO_61.out GG75.out (by decide)) (fun _ hk => hk.2) (.int .i64 (Go.bits .or .i64 (rd y264 (ji72)) (ji78)))) (fun _ hk => hk.1)⟩, ⟨by (with_reducible repeat (first | apply Kd.R_alloc | apply Kd.R_drewN | apply Kd.R_drew)); exact HQ86.out⟩, ⟨by (with_reducible repeat (first | refine blk_drewN ?_ _ | refine blk_drew ?_ | refine blk_alloc ?_ _)); refine blk_far ?_ (by have h_ := Kd.R_ne HO_257000.out BK245.out (by decide); intro e_; exact h_ (by rw [e_]; rfl)) _; (with_reducible repeat (first | refine blk_drewN ?_ _ | refine blk_drew ?_ | refine blk_alloc ?_ _)); exact BK245.out⟩, ⟨by (with_reducible repeat (first | refine blk_drewN ?_ _ | refine blk_drew ?_ | refine blk_alloc ?_ _)); refine blk_far ?_ (by have h_ := Kd.R_ne HO_257000.out BK256.out (by decide); intro e_; exact h_ (by rw [e_]; rfl)) _; (with_reducible repeat (first | refine blk_drewN ?_ _ | refine blk_drew ?_ | refine blk_alloc ?_ _)); exact BK256.out⟩, ⟨by repeat (first | (with_reducible first | exact HB.out | apply below_alloc | apply pw_below_drewN | apply below_drew1 | refine below_set ?_ GB75.out | refine below_set ?_ GE245.out | refine below_set ?_ GE256.out) | exact HB.out)⟩⟩
                                                              · rw [if_neg c76] at H
                                                                exact absurd H (by simp)
                                                            · rw [if_neg c73] at H
                                                              exact absurd H (by simp)
                                                          · rw [if_neg c71] at H
                                                            exact absurd H (by simp)
                                                        · rw [if_neg c70] at H
                                                          exact absurd H (by simp)
                                              · rw [if_neg c51] at H
                                                exact absurd H (by simp)
                                            · rw [if_neg c49] at H
                                              exact absurd H (by simp)
                                          · rw [if_neg c48] at H
                                            have c48b0 : (((rdOf ByteArray.empty t259 x63_3).size : Int) == 2) = false := beq_eq_false_iff_ne.mpr c48
                                            have c48b1 : (((rdOf ByteArray.empty t259 x63_3).size : Int) != 2) = true := bne_iff_ne.mpr c48
                                            simp only [Option.some.injEq, Prod.mk.injEq] at H
                                            obtain ⟨rfl, rfl, rfl, rfl⟩ := H
                                            have p262 : 0 ≤ (x63_3 : Int) := of_decide_eq_true (by first | (with_reducible assumption) | assumption)
                                            have q262 : x63_3 < (t259.length : Int) := of_decide_eq_true (by first | (with_reducible assumption) | assumption)
                                            obtain ⟨ad262, e262, hx262_0⟩ := Kd.at_string (Kd.R_reads' HO_61.out).2.2 x63_3 p262 q262
                                            cases e262
                                            replace p262 := eq_true p262
                                            replace q262 := eq_true q262
                                            have hnb87 := NB245_256.out
                                            have hnc87 := NB256_245.out
                                            have hcz88_0 : wr.cell? ⟨gb245, 0, none⟩ = some (.slice none 0 0) := (blk_cell BK245.out 0).trans rfl
                                            have hcz88_1 : wr.cell? ⟨gb245, 1, none⟩ = some (.int .i64 x246001_3) := (blk_cell BK245.out 1).trans rfl
                                            have hcz88_2 : wr.cell? ⟨gb245, 2, none⟩ = some (.slice none 0 0) := (blk_cell BK245.out 2).trans rfl
                                            have hfz88_0 := blk_frozen BK245.out 0
                                            have hfz88_1 := blk_frozen BK245.out 1
                                            have hfz88_2 := blk_frozen BK245.out 2
                                            go_wp2
                                            refine bodyPost_ret (results_ct rfl _ _ gb245 36 #[.slice none 0 0, .int .i64 0, .slice none 0 0] (0, 0) _ rfl (by (with_reducible repeat (first | refine blk_drewN ?_ _ | refine blk_drew ?_ | refine blk_alloc ?_ _)); refine blk_put (cs := #[.slice none 0 0, .int .i64 0, .slice none 0 0]) ?_ 2 _ rfl; (with_reducible repeat (first | refine blk_drewN ?_ _ | refine blk_drew ?_ | refine blk_alloc ?_ _)); refine blk_put (cs := #[.slice none 0 0, .int .i64 x246001_3, .slice none 0 0]) ?_ 1 _ rfl; (with_reducible repeat (first | refine blk_drewN ?_ _ | refine blk_drew ?_ | refine blk_alloc ?_ _)); refine blk_put (cs := #[.slice none 0 0, .int .i64 x246001_3, .slice none 0 0]) ?_ 0 _ rfl; (with_reducible repeat (first | refine blk_drewN ?_ _ | refine blk_drew ?_ | refine blk_alloc ?_ _)); exact BK245.out) Tryd.underlying36 rfl (by kernel_rfl)) rfl ?_
                                            exact ⟨_, _, by first | rfl | (simp [errW_none, errW_some] <;> rfl) | (simp only [← hji23]; first | rfl | (simp [errW_none, errW_some] <;> rfl)) | (simp [*, errW_none, errW_some] <;> rfl), by first | exact Kd.R_nil _ _ _ _ _ | exact Kd.N_nil _ _ _ _ _ | exact Kd.V_nil _ _ _ _ _ | exact Kd.Q_nil _ _ _ _ _ | exact Kd.S_nil _ _ _ _ _, by first | exact Kd.R_nil _ _ _ _ _ | exact Kd.N_nil _ _ _ _ _ | exact Kd.V_nil _ _ _ _ _ | exact Kd.Q_nil _ _ _ _ _ | exact Kd.S_nil _ _ _ _ _, by repeat (first | (with_reducible first | exact HB.out | apply below_alloc | apply pw_below_drewN | apply below_drew1 | refine below_set ?_ GE245.out | refine below_set ?_ GE256.out) | exact HB.out)⟩
                                        · rw [if_neg c47] at H
                                          exact absurd H (by simp)
                                      · rw [if_neg c46] at H
                                        exact absurd H (by simp)
                                    · rw [if_neg c45] at H
                                      have c45b0 : decide (x63_3 < (t259.length : Int)) = false := decide_eq_false c45
                                      clear c45
                                      have H' := Aside0.mk H
                                      clear H
                                      go_wp2
                                      subst hji23
                                      go_meet
                                      case rel => exact ⟨_, (x246001_3), (x257000_3), (u257000), H', ⟨by have := HJ2.out; have := HJ17.out; have := HK3.out; first | omega | exact Nat.le_refl _⟩, ⟨by (with_reducible repeat (first | apply Kd.R_alloc | apply Kd.R_drewN | apply Kd.R_drew)); exact Kd.R_mono HO_4.out (fun _ hk => trivial)⟩, ⟨by (with_reducible repeat (first | apply Kd.R_alloc | apply Kd.R_drewN | apply Kd.R_drew)); exact HO_257000.out⟩, ⟨by (with_reducible repeat (first | refine blk_drewN ?_ _ | refine blk_drew ?_ | refine blk_alloc ?_ _)); exact BK245.out⟩, ⟨by (with_reducible repeat (first | refine blk_drewN ?_ _ | refine blk_drew ?_ | refine blk_alloc ?_ _)); exact BK256.out⟩, ⟨by repeat (first | (with_reducible first | exact HB.out | apply below_alloc | apply pw_below_drewN | apply below_drew1 | refine below_set ?_ GE245.out | refine below_set ?_ GE256.out) | exact HB.out)⟩⟩
                            case rest =>
                              clear HC30
                              try clear p2
                              try clear q2
                              try clear hx2
                              try clear c4
                              try clear c5
                              try clear p5
                              try clear q5
                              try clear hx5
                              try clear qi5
                              try clear c6
                              try clear p6
                              try clear c7
                              try clear p7
                              try clear q7
                              try clear hx7
                              try clear hf7
                              try clear c8
                              try clear p26
                              try clear q26
                              try clear hx26
                              try clear c45
                              try clear c45b0
                              try clear c46
                              try clear c47
                              try clear c48
                              try clear c48b0
                              try clear c48b1
                              try clear c49
                              try clear p50
                              try clear q50
                              try clear hx50
                              try clear qi50
                              try clear c51
                              try clear p52
                              try clear q52
                              try clear hx52
                              try clear qi52
                              try clear c53
                              try clear c53b0
                              try clear c57
                              try clear c57b0
                              try clear c61
                              try clear c61b0
                              try clear p64
                              try clear c65
                              try clear c65b0
                              try clear c67
                              try clear c70
                              try clear c70b0
                              try clear c71
                              try clear c71b0
                              try clear c73
                              try clear c73b0
                              try clear c73b1
                              try clear p75
                              try clear q75
                              try clear hx75
                              try clear hf75
                              try clear c76
                              try clear c76b0
                              try clear c77
                              try clear c77b0
                              try clear p79
                              try clear q79
                              try clear hx79
                              try clear hf79
                              try clear c87
                              try clear hcz68_0
                              try clear hcz68_1
                              try clear hcz68_2
                              try clear hcz88_0
                              try clear hcz88_1
                              try clear hcz88_2
                              try clear hfz68_0
                              try clear hfz68_1
                              try clear hfz68_2
                              try clear hfz88_0
                              try clear hfz88_1
                              try clear hfz88_2
                              try clear hx262_0
                              try clear hx263_0
                              try clear hx265_0
                              try clear hx75_0
                              try clear hx79_0
                              try clear p262
                              try clear p263
                              try clear p265
                              try clear p50
                              try clear p52
                              try clear p75
                              try clear p79
                              try clear q262
                              try clear q263
                              try clear q265
                              try clear q50
                              try clear q52
                              try clear q75
                              try clear q79
                              obtain ⟨kq, x246001_29, x257000_29, u257000, HA, HJ29, HO_4, HO_257000, BK245, BK256, HB⟩ := hcut
                              cases kq with
                              | zero => exact absurd HA.out (by simp [impl_ReadPlace.j3])
                              | succ kj29 =>
                                have H := HA.out
                                clear HA
                                simp only [impl_ReadPlace.j3] at H
                                by_cases c89 : 3 < (t246.length : Int)
                                · rw [if_pos c89] at H
                                  have c89b0 : decide (3 < (t246.length : Int)) = true := decide_eq_true c89
                                  have c89b1 : decide (3 < t246.length) = true := decide_eq_true (by omega)
                                  clear c89
                                  have H' := Aside0.mk H
                                  clear H
                                  have p267 : 0 ≤ (3 : Int) := (by omega)
                                  have q267 : 3 < (t246.length : Int) := of_decide_eq_true (by first | (with_reducible assumption) | assumption)
                                  obtain ⟨ad267, e267, hx267_0⟩ := Kd.at_string (Kd.R_reads' HO_4.out).2.2 3 p267 q267
                                  obtain rfl : ad251 = ad267 := (by injection e267)
                                  (try simp only [show (3 : Int).toNat = 3 from rfl, Nat.reduceMul, Nat.reduceEqDiff, Go.Addr.add, ↓reduceIte] at hx267_0)
                                  have qi267 : (3 < t246.length) = True := eq_true (by omega)
                                  (try rw [show ((3 : Int)).toNat = 3 from rfl] at hx267_0)
                                  replace p267 := eq_true p267
                                  replace q267 := eq_true q267
                                  go_wp2
                                  go_loopg [119] kj29 (fun kq v119 w' => ∃ (x119_4 : Int) (x257002_4 : List Int) (u257002 : Value), v119 = .int .i64 x119_4 ∧ Aside0 (impl_ReadPlace.l1 kq a0 t246 ((rdOf ByteArray.empty t246 3).size : Int) x119_4 x257000_29 (wrap64 ((wrap64 (bt (rdOf ByteArray.empty t246 2) 0)) - 48)) x257002_4 = some (r1, r2, r3, r4)) ∧ Aside0 (kq ≤ kj29) ∧ Aside0 (Kd.R Kd.string 9 w' w.heap.size (fun _ => True) (.slice (some ad251) t246.length co19) t246) ∧ Aside0 (Kd.R (Kd.int .i64) 3 w' w.heap.size (fun k_ => some k_ ≠ (u257002 : Value).ownBlock) u257000 x257000_29) ∧ Aside0 (Kd.R (Kd.int .i64) 3 w' w.heap.size (fun k_ => some k_ ≠ (u257000 : Value).ownBlock) u257002 x257002_4) ∧ Aside0 (w'.heap[gb245]? = some (.cells #[(.slice none 0 0), .int .i64 x246001_29, (.slice none 0 0)] 36 (0, 0))) ∧ Aside0 (w'.heap[gb256]? = some (.cells #[u257000, .int .i64 (wrap64 ((wrap64 (bt (rdOf ByteArray.empty t246 2) 0)) - 48)), u257002] 36 (0, 0))) ∧ Aside0 (Below w.heap.size w w'))
                                  case atStart => exact ⟨(0), (([] : List Int)), (.slice none 0 0), (by first | rfl | (simp; done) | (simp [*]; done)), H', ⟨Nat.le_refl _⟩, ⟨by (with_reducible repeat (first | apply Kd.R_alloc | apply Kd.R_drewN | apply Kd.R_drew)); exact HO_4.out⟩, ⟨by (with_reducible repeat (first | apply Kd.R_alloc | apply Kd.R_drewN | apply Kd.R_drew)); exact Kd.R_mono HO_257000.out (fun _ hk => (by simp [Value.ownBlock]))⟩, ⟨by first | exact Kd.R_nil _ _ _ _ _ | exact Kd.N_nil _ _ _ _ _ | exact Kd.V_nil _ _ _ _ _ | exact Kd.Q_nil _ _ _ _ _ | exact Kd.S_nil _ _ _ _ _⟩, ⟨by (with_reducible repeat (first | refine blk_drewN ?_ _ | refine blk_drew ?_ | refine blk_alloc ?_ _)); exact BK245.out⟩, ⟨by (with_reducible repeat (first | refine blk_drewN ?_ _ | refine blk_drew ?_ | refine blk_alloc ?_ _)); exact BK256.out⟩, ⟨by repeat (first | (with_reducible first | exact HB.out | apply below_alloc | apply pw_below_drewN | apply below_drew1 | refine below_set ?_ GE245.out | refine below_set ?_ GE256.out) | exact HB.out)⟩⟩
                                  case round =>
                                    clear H'
                                    try clear p2
                                    try clear q2
                                    try clear hx2
                                    try clear qi2
                                    try clear c4
                                    try clear c5
                                    try clear p5
                                    try clear q5
                                    try clear hx5
                                    try clear qi5
                                    try clear c6
                                    try clear p6
                                    try clear c7
                                    try clear p7
                                    try clear q7
                                    try clear hx7
                                    try clear hf7
                                    try clear c8
                                    try clear p26
                                    try clear q26
                                    try clear hx26
                                    try clear qi26
                                    try clear c45
                                    try clear c45b0
                                    try clear c46
                                    try clear c47
                                    try clear c48
                                    try clear c48b0
                                    try clear c48b1
                                    try clear c49
                                    try clear p50
                                    try clear q50
                                    try clear hx50
                                    try clear qi50
                                    try clear c51
                                    try clear p52
                                    try clear q52
                                    try clear hx52
                                    try clear qi52
                                    try clear c53
                                    try clear c53b0
                                    try clear c57
                                    try clear c57b0
                                    try clear c61
                                    try clear c61b0
                                    try clear p64
                                    try clear c65
                                    try clear c65b0
                                    try clear c67
                                    try clear c70
                                    try clear c70b0
                                    try clear c71
                                    try clear c71b0
                                    try clear c73
                                    try clear c73b0
                                    try clear c73b1
                                    try clear p75
                                    try clear q75
                                    try clear hx75
                                    try clear hf75
                                    try clear c76
                                    try clear c76b0
                                    try clear c77
                                    try clear c77b0
                                    try clear p79
                                    try clear q79
                                    try clear hx79
                                    try clear hf79
                                    try clear c87
                                    try clear c89
                                    try clear c89b0
                                    try clear c89b1
                                    try clear hcz68_0
                                    try clear hcz68_1
                                    try clear hcz68_2
                                    try clear hcz88_0
                                    try clear hcz88_1
                                    try clear hcz88_2
                                    try clear hfz68_0
                                    try clear hfz68_1
                                    try clear hfz68_2
                                    try clear hfz88_0
                                    try clear hfz88_1
                                    try clear hfz88_2
                                    try clear hx262_0
                                    try clear hx263_0
                                    try clear hx265_0
                                    try clear hx267_0
                                    try clear hx75_0
                                    try clear hx79_0
                                    try clear p2
                                    try clear p26
                                    try clear p262
                                    try clear p263
                                    try clear p265
                                    try clear p267
                                    try clear p5
                                    try clear p50
                                    try clear p52
                                    try clear p6
                                    try clear p64
                                    try clear p7
                                    try clear p75
                                    try clear p79
                                    try clear q2
                                    try clear q26
                                    try clear q262
                                    try clear q263
                                    try clear q265
                                    try clear q267
                                    try clear q5
                                    try clear q50
                                    try clear q52
                                    try clear q7
                                    try clear q75
                                    try clear q79
                                    obtain ⟨x119_4, x257002_4, u257002, rfl, HA, HK4, HO_4, HO_257000, HO_257002, BK245, BK256, HB⟩ := hrel
                                    cases gk with
                                    | zero => exact absurd HA.out (by simp [impl_ReadPlace.l1])
                                    | succ k4 =>
                                      have H := HA.out
                                      clear HA
                                      simp only [impl_ReadPlace.l1] at H
                                      by_cases c90 : x119_4 < ((rdOf ByteArray.empty t246 3).size : Int)
                                      · rw [if_pos c90] at H
                                        have c90b0 : decide (x119_4 < ((rdOf ByteArray.empty t246 3).size : Int)) = true := decide_eq_true c90
                                        clear c90
                                        by_cases c91 : 3 < (t246.length : Int)
                                        · rw [if_pos c91] at H
                                          have c91b0 : decide (3 < (t246.length : Int)) = true := decide_eq_true c91
                                          have c91b1 : decide (3 < t246.length) = true := decide_eq_true (by omega)
                                          clear c91
                                          by_cases c92 : 0 ≤ x119_4
                                          · rw [if_pos c92] at H
                                            have c92b0 : decide (0 ≤ x119_4) = true := decide_eq_true c92
                                            clear c92
                                            by_cases c93 : x119_4 < ((rdOf ByteArray.empty t246 3).size : Int)
                                            · rw [if_pos c93] at H
                                              have c93b0 : decide (x119_4 < ((rdOf ByteArray.empty t246 3).size : Int)) = true := decide_eq_true c93
                                              clear c93
                                              by_cases c95 : x257002_4.length < 17592186044416
                                              · rw [if_pos c95] at H
                                                have LMc95 := Aside0.mk c95
                                                clear c95
                                                obtain ⟨y269, hy269⟩ : ∃ y_ : List Int, y_ = (x257002_4 ++ [wrap64 ((wrap64 (bt (rdOf ByteArray.empty t246 3) x119_4)) - 48)]) := ⟨_, rfl⟩
                                                replace H : (impl_ReadPlace.l1 k4 a0 t246 ((rdOf ByteArray.empty t246 3).size : Int) (wrap64 (x119_4 + 1)) x257000_29 (wrap64 ((wrap64 (bt (rdOf ByteArray.empty t246 2) 0)) - 48)) y269) = some (r1, r2, r3, r4) := by first | (rw [hy269]; with_reducible exact H) | (have H2_ := (Option.bind_some _ _).symm.trans H; rw [hy269]; with_reducible exact H2_) | (have H2_ := (Option.bind_some _ _).symm.trans H; with_reducible exact H2_) | with_reducible exact H | (rw [hy269]; exact H) | exact H
                                                have Ny269 := Aside0.mk hy269
                                                clear hy269
                                                have H' := Aside0.mk H
                                                clear H
                                                try go_wp2
                                                have n0_ := Aside0.mk (Kd.R_drew HO_4.out)
                                                have n1_ := Aside0.mk (Kd.R_drew HO_257000.out)
                                                have n2_ := Aside0.mk (Kd.R_drew HO_257002.out)
                                                have n3_ := Aside0.mk (blk_drew BK245.out)
                                                have n4_ := Aside0.mk (blk_drew BK256.out)
                                                have n5_ := Aside0.mk (below_drew1 HB.out)
                                                clear HO_4
                                                clear HO_257000
                                                clear HO_257002
                                                clear BK245
                                                clear BK256
                                                clear HB
                                                have HO_4 := n0_
                                                have HO_257000 := n1_
                                                have HO_257002 := n2_
                                                have BK245 := n3_
                                                have BK256 := n4_
                                                have HB := n5_
                                                clear n0_ n1_ n2_ n3_ n4_ n5_
                                                have p268 : 0 ≤ (3 : Int) := (by omega)
                                                have q268 : 3 < (t246.length : Int) := of_decide_eq_true (by first | (with_reducible assumption) | assumption)
                                                obtain ⟨ad268, e268, hx268_0⟩ := Kd.at_string (Kd.R_reads' HO_4.out).2.2 3 p268 q268
                                                obtain rfl : ad251 = ad268 := (by injection e268)
                                                (try simp only [show (3 : Int).toNat = 3 from rfl, Nat.reduceMul, Nat.reduceEqDiff, Go.Addr.add, ↓reduceIte] at hx268_0)
                                                have qi268 : (3 < t246.length) = True := eq_true (by omega)
                                                (try rw [show ((3 : Int)).toNat = 3 from rfl] at hx268_0)
                                                replace p268 := eq_true p268
                                                replace q268 := eq_true q268
                                                have p94 : 0 ≤ (x119_4 : Int) := of_decide_eq_true (by first | (with_reducible assumption) | assumption)
                                                have q94 : x119_4 < ((rdOf ByteArray.empty t246 3).size : Int) := of_decide_eq_true (by first | (with_reducible assumption) | assumption)
                                                have hx94 := bt_at (rdOf ByteArray.empty t246 3) x119_4
                                                replace p94 := eq_true p94
                                                replace q94 := eq_true q94
                                                refine start_ (n := 13) (S := fun w' => w'.cell? ⟨gb256, 0, none⟩ = some (u257000) ∧ w'.cell? ⟨gb256, 1, none⟩ = some (.int .i64 (wrap64 ((wrap64 (bt (rdOf ByteArray.empty t246 2) 0)) - 48))) ∧ w'.cell? ⟨gb256, 2, none⟩ = some (u257002) ∧ w'.cell? ⟨ad251.block, ad251.off + 3, none⟩ = some (.string (rdOf ByteArray.empty t246 3))) (ds := [10, 12]) #[false, false, false, false, false, false, false, false, false, false, false, false, false] (by kernel_rfl) rfl rfl ⟨(blk_cell BK256.out 0).trans rfl, (blk_cell BK256.out 1).trans rfl, (blk_cell BK256.out 2).trans rfl, hx268_0⟩ (fun hHeld => ?_); refine with_tabW impl_ReadPlace.tab23 impl_ReadPlace.bits23 (fun HT_ HW_ => ?_)
                                                generalize wr.drew = w96 at HO_4 HO_257000 HO_257002 BK245 BK256 HB hx268_0 hHeld ⊢
                                                refine pure_ (i := 0) (N := some 122) (v := ?_) (a' := ?_) #[true, false, false, false, false, false, false, false, false, false, false, false, false] rfl rfl (any_of HT_.out (by kernel_rfl)) (fun _ _ _ h => h) (Or.inl ⟨by rfl, ?_⟩) ?_ ?_
                                                rotate_left
                                                · intro w'
                                                  go_simp
                                                  with_reducible rfl
                                                rotate_left
                                                · simp only [Act.put, List.setIfInBounds_toArray, List.set_cons_zero, List.set_cons_succ, i64_w, i32_w]
                                                  rfl
                                                refine pure_ (i := 2) (N := some 124) (v := ?_) (a' := ?_) #[true, false, true, false, false, false, false, false, false, false, false, false, false] rfl rfl (any_of HT_.out (by kernel_rfl)) (fun _ _ _ h => h) (Or.inl ⟨by rfl, ?_⟩) ?_ ?_
                                                rotate_left
                                                · intro w'
                                                  go_simp
                                                  with_reducible rfl
                                                rotate_left
                                                · simp only [Act.put, List.setIfInBounds_toArray, List.set_cons_zero, List.set_cons_succ, i64_w, i32_w]
                                                  rfl
                                                refine pure_ (i := 3) (N := some 125) (v := ?_) (a' := ?_) #[true, false, true, true, false, false, false, false, false, false, false, false, false] rfl rfl (any_of HT_.out (by kernel_rfl)) (fun _ _ _ h => h) (Or.inl ⟨by rfl, ?_⟩) ?_ ?_
                                                rotate_left
                                                · intro w'
                                                  go_simp
                                                  with_reducible rfl
                                                rotate_left
                                                · simp only [Act.put, List.setIfInBounds_toArray, List.set_cons_zero, List.set_cons_succ, i64_w, i32_w]
                                                  rfl
                                                refine pure_ (i := 5) (N := some 127) (v := ?_) (a' := ?_) #[true, false, true, true, false, true, false, false, false, false, false, false, false] rfl rfl (any_of HT_.out (by kernel_rfl)) (fun _ _ _ h => h) (Or.inl ⟨by rfl, ?_⟩) ?_ ?_
                                                rotate_left
                                                · intro w'
                                                  go_simp
                                                  with_reducible rfl
                                                rotate_left
                                                · simp only [Act.put, List.setIfInBounds_toArray, List.set_cons_zero, List.set_cons_succ, i64_w, i32_w]
                                                  rfl
                                                refine take_ (i := 1) (N := some 123) (v := ?_) (a' := ?_) #[true, true, true, true, false, true, false, false, false, false, false, false, false] rfl rfl (take_ofW HT_.out HW_.out (by kernel_rfl)) (fun _ _ _ h => h) (Or.inl ⟨by rfl, ?_⟩) hHeld ?_ ?_
                                                rotate_left
                                                · rintro w' ⟨s0, s1, s2, s3⟩
                                                  go_simp
                                                  with_reducible rfl
                                                rotate_left
                                                · simp only [Act.put, List.setIfInBounds_toArray, List.set_cons_zero, List.set_cons_succ, i64_w, i32_w]
                                                  rfl
                                                refine take_ (i := 4) (N := some 126) (v := ?_) (a' := ?_) #[true, true, true, true, true, true, false, false, false, false, false, false, false] rfl rfl (take_ofW HT_.out HW_.out (by kernel_rfl)) (fun _ _ _ h => h) (Or.inl ⟨by rfl, ?_⟩) hHeld ?_ ?_
                                                rotate_left
                                                · rintro w' ⟨s0, s1, s2, s3⟩
                                                  go_simp
                                                  with_reducible rfl
                                                rotate_left
                                                · simp only [Act.put, List.setIfInBounds_toArray, List.set_cons_zero, List.set_cons_succ, i64_w, i32_w]
                                                  rfl
                                                refine take_ (i := 6) (N := some 128) (v := ?_) (a' := ?_) #[true, true, true, true, true, true, true, false, false, false, false, false, false] rfl rfl (take_ofW HT_.out HW_.out (by kernel_rfl)) (fun _ _ _ h => h) (Or.inl ⟨by rfl, ?_⟩) hHeld ?_ ?_
                                                rotate_left
                                                · rintro w' ⟨s0, s1, s2, s3⟩
                                                  go_simp
                                                  with_reducible rfl
                                                rotate_left
                                                · simp only [Act.put, List.setIfInBounds_toArray, List.set_cons_zero, List.set_cons_succ, i64_w, i32_w]
                                                  rfl
                                                refine pure_ (i := 7) (N := some 129) (v := ?_) (a' := ?_) #[true, true, true, true, true, true, true, true, false, false, false, false, false] rfl rfl (any_of HT_.out (by kernel_rfl)) (fun _ _ _ h => h) (Or.inl ⟨by rfl, ?_⟩) ?_ ?_
                                                rotate_left
                                                · intro w'
                                                  go_simp
                                                  with_reducible rfl
                                                rotate_left
                                                · simp only [Act.put, List.setIfInBounds_toArray, List.set_cons_zero, List.set_cons_succ, i64_w, i32_w]
                                                  rfl
                                                refine pure_ (i := 8) (N := some 130) (v := ?_) (a' := ?_) #[true, true, true, true, true, true, true, true, true, false, false, false, false] rfl rfl (any_of HT_.out (by kernel_rfl)) (fun _ _ _ h => h) (Or.inl ⟨by rfl, ?_⟩) ?_ ?_
                                                rotate_left
                                                · intro w'
                                                  go_simp
                                                  with_reducible rfl
                                                rotate_left
                                                · simp only [Act.put, List.setIfInBounds_toArray, List.set_cons_zero, List.set_cons_succ, i64_w, i32_w]
                                                  rfl
                                                refine one_ (i := 9) (N := some 131) #[true, true, true, true, true, true, true, true, true, true, false, false, false] rfl rfl (one_of HT_.out (by kernel_rfl)) (by decide) (fun K hK => ?_)
                                                refine value_ (w1 := ?_) (v := ?_) (by rfl) rfl ?_ ?_
                                                rotate_left 2
                                                · go_simp
                                                  constructor
                                                  · rfl
                                                  · rfl
                                                refine hK.out _ _ ⟨(blk_cell (blk_alloc BK256.out _) 0).trans rfl, (blk_cell (blk_alloc BK256.out _) 1).trans rfl, (blk_cell (blk_alloc BK256.out _) 2).trans rfl, (World.cell?_alloc_lt _ _ _ (World.block_lt_of_cell? _ _ (hHeld.2.2.2))).trans (hHeld.2.2.2)⟩ (fun hHeld => ?_)
                                                clear hK K
                                                refine norm_ (a' := ?_) ?_ ?_
                                                rotate_left
                                                · show Act.put _ (some 131) _ = _
                                                  simp only [Act.put, List.setIfInBounds_toArray, List.set_cons_zero, List.set_cons_succ, i64_w, i32_w]
                                                  rfl
                                                refine last_ (i := 10) (N := some 132) #[true, true, true, true, true, true, true, true, true, true, true, false, false] rfl rfl (one_of HT_.out (by kernel_rfl)) (by decide) (fun K hK => ?_)
                                                refine Kd.R_append_step (Kd.int .i64) (w0 := w) w.heap.size (by rfl) (.tmp 123) (.tmp 131) 34 3 (.int .i64 0) 8 rfl Tryd.underlying34 info3 rfl (by decide) (by omega) u257002 x257002_4 (wrap64 ((wrap64 (bt (rdOf ByteArray.empty t246 3) x119_4)) - 48)) [.int .i64 (wrap64 ((wrap64 (bt (rdOf ByteArray.empty t246 3) x119_4)) - 48))] (fun k_ => some k_ ≠ (u257000 : Value).ownBlock) (fun _ => False) rfl rfl ?aP (fun _ hk => hk.elim) ?aF ?aO ?aB ?aS ?aL ?_
                                                (case aP => exact rfl)
                                                (case aB => exact (by repeat (first | (with_reducible first | exact HB.out | apply below_alloc | apply pw_below_drewN | apply below_drew1 | refine below_set ?_ GE245.out | refine below_set ?_ GE256.out) | exact HB.out)))
                                                (case aF => exact (fun k_ hk => Kd.fresh' (Kd.R_lt (by (with_reducible repeat (first | apply Kd.R_alloc | apply Kd.R_drewN | apply Kd.R_drew)); exact HO_257000.out)) k_ hk))
                                                (case aO => exact (by (with_reducible repeat (first | apply Kd.R_alloc | apply Kd.R_drewN | apply Kd.R_drew)); exact HO_257002.out))
                                                (case aS => exact (below_size (by repeat (first | (with_reducible first | exact HB.out | apply below_alloc | apply pw_below_drewN | apply below_drew1 | refine below_set ?_ GE245.out | refine below_set ?_ GE256.out) | exact HB.out))))
                                                (case aL => have := LMc95.out; omega)
                                                intro v270 w97 ho hb hg hat
                                                rw [← Ny269.out] at ho
                                                have n0_ := Aside0.mk (Kd.R_over' (by (with_reducible repeat (first | apply Kd.R_alloc | apply Kd.R_drewN | apply Kd.R_drew)); exact HO_4.out) (Kd.R_typed (by (with_reducible repeat (first | apply Kd.R_alloc | apply Kd.R_drewN | apply Kd.R_drew)); exact HO_257002.out)) (by decide) hg)
                                                have n1_ := Aside0.mk (Kd.R_after (ok := (fun _ => True)) (by (with_reducible repeat (first | apply Kd.R_alloc | apply Kd.R_drewN | apply Kd.R_drew)); exact Kd.R_mono HO_257000.out (fun _ hk => ⟨trivial, hk⟩)) hg hat)
                                                have n2_ := Aside0.mk (blk_grown (g := gb245) (o := .cells #[.slice none 0 0, .int .i64 x246001_29, .slice none 0 0] 36 (0, 0)) (by (with_reducible repeat (first | refine blk_drewN ?_ _ | refine blk_drew ?_ | refine blk_alloc ?_ _)); exact BK245.out) hg (Kd.R_ne HO_257002.out BK245.out (by decide)))
                                                have n3_ := Aside0.mk (blk_grown (g := gb256) (o := .cells #[u257000, .int .i64 (wrap64 ((wrap64 (bt (rdOf ByteArray.empty t246 2) 0)) - 48)), u257002] 36 (0, 0)) (by (with_reducible repeat (first | refine blk_drewN ?_ _ | refine blk_drew ?_ | refine blk_alloc ?_ _)); exact BK256.out) hg (Kd.R_ne HO_257002.out BK256.out (by decide)))
                                                have n4_ := Aside0.mk (hb)
                                                have n5_ := Aside0.mk (ho)
                                                clear HO_4
                                                clear HO_257000
                                                clear BK245
                                                clear BK256
                                                clear HB
                                                clear HO_257002
                                                have HO_4 := n0_
                                                have HO_257000 := n1_
                                                have BK245 := n2_
                                                have BK256 := n3_
                                                have HB := n4_
                                                have HO271 := n5_
                                                clear n0_ n1_ n2_ n3_ n4_ n5_
                                                clear ho hb hg hat
                                                obtain ⟨Ao98, co98, eo98⟩ := Kd.R_slice HO271.out
                                                (first | subst eo98 | (injection eo98 with f1_ f2_ f3_; have f4_ := f1_.symm; have f5_ := f3_.symm; clear f1_ f2_ f3_; subst f4_; subst f5_))
                                                refine hK.out _ _ ?_
                                                clear hK K
                                                refine norm_ (a' := ?_) ?_ ?_
                                                rotate_left
                                                · show Act.put _ (some 132) _ = _
                                                  simp only [Act.put, List.setIfInBounds_toArray, List.set_cons_zero, List.set_cons_succ, i64_w, i32_w]
                                                  rfl
                                                refine pure_ (i := 11) (N := some 133) (v := ?_) (a' := ?_) #[true, true, true, true, true, true, true, true, true, true, true, true, false] rfl rfl (any_of HT_.out (by kernel_rfl)) (fun _ _ _ h => h) (Or.inl ⟨by rfl, ?_⟩) ?_ ?_
                                                rotate_left
                                                · intro w'
                                                  go_simp
                                                  with_reducible rfl
                                                rotate_left
                                                · simp only [Act.put, List.setIfInBounds_toArray, List.set_cons_zero, List.set_cons_succ, i64_w, i32_w]
                                                  rfl
                                                refine last_ (i := 12) (N := none) #[true, true, true, true, true, true, true, true, true, true, true, true, true] rfl rfl (one_of HT_.out (by kernel_rfl)) (by decide) (fun K hK => ?_)
                                                have hs99 : w97.cell? ⟨gb256, 2, none⟩ = some (u257002) := (blk_cell BK256.out 2).trans rfl
                                                have hfs99 := blk_frozen BK256.out 2
                                                have hns99_0 := NB245_256.out
                                                have hms99_0 := NB256_245.out
                                                refine skip_ (w1 := ?_) (by rfl) rfl ?_ ?_
                                                rotate_left
                                                · go_simp
                                                  rfl
                                                refine hK.out _ _ ?_
                                                clear hK K
                                                refine done_ (done_of HT_.out (by kernel_rfl)) ?_
                                                try go_wp2
                                                go_roundg k4
                                                case measure => have := HJ2.out; have := HJ17.out; have := HJ29.out; have := HK4.out; omega
                                                case rel => exact ⟨(wrap64 (x119_4 + 1)), (y269), (.slice Ao98 y269.length co98), (by first | rfl | (simp; done) | (simp [*]; done)), H', ⟨by have := HJ2.out; have := HJ17.out; have := HJ29.out; have := HK4.out; omega⟩, ⟨by (with_reducible repeat (first | apply Kd.R_alloc | apply Kd.R_drewN | apply Kd.R_drew)); exact Kd.R_mono (Kd.R_far (p := ⟨gb256, 2, none⟩) (Kd.R_types HO_4.out BK256.out (by decide)) (fun _ hk => hk.2) (.slice Ao98 y269.length co98)) (fun _ hk => trivial)⟩, ⟨by (with_reducible repeat (first | apply Kd.R_alloc | apply Kd.R_drewN | apply Kd.R_drew)); exact Kd.R_mono (Kd.R_far (p := ⟨gb256, 2, none⟩) (Kd.R_types HO_257000.out BK256.out (by decide)) (fun _ hk => hk.2) (.slice Ao98 y269.length co98)) (fun _ hk => hk.1.2)⟩, ⟨by (with_reducible repeat (first | apply Kd.R_alloc | apply Kd.R_drewN | apply Kd.R_drew)); exact Kd.R_mono (Kd.R_far (p := ⟨gb256, 2, none⟩) (Kd.R_types HO271.out BK256.out (by decide)) (fun _ hk => hk.2) (.slice Ao98 y269.length co98)) (fun _ hk => hk.1)⟩, ⟨by (with_reducible repeat (first | refine blk_drewN ?_ _ | refine blk_drew ?_ | refine blk_alloc ?_ _)); refine blk_far ?_ NB245_256.out _; (with_reducible repeat (first | refine blk_drewN ?_ _ | refine blk_drew ?_ | refine blk_alloc ?_ _)); exact BK245.out⟩, ⟨by (with_reducible repeat (first | refine blk_drewN ?_ _ | refine blk_drew ?_ | refine blk_alloc ?_ _)); refine blk_put (cs := #[u257000, .int .i64 (wrap64 ((wrap64 (bt (rdOf ByteArray.empty t246 2) 0)) - 48)), u257002]) ?_ 2 _ rfl; (with_reducible repeat (first | refine blk_drewN ?_ _ | refine blk_drew ?_ | refine blk_alloc ?_ _)); exact BK256.out⟩, ⟨by repeat (first | (with_reducible first | exact HB.out | apply below_alloc | apply pw_below_drewN | apply below_drew1 | refine below_set ?_ GE245.out | refine below_set ?_ GE256.out) | exact HB.out)⟩⟩
                                              · rw [if_neg c95] at H
                                                exact absurd H (by simp)
                                            · rw [if_neg c93] at H
                                              exact absurd H (by simp)
                                          · rw [if_neg c92] at H
                                            exact absurd H (by simp)
                                        · rw [if_neg c91] at H
                                          exact absurd H (by simp)
                                      · rw [if_neg c90] at H
                                        have c90b0 : decide (x119_4 < ((rdOf ByteArray.empty t246 3).size : Int)) = false := decide_eq_false c90
                                        clear c90
                                        replace H := Option.bind_eq_some_iff.mp H
                                        obtain ⟨t272, A1000, H⟩ := H
                                        replace H : (if t272.toList = a0.toList then (some (x257000_29, (wrap64 ((wrap64 (bt (rdOf ByteArray.empty t246 2) 0)) - 48)), x257002_4, true)) else (some (([] : List Int), 0, ([] : List Int), false))) = some (r1, r2, r3, r4) := H
                                        have A100 := Aside0.mk A1000
                                        clear A1000
                                        by_cases c101 : t272.toList = a0.toList
                                        · rw [if_pos c101] at H
                                          have c101b0 : (t272.toList == a0.toList) = true := beq_iff_eq.mpr c101
                                          have c101b1 : (t272.toList != a0.toList) = false := bne_eq_false_iff_eq.mpr c101
                                          clear c101
                                          simp only [Option.some.injEq, Prod.mk.injEq] at H
                                          obtain ⟨rfl, rfl, rfl, rfl⟩ := H
                                          have hnb102 := NB256_245.out
                                          have hnc102 := NB245_256.out
                                          have hcz103_0 : wr.cell? ⟨gb256, 0, none⟩ = some (u257000) := (blk_cell BK256.out 0).trans rfl
                                          have hcz103_1 : wr.cell? ⟨gb256, 1, none⟩ = some (.int .i64 (wrap64 ((wrap64 (bt (rdOf ByteArray.empty t246 2) 0)) - 48))) := (blk_cell BK256.out 1).trans rfl
                                          have hcz103_2 : wr.cell? ⟨gb256, 2, none⟩ = some (u257002) := (blk_cell BK256.out 2).trans rfl
                                          have hfz103_0 := blk_frozen BK256.out 0
                                          have hfz103_1 := blk_frozen BK256.out 1
                                          have hfz103_2 := blk_frozen BK256.out 2
                                          obtain ⟨Ao104, co104, eo104⟩ := Kd.R_slice HO_257000.out
                                          subst eo104
                                          obtain ⟨Ao105, co105, eo105⟩ := Kd.R_slice HO_257002.out
                                          subst eo105
                                          go_wp2_with (first | ((with_reducible refine gate_callee (f := 26) rfl ?_); refine goesL_ (some 136) rfl rfl Tryd.func26 (by kernel_rfl) rfl #[.agg #[.slice Ao104 x257000_29.length co104, .int .i64 (wrap64 ((wrap64 (bt (rdOf ByteArray.empty t246 2) 0)) - 48)), .slice Ao105 x257002_4.length co105]] rfl (by (try simp only [List.map_toArray, List.map_cons, List.map_nil]); first | done | rfl | (simp only [List.length_drop, List.length_take]; rfl)) ?_; (with_reducible refine (impl_PlaceText.calls k4 _ _ x257000_29 (wrap64 ((wrap64 (bt (rdOf ByteArray.empty t246 2) 0)) - 48)) _ _ x257002_4 t272 _ ?side1 ?side2 ?side3 ?side4 A100.out).mono ?_); (case side1 => repeat (first | exact (Kd.R_reads' HO_257000.out).2.2 | (with_reducible refine Kd.C_alloc ?_ _) | (with_reducible refine Kd.C_drewN ?_ _) | (with_reducible refine Kd.C_drew ?_))); (case side2 => exact (Kd.R_reads' HO_257000.out).2.1); (case side3 => repeat (first | exact (Kd.R_reads' HO_257002.out).2.2 | (with_reducible refine Kd.C_alloc ?_ _) | (with_reducible refine Kd.C_drewN ?_ _) | (with_reducible refine Kd.C_drew ?_))); (case side4 => exact (Kd.R_reads' HO_257002.out).2.1); rintro e w106 ⟨rfl, hb⟩; refine ⟨_, rfl, ?_⟩; have n0_ := Aside0.mk (Kd.R_below (by (with_reducible repeat (first | apply Kd.R_alloc | apply Kd.R_drewN | apply Kd.R_drew)); exact HO_4.out) hb); have n1_ := Aside0.mk (Kd.R_below (by (with_reducible repeat (first | apply Kd.R_alloc | apply Kd.R_drewN | apply Kd.R_drew)); exact HO_257000.out) hb); have n2_ := Aside0.mk (Kd.R_below (by (with_reducible repeat (first | apply Kd.R_alloc | apply Kd.R_drewN | apply Kd.R_drew)); exact HO_257002.out) hb); have n3_ := Aside0.mk (blk_below (g := gb245) (o := .cells #[.slice none 0 0, .int .i64 x246001_29, .slice none 0 0] 36 (0, 0)) (by (with_reducible repeat (first | refine blk_drewN ?_ _ | refine blk_drew ?_ | refine blk_alloc ?_ _)); exact BK245.out) hb); have n4_ := Aside0.mk (blk_below (g := gb256) (o := .cells #[.slice Ao104 x257000_29.length co104, .int .i64 (wrap64 ((wrap64 (bt (rdOf ByteArray.empty t246 2) 0)) - 48)), .slice Ao105 x257002_4.length co105] 36 (0, 0)) (by (with_reducible repeat (first | refine blk_drewN ?_ _ | refine blk_drew ?_ | refine blk_alloc ?_ _)); exact BK256.out) hb); have n5_ := Aside0.mk (below_step (by repeat (first | (with_reducible first | exact HB.out | apply below_alloc | apply pw_below_drewN | apply below_drew1 | refine below_set ?_ GE245.out | refine below_set ?_ GE256.out) | exact HB.out)) hb); clear HO_4; clear HO_257000; clear HO_257002; clear BK245; clear BK256; clear HB; have HO_4 := n0_; have HO_257000 := n1_; have HO_257002 := n2_; have BK245 := n3_; have BK256 := n4_; have HB := n5_; clear n0_ n1_ n2_ n3_ n4_ n5_; (try clear hb); (try clear hb2); (try clear hk); (try clear hi); have hcz107_0 : w106.cell? ⟨gb256, 0, none⟩ = some (.slice Ao104 x257000_29.length co104) := (blk_cell BK256.out 0).trans rfl; have hcz107_1 : w106.cell? ⟨gb256, 1, none⟩ = some (.int .i64 (wrap64 ((wrap64 (bt (rdOf ByteArray.empty t246 2) 0)) - 48))) := (blk_cell BK256.out 1).trans rfl; have hcz107_2 : w106.cell? ⟨gb256, 2, none⟩ = some (.slice Ao105 x257002_4.length co105) := (blk_cell BK256.out 2).trans rfl; have hfz107_0 := blk_frozen BK256.out 0; have hfz107_1 := blk_frozen BK256.out 1; have hfz107_2 := blk_frozen BK256.out 2; have hcz108_0 : w106.cell? ⟨gb245, 0, none⟩ = some (.slice none 0 0) := (blk_cell BK245.out 0).trans rfl; have hcz108_1 : w106.cell? ⟨gb245, 1, none⟩ = some (.int .i64 x246001_29) := (blk_cell BK245.out 1).trans rfl; have hcz108_2 : w106.cell? ⟨gb245, 2, none⟩ = some (.slice none 0 0) := (blk_cell BK245.out 2).trans rfl; have hfz108_0 := blk_frozen BK245.out 0; have hfz108_1 := blk_frozen BK245.out 1; have hfz108_2 := blk_frozen BK245.out 2))
                                          refine bodyPost_ret (results_ct rfl _ _ gb245 36 #[.slice Ao104 x257000_29.length co104, .int .i64 (wrap64 ((wrap64 (bt (rdOf ByteArray.empty t246 2) 0)) - 48)), .slice Ao105 x257002_4.length co105] (0, 0) _ rfl (by (with_reducible repeat (first | refine blk_drewN ?_ _ | refine blk_drew ?_ | refine blk_alloc ?_ _)); refine blk_put (cs := #[.slice Ao104 x257000_29.length co104, .int .i64 (wrap64 ((wrap64 (bt (rdOf ByteArray.empty t246 2) 0)) - 48)), .slice none 0 0]) ?_ 2 _ rfl; (with_reducible repeat (first | refine blk_drewN ?_ _ | refine blk_drew ?_ | refine blk_alloc ?_ _)); refine blk_put (cs := #[.slice Ao104 x257000_29.length co104, .int .i64 x246001_29, .slice none 0 0]) ?_ 1 _ rfl; (with_reducible repeat (first | refine blk_drewN ?_ _ | refine blk_drew ?_ | refine blk_alloc ?_ _)); refine blk_put (cs := #[.slice none 0 0, .int .i64 x246001_29, .slice none 0 0]) ?_ 0 _ rfl; (with_reducible repeat (first | refine blk_drewN ?_ _ | refine blk_drew ?_ | refine blk_alloc ?_ _)); exact BK245.out) Tryd.underlying36 rfl (by kernel_rfl)) rfl ?_
                                          exact ⟨_, _, by first | rfl | (simp [errW_none, errW_some] <;> rfl) | (simp only [← hji23]; first | rfl | (simp [errW_none, errW_some] <;> rfl)) | (simp [*, errW_none, errW_some] <;> rfl), by (with_reducible repeat (first | apply Kd.R_alloc | apply Kd.R_drewN | apply Kd.R_drew)); exact Kd.R_mono (Kd.R_far (p := ⟨gb245, 2, none⟩) (Kd.R_far (p := ⟨gb245, 1, none⟩) (Kd.R_far (p := ⟨gb245, 0, none⟩) (Kd.R_types HO_257000.out BK245.out (by decide)) (fun _ hk => hk.2) (.slice Ao104 x257000_29.length co104)) (fun _ hk => hk.2) (.int .i64 (wrap64 ((wrap64 (bt (rdOf ByteArray.empty t246 2) 0)) - 48)))) (fun _ hk => hk.2) (.slice Ao105 x257002_4.length co105)) (fun _ hk => hk.1), by (with_reducible repeat (first | apply Kd.R_alloc | apply Kd.R_drewN | apply Kd.R_drew)); exact Kd.R_mono (Kd.R_far (p := ⟨gb245, 2, none⟩) (Kd.R_far (p := ⟨gb245, 1, none⟩) (Kd.R_far (p := ⟨gb245, 0, none⟩) (Kd.R_types HO_257002.out BK245.out (by decide)) (fun _ hk => hk.2) (.slice Ao104 x257000_29.length co104)) (fun _ hk => hk.2) (.int .i64 (wrap64 ((wrap64 (bt (rdOf ByteArray.empty t246 2) 0)) - 48)))) (fun _ hk => hk.2) (.slice Ao105 x257002_4.length co105)) (fun _ hk => hk.1), by repeat (first | (with_reducible first | exact HB.out | apply below_alloc | apply pw_below_drewN | apply below_drew1 | refine below_set ?_ GE245.out | refine below_set ?_ GE256.out) | exact HB.out)⟩
                                        · rw [if_neg c101] at H
                                          have c101b0 : (t272.toList == a0.toList) = false := beq_eq_false_iff_ne.mpr c101
                                          have c101b1 : (t272.toList != a0.toList) = true := bne_iff_ne.mpr c101
                                          simp only [Option.some.injEq, Prod.mk.injEq] at H
                                          obtain ⟨rfl, rfl, rfl, rfl⟩ := H
                                          have hnb109 := NB256_245.out
                                          have hnc109 := NB245_256.out
                                          have hcz110_0 : wr.cell? ⟨gb256, 0, none⟩ = some (u257000) := (blk_cell BK256.out 0).trans rfl
                                          have hcz110_1 : wr.cell? ⟨gb256, 1, none⟩ = some (.int .i64 (wrap64 ((wrap64 (bt (rdOf ByteArray.empty t246 2) 0)) - 48))) := (blk_cell BK256.out 1).trans rfl
                                          have hcz110_2 : wr.cell? ⟨gb256, 2, none⟩ = some (u257002) := (blk_cell BK256.out 2).trans rfl
                                          have hfz110_0 := blk_frozen BK256.out 0
                                          have hfz110_1 := blk_frozen BK256.out 1
                                          have hfz110_2 := blk_frozen BK256.out 2
                                          obtain ⟨Ao111, co111, eo111⟩ := Kd.R_slice HO_257000.out
                                          subst eo111
                                          obtain ⟨Ao112, co112, eo112⟩ := Kd.R_slice HO_257002.out
                                          subst eo112
                                          go_wp2_with (first | ((with_reducible refine gate_callee (f := 26) rfl ?_); refine goesL_ (some 136) rfl rfl Tryd.func26 (by kernel_rfl) rfl #[.agg #[.slice Ao111 x257000_29.length co111, .int .i64 (wrap64 ((wrap64 (bt (rdOf ByteArray.empty t246 2) 0)) - 48)), .slice Ao112 x257002_4.length co112]] rfl (by (try simp only [List.map_toArray, List.map_cons, List.map_nil]); first | done | rfl | (simp only [List.length_drop, List.length_take]; rfl)) ?_; (with_reducible refine (impl_PlaceText.calls k4 _ _ x257000_29 (wrap64 ((wrap64 (bt (rdOf ByteArray.empty t246 2) 0)) - 48)) _ _ x257002_4 t272 _ ?side1 ?side2 ?side3 ?side4 A100.out).mono ?_); (case side1 => repeat (first | exact (Kd.R_reads' HO_257000.out).2.2 | (with_reducible refine Kd.C_alloc ?_ _) | (with_reducible refine Kd.C_drewN ?_ _) | (with_reducible refine Kd.C_drew ?_))); (case side2 => exact (Kd.R_reads' HO_257000.out).2.1); (case side3 => repeat (first | exact (Kd.R_reads' HO_257002.out).2.2 | (with_reducible refine Kd.C_alloc ?_ _) | (with_reducible refine Kd.C_drewN ?_ _) | (with_reducible refine Kd.C_drew ?_))); (case side4 => exact (Kd.R_reads' HO_257002.out).2.1); rintro e w113 ⟨rfl, hb⟩; refine ⟨_, rfl, ?_⟩; have n0_ := Aside0.mk (Kd.R_below (by (with_reducible repeat (first | apply Kd.R_alloc | apply Kd.R_drewN | apply Kd.R_drew)); exact HO_4.out) hb); have n1_ := Aside0.mk (Kd.R_below (by (with_reducible repeat (first | apply Kd.R_alloc | apply Kd.R_drewN | apply Kd.R_drew)); exact HO_257000.out) hb); have n2_ := Aside0.mk (Kd.R_below (by (with_reducible repeat (first | apply Kd.R_alloc | apply Kd.R_drewN | apply Kd.R_drew)); exact HO_257002.out) hb); have n3_ := Aside0.mk (blk_below (g := gb245) (o := .cells #[.slice none 0 0, .int .i64 x246001_29, .slice none 0 0] 36 (0, 0)) (by (with_reducible repeat (first | refine blk_drewN ?_ _ | refine blk_drew ?_ | refine blk_alloc ?_ _)); exact BK245.out) hb); have n4_ := Aside0.mk (blk_below (g := gb256) (o := .cells #[.slice Ao111 x257000_29.length co111, .int .i64 (wrap64 ((wrap64 (bt (rdOf ByteArray.empty t246 2) 0)) - 48)), .slice Ao112 x257002_4.length co112] 36 (0, 0)) (by (with_reducible repeat (first | refine blk_drewN ?_ _ | refine blk_drew ?_ | refine blk_alloc ?_ _)); exact BK256.out) hb); have n5_ := Aside0.mk (below_step (by repeat (first | (with_reducible first | exact HB.out | apply below_alloc | apply pw_below_drewN | apply below_drew1 | refine below_set ?_ GE245.out | refine below_set ?_ GE256.out) | exact HB.out)) hb); clear HO_4; clear HO_257000; clear HO_257002; clear BK245; clear BK256; clear HB; have HO_4 := n0_; have HO_257000 := n1_; have HO_257002 := n2_; have BK245 := n3_; have BK256 := n4_; have HB := n5_; clear n0_ n1_ n2_ n3_ n4_ n5_; (try clear hb); (try clear hb2); (try clear hk); (try clear hi); have hcz114_0 : w113.cell? ⟨gb245, 0, none⟩ = some (.slice none 0 0) := (blk_cell BK245.out 0).trans rfl; have hcz114_1 : w113.cell? ⟨gb245, 1, none⟩ = some (.int .i64 x246001_29) := (blk_cell BK245.out 1).trans rfl; have hcz114_2 : w113.cell? ⟨gb245, 2, none⟩ = some (.slice none 0 0) := (blk_cell BK245.out 2).trans rfl; have hfz114_0 := blk_frozen BK245.out 0; have hfz114_1 := blk_frozen BK245.out 1; have hfz114_2 := blk_frozen BK245.out 2))
                                          refine bodyPost_ret (results_ct rfl _ _ gb245 36 #[.slice none 0 0, .int .i64 0, .slice none 0 0] (0, 0) _ rfl (by (with_reducible repeat (first | refine blk_drewN ?_ _ | refine blk_drew ?_ | refine blk_alloc ?_ _)); refine blk_put (cs := #[.slice none 0 0, .int .i64 0, .slice none 0 0]) ?_ 2 _ rfl; (with_reducible repeat (first | refine blk_drewN ?_ _ | refine blk_drew ?_ | refine blk_alloc ?_ _)); refine blk_put (cs := #[.slice none 0 0, .int .i64 x246001_29, .slice none 0 0]) ?_ 1 _ rfl; (with_reducible repeat (first | refine blk_drewN ?_ _ | refine blk_drew ?_ | refine blk_alloc ?_ _)); refine blk_put (cs := #[.slice none 0 0, .int .i64 x246001_29, .slice none 0 0]) ?_ 0 _ rfl; (with_reducible repeat (first | refine blk_drewN ?_ _ | refine blk_drew ?_ | refine blk_alloc ?_ _)); exact BK245.out) Tryd.underlying36 rfl (by kernel_rfl)) rfl ?_
                                          exact ⟨_, _, by first | rfl | (simp [errW_none, errW_some] <;> rfl) | (simp only [← hji23]; first | rfl | (simp [errW_none, errW_some] <;> rfl)) | (simp [*, errW_none, errW_some] <;> rfl), by first | exact Kd.R_nil _ _ _ _ _ | exact Kd.N_nil _ _ _ _ _ | exact Kd.V_nil _ _ _ _ _ | exact Kd.Q_nil _ _ _ _ _ | exact Kd.S_nil _ _ _ _ _, by first | exact Kd.R_nil _ _ _ _ _ | exact Kd.N_nil _ _ _ _ _ | exact Kd.V_nil _ _ _ _ _ | exact Kd.Q_nil _ _ _ _ _ | exact Kd.S_nil _ _ _ _ _, by repeat (first | (with_reducible first | exact HB.out | apply below_alloc | apply pw_below_drewN | apply below_drew1 | refine below_set ?_ GE245.out | refine below_set ?_ GE256.out) | exact HB.out)⟩
                                · rw [if_neg c89] at H
                                  exact absurd H (by simp)
                          · rw [if_neg c29] at H
                            exact absurd H (by simp)
                        · rw [if_neg c27] at H
                          exact absurd H (by simp)
                      · rw [if_neg c26] at H
                        exact absurd H (by simp)
                    · rw [if_neg c25] at H
                      exact absurd H (by simp)
                  · rw [if_neg c24] at H
                    exact absurd H (by simp)
          · rw [if_neg c16] at H
            exact absurd H (by simp)
        · rw [if_neg c15] at H
          exact absurd H (by simp)

end Go.Proofs.YtnhgiincboocaaaDoor.PFnExactStoreCrash
