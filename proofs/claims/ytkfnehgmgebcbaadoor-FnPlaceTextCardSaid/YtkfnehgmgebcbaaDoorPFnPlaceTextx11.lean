-- written by wip/tools/pstub.py (my own program, over the kit's print)
import Derived.Test.YtkfnehgmgebcbaaDoorPFnPlaceTextx0
import Derived.Test.YtkfnehgmgebcbaaDoorPFnPlaceTextx6
import Derived.Test.YtkfnehgmgebcbaaDoorPFnPlaceTextx10
namespace Go.Proofs.YtkfnehgmgebcbaaDoor.PFnPlaceText
open Go.RowKit Go.Proofs.YtkfnehgmgebcbaaDoorW.PrintWords Go.Proofs.YtkfnehgmgebcbaaDoorW.PrintLast Go.Proofs.YtkfnehgmgebcbaaDoorW.PrintMore
attribute [local go_sem] max2_int min2_int max_two min_two max_three min_three max_four min_four   -- for this text's walks alone
set_option linter.unusedVariables false
set_option linter.unusedSimpArgs false

/-! ### impl_ReadPlace: function 19 -/
mutual
def impl_ReadPlace.j0 : Nat → ByteArray → List ByteArray → Bool → Option (List Int × Int × List Int × Bool)
 | 0, _, _, _ => none
 | k + 1, x0, x4, x30 => if x30 = true then (some (([] : List Int), 0, ([] : List Int), false)) else (if 0 < (x4.length : Int) then (if 0 < ((rdOf ByteArray.empty x4 0).size : Int) then (if (wrap64 ((wrap64 (bt (rdOf ByteArray.empty x4 0) 0)) - 48)) < 1 then (impl_ReadPlace.j1 k x0 x4 (wrap64 ((wrap64 (bt (rdOf ByteArray.empty x4 0) 0)) - 48)) true) else (impl_ReadPlace.j1 k x0 x4 (wrap64 ((wrap64 (bt (rdOf ByteArray.empty x4 0) 0)) - 48)) (decide ((wrap64 ((wrap64 (bt (rdOf ByteArray.empty x4 0) 0)) - 48)) > 6)))) else (none)) else (none))
def impl_ReadPlace.j1 : Nat → ByteArray → List ByteArray → Int → Bool → Option (List Int × Int × List Int × Bool)
 | 0, _, _, _, _ => none
 | k + 1, x0, x4, x5, x43 => if x43 = true then (some (([] : List Int), 0, ([] : List Int), false)) else (if 0 ≤ x5 then (if (x5 : Int).toNat ≤ 35184372088832 then ((some (List.replicate (x5 : Int).toNat 0 : List Int)).bind fun y329 => (if 2 < (x4.length : Int) then (if 0 < ((rdOf ByteArray.empty x4 2).size : Int) then (if 1 < (x4.length : Int) then (if (rdOf ByteArray.empty x4 1).toList = ([46] : List UInt8) then (impl_ReadPlace.j3 k x0 x4 y329 (wrap64 ((wrap64 (bt (rdOf ByteArray.empty x4 2) 0)) - 48))) else ((strings_Split.f k (rdOf ByteArray.empty x4 1) (⟨#[44]⟩ : ByteArray)).bind fun t336 => (impl_ReadPlace.l0 k x0 x4 x5 t336 (t336.length : Int) 0 y329 (wrap64 ((wrap64 (bt (rdOf ByteArray.empty x4 2) 0)) - 48))))) else (none)) else (none)) else (none))) else (none)) else (none))
def impl_ReadPlace.j3 : Nat → ByteArray → List ByteArray → List Int → Int → Option (List Int × Int × List Int × Bool)
 | 0, _, _, _, _ => none
 | k + 1, x0, x4, x334000, x334001 => if 3 < (x4.length : Int) then (impl_ReadPlace.l1 k x0 x4 ((rdOf ByteArray.empty x4 3).size : Int) 0 x334000 x334001 ([] : List Int)) else (none)
def impl_ReadPlace.l1 : Nat → ByteArray → List ByteArray → Int → Int → List Int → Int → List Int → Option (List Int × Int × List Int × Bool)
 | 0, _, _, _, _, _, _, _ => none
 | k + 1, x0, x4, x118, x119, x334000, x334001, x334002 => if x119 < x118 then (if 3 < (x4.length : Int) then (if 0 ≤ x119 then (if x119 < ((rdOf ByteArray.empty x4 3).size : Int) then (if x334002.length < 17592186044416 then (impl_ReadPlace.l1 k x0 x4 x118 (wrap64 (x119 + 1)) x334000 x334001 (x334002 ++ [wrap64 ((wrap64 (bt (rdOf ByteArray.empty x4 3) x119)) - 48)])) else (none)) else (none)) else (none)) else (none)) else ((impl_PlaceText.f k x334000 x334001 x334002).bind fun t349 => (if t349.toList = x0.toList then (some (x334000, x334001, x334002, true)) else (some (([] : List Int), 0, ([] : List Int), false))))
def impl_ReadPlace.l0 : Nat → ByteArray → List ByteArray → Int → List ByteArray → Int → Int → List Int → Int → Option (List Int × Int × List Int × Bool)
 | 0, _, _, _, _, _, _, _, _ => none
 | k + 1, x0, x4, x5, x61, x62, x63, x334000, x334001 => if x63 < x62 then (if 0 ≤ x63 then (if x63 < (x61.length : Int) then (if ((rdOf ByteArray.empty x61 x63).size : Int) = 2 then (if 0 < ((rdOf ByteArray.empty x61 x63).size : Int) then (if 1 < ((rdOf ByteArray.empty x61 x63).size : Int) then (if (wrap64 ((wrap64 (bt (rdOf ByteArray.empty x61 x63) 0)) - 48)) < 0 then (some (([] : List Int), 0, ([] : List Int), false)) else (if (wrap64 ((wrap64 (bt (rdOf ByteArray.empty x61 x63) 0)) - 48)) ≥ x5 then (some (([] : List Int), 0, ([] : List Int), false)) else (if (wrap64 ((wrap64 (bt (rdOf ByteArray.empty x61 x63) 1)) - 48)) < 0 then (some (([] : List Int), 0, ([] : List Int), false)) else (if (wrap64 ((wrap64 (bt (rdOf ByteArray.empty x61 x63) 1)) - 48)) ≥ x5 then (some (([] : List Int), 0, ([] : List Int), false)) else (if 0 ≤ (wrap64 ((wrap64 (bt (rdOf ByteArray.empty x61 x63) 0)) - 48)) then (if (wrap64 ((wrap64 (bt (rdOf ByteArray.empty x61 x63) 0)) - 48)) < (x334000.length : Int) then (if 0 ≤ (wrap64 ((wrap64 (bt (rdOf ByteArray.empty x61 x63) 1)) - 48)) then ((some (x334000.set ((wrap64 ((wrap64 (bt (rdOf ByteArray.empty x61 x63) 0)) - 48)) : Int).toNat (Go.bits .or .i64 (rd x334000 (wrap64 ((wrap64 (bt (rdOf ByteArray.empty x61 x63) 0)) - 48))) (shl .i64 1 (wrap64 ((wrap64 (bt (rdOf ByteArray.empty x61 x63) 1)) - 48)))) : List Int)).bind fun y341 => (if (wrap64 ((wrap64 (bt (rdOf ByteArray.empty x61 x63) 1)) - 48)) < (x334000.length : Int) then (impl_ReadPlace.l0 k x0 x4 x5 x61 x62 (wrap64 (x63 + 1)) (y341.set ((wrap64 ((wrap64 (bt (rdOf ByteArray.empty x61 x63) 1)) - 48)) : Int).toNat (Go.bits .or .i64 (rd y341 (wrap64 ((wrap64 (bt (rdOf ByteArray.empty x61 x63) 1)) - 48))) (shl .i64 1 (wrap64 ((wrap64 (bt (rdOf ByteArray.empty x61 x63) 0)) - 48))))) x334001) else (none))) else (none)) else (none)) else (none)))))) else (none)) else (none)) else (some (([] : List Int), 0, ([] : List Int), false))) else (none)) else (none)) else (impl_ReadPlace.j3 k x0 x4 x334000 x334001)
end
def impl_ReadPlace.f (k : Nat) (a0 : ByteArray) : Option (List Int × Int × List Int × Bool) := (strings_Split.f k a0 (⟨#[32]⟩ : ByteArray)).bind fun t323 => (if (t323.length : Int) = 4 then (if 0 < (t323.length : Int) then (if ((rdOf ByteArray.empty t323 0).size : Int) = 1 then (if 2 < (t323.length : Int) then (impl_ReadPlace.j0 k a0 t323 (((rdOf ByteArray.empty t323 2).size : Int) != 1)) else (none)) else (impl_ReadPlace.j0 k a0 t323 true)) else (none)) else (impl_ReadPlace.j0 k a0 t323 true))
theorem impl_ReadPlace.mono_l : ∀ k, (∀ y0 y1 y2, LeO (impl_ReadPlace.j0 k y0 y1 y2) (impl_ReadPlace.j0 (k + 1) y0 y1 y2)) ∧ (∀ y0 y1 y2 y3, LeO (impl_ReadPlace.j1 k y0 y1 y2 y3) (impl_ReadPlace.j1 (k + 1) y0 y1 y2 y3)) ∧ (∀ y0 y1 y2 y3, LeO (impl_ReadPlace.j3 k y0 y1 y2 y3) (impl_ReadPlace.j3 (k + 1) y0 y1 y2 y3)) ∧ (∀ y0 y1 y2 y3 y4 y5 y6, LeO (impl_ReadPlace.l1 k y0 y1 y2 y3 y4 y5 y6) (impl_ReadPlace.l1 (k + 1) y0 y1 y2 y3 y4 y5 y6)) ∧ (∀ y0 y1 y2 y3 y4 y5 y6 y7, LeO (impl_ReadPlace.l0 k y0 y1 y2 y3 y4 y5 y6 y7) (impl_ReadPlace.l0 (k + 1) y0 y1 y2 y3 y4 y5 y6 y7))
 | 0 => ⟨fun _ _ _ r h => by simp [impl_ReadPlace.j0] at h, fun _ _ _ _ r h => by simp [impl_ReadPlace.j1] at h, fun _ _ _ _ r h => by simp [impl_ReadPlace.j3] at h, fun _ _ _ _ _ _ _ r h => by simp [impl_ReadPlace.l1] at h, fun _ _ _ _ _ _ _ _ r h => by simp [impl_ReadPlace.l0] at h⟩
 | k + 1 => by
  obtain ⟨ih0, ih1, ih2, ih3, ih4⟩ := impl_ReadPlace.mono_l k
  refine ⟨?_, ?_, ?_, ?_, ?_⟩
  ·intro y0 y1 y2
   unfold impl_ReadPlace.j0
   repeat' first
   | (with_reducible exact ih0 _ _ _)
   | (with_reducible exact ih1 _ _ _ _)
   | (with_reducible exact ih2 _ _ _ _)
   | (with_reducible exact ih3 _ _ _ _ _ _ _)
   | (with_reducible exact ih4 _ _ _ _ _ _ _ _)
   | (with_reducible exact impl_PlaceText.mono _ _ _ _)
   | (with_reducible exact strings_Split.mono _ _ _)
   | (with_reducible exact LeO.refl _)
   | (with_reducible exact LeO.none _)
   | (with_reducible refine LeO.ite ?_ ?_)
   | (with_reducible refine LeO.bind ?_ (fun _ => ?_))
   | exact ih0 _ _ _
   | exact ih1 _ _ _ _
   | exact ih2 _ _ _ _
   | exact ih3 _ _ _ _ _ _ _
   | exact ih4 _ _ _ _ _ _ _ _
   | exact impl_PlaceText.mono _ _ _ _
   | exact strings_Split.mono _ _ _
   | exact LeO.none _
   | refine LeO.ite ?_ ?_
   | refine LeO.bind ?_ (fun _ => ?_)
  ·intro y0 y1 y2 y3
   unfold impl_ReadPlace.j1
   repeat' first
   | (with_reducible exact ih0 _ _ _)
   | (with_reducible exact ih1 _ _ _ _)
   | (with_reducible exact ih2 _ _ _ _)
   | (with_reducible exact ih3 _ _ _ _ _ _ _)
   | (with_reducible exact ih4 _ _ _ _ _ _ _ _)
   | (with_reducible exact impl_PlaceText.mono _ _ _ _)
   | (with_reducible exact strings_Split.mono _ _ _)
   | (with_reducible exact LeO.refl _)
   | (with_reducible exact LeO.none _)
   | (with_reducible refine LeO.ite ?_ ?_)
   | (with_reducible refine LeO.bind ?_ (fun _ => ?_))
   | exact ih0 _ _ _
   | exact ih1 _ _ _ _
   | exact ih2 _ _ _ _
   | exact ih3 _ _ _ _ _ _ _
   | exact ih4 _ _ _ _ _ _ _ _
   | exact impl_PlaceText.mono _ _ _ _
   | exact strings_Split.mono _ _ _
   | exact LeO.none _
   | refine LeO.ite ?_ ?_
   | refine LeO.bind ?_ (fun _ => ?_)
  ·intro y0 y1 y2 y3
   unfold impl_ReadPlace.j3
   repeat' first
   | (with_reducible exact ih0 _ _ _)
   | (with_reducible exact ih1 _ _ _ _)
   | (with_reducible exact ih2 _ _ _ _)
   | (with_reducible exact ih3 _ _ _ _ _ _ _)
   | (with_reducible exact ih4 _ _ _ _ _ _ _ _)
   | (with_reducible exact impl_PlaceText.mono _ _ _ _)
   | (with_reducible exact strings_Split.mono _ _ _)
   | (with_reducible exact LeO.refl _)
   | (with_reducible exact LeO.none _)
   | (with_reducible refine LeO.ite ?_ ?_)
   | (with_reducible refine LeO.bind ?_ (fun _ => ?_))
   | exact ih0 _ _ _
   | exact ih1 _ _ _ _
   | exact ih2 _ _ _ _
   | exact ih3 _ _ _ _ _ _ _
   | exact ih4 _ _ _ _ _ _ _ _
   | exact impl_PlaceText.mono _ _ _ _
   | exact strings_Split.mono _ _ _
   | exact LeO.none _
   | refine LeO.ite ?_ ?_
   | refine LeO.bind ?_ (fun _ => ?_)
  ·intro y0 y1 y2 y3 y4 y5 y6
   unfold impl_ReadPlace.l1
   repeat' first
   | (with_reducible exact ih0 _ _ _)
   | (with_reducible exact ih1 _ _ _ _)
   | (with_reducible exact ih2 _ _ _ _)
   | (with_reducible exact ih3 _ _ _ _ _ _ _)
   | (with_reducible exact ih4 _ _ _ _ _ _ _ _)
   | (with_reducible exact impl_PlaceText.mono _ _ _ _)
   | (with_reducible exact strings_Split.mono _ _ _)
   | (with_reducible exact LeO.refl _)
   | (with_reducible exact LeO.none _)
   | (with_reducible refine LeO.ite ?_ ?_)
   | (with_reducible refine LeO.bind ?_ (fun _ => ?_))
   | exact ih0 _ _ _
   | exact ih1 _ _ _ _
   | exact ih2 _ _ _ _
   | exact ih3 _ _ _ _ _ _ _
   | exact ih4 _ _ _ _ _ _ _ _
   | exact impl_PlaceText.mono _ _ _ _
   | exact strings_Split.mono _ _ _
   | exact LeO.none _
   | refine LeO.ite ?_ ?_
   | refine LeO.bind ?_ (fun _ => ?_)
  ·intro y0 y1 y2 y3 y4 y5 y6 y7
   unfold impl_ReadPlace.l0
   repeat' first
   | (with_reducible exact ih0 _ _ _)
   | (with_reducible exact ih1 _ _ _ _)
   | (with_reducible exact ih2 _ _ _ _)
   | (with_reducible exact ih3 _ _ _ _ _ _ _)
   | (with_reducible exact ih4 _ _ _ _ _ _ _ _)
   | (with_reducible exact impl_PlaceText.mono _ _ _ _)
   | (with_reducible exact strings_Split.mono _ _ _)
   | (with_reducible exact LeO.refl _)
   | (with_reducible exact LeO.none _)
   | (with_reducible refine LeO.ite ?_ ?_)
   | (with_reducible refine LeO.bind ?_ (fun _ => ?_))
   | exact ih0 _ _ _
   | exact ih1 _ _ _ _
   | exact ih2 _ _ _ _
   | exact ih3 _ _ _ _ _ _ _
   | exact ih4 _ _ _ _ _ _ _ _
   | exact impl_PlaceText.mono _ _ _ _
   | exact strings_Split.mono _ _ _
   | exact LeO.none _
   | refine LeO.ite ?_ ?_
   | refine LeO.bind ?_ (fun _ => ?_)
theorem impl_ReadPlace.mono : ∀ a0 k, LeO (impl_ReadPlace.f k a0) (impl_ReadPlace.f (k + 1) a0) := by
 intro a0 k
 obtain ⟨ih0, ih1, ih2, ih3, ih4⟩ := impl_ReadPlace.mono_l k
 unfold impl_ReadPlace.f
 repeat' first
   | (with_reducible exact ih0 _ _ _)
   | (with_reducible exact ih1 _ _ _ _)
   | (with_reducible exact ih2 _ _ _ _)
   | (with_reducible exact ih3 _ _ _ _ _ _ _)
   | (with_reducible exact ih4 _ _ _ _ _ _ _ _)
   | (with_reducible exact impl_PlaceText.mono _ _ _ _)
   | (with_reducible exact strings_Split.mono _ _ _)
   | (with_reducible exact LeO.refl _)
   | (with_reducible exact LeO.none _)
   | (with_reducible refine LeO.ite ?_ ?_)
   | (with_reducible refine LeO.bind ?_ (fun _ => ?_))
   | exact ih0 _ _ _
   | exact ih1 _ _ _ _
   | exact ih2 _ _ _ _
   | exact ih3 _ _ _ _ _ _ _
   | exact ih4 _ _ _ _ _ _ _ _
   | exact impl_PlaceText.mono _ _ _ _
   | exact strings_Split.mono _ _ _
   | exact LeO.none _
   | refine LeO.ite ?_ ?_
   | refine LeO.bind ?_ (fun _ => ?_)
def impl_ReadPlace.T7 : Bool × List (List Nat × List Nat) := (true, [([], []), ([0, 0], [0]), ([], []), ([2], [2]), ([3], [3]), ([4], [4]), ([5], [5]), ([6], [6]), ([1, 7], [1, 7]), ([], []), ([9, 8, 0, 1, 2, 3, 4, 5, 6, 7, 8, 9], [8, 9])])
def impl_ReadPlace.B7 : List Nat := [0, 1, 0, 4, 12, 28, 60, 124, 255, 0, 1023]
theorem impl_ReadPlace.tab7 : rtab .any (opsOf Tryd.f19 7) = impl_ReadPlace.T7 := by kernel_rfl
theorem impl_ReadPlace.bits7 : waitsOk impl_ReadPlace.T7.2 impl_ReadPlace.B7 = true := by kernel_rfl
def impl_ReadPlace.T14 : Bool × List (List Nat × List Nat) := (true, [([], []), ([0], [0]), ([1], [1]), ([2], [2]), ([], []), ([4], [4]), ([5], [5]), ([6], [6]), ([3, 0, 1, 2, 3], [3]), ([7, 8, 0, 1, 2, 3, 4, 5, 6, 7, 8], [7])])
def impl_ReadPlace.B14 : List Nat := [0, 1, 3, 7, 0, 16, 48, 112, 15, 511]
theorem impl_ReadPlace.tab14 : rtab .any (opsOf Tryd.f19 14) = impl_ReadPlace.T14 := by kernel_rfl
theorem impl_ReadPlace.bits14 : waitsOk impl_ReadPlace.T14.2 impl_ReadPlace.B14 = true := by kernel_rfl
def impl_ReadPlace.T17 : Bool × List (List Nat × List Nat) := (true, [([], []), ([0], [0]), ([], []), ([1, 2], [1, 2]), ([3], [3]), ([], []), ([5], [5]), ([4, 6], [4, 6]), ([1, 2, 0, 1, 2, 3, 4, 5, 6, 7], [1, 2]), ([8, 7, 0, 1, 2, 3, 4, 5, 6, 7], [7, 8])])
def impl_ReadPlace.B17 : List Nat := [0, 1, 0, 7, 15, 0, 32, 127, 255, 511]
theorem impl_ReadPlace.tab17 : rtab .any (opsOf Tryd.f19 17) = impl_ReadPlace.T17 := by kernel_rfl
theorem impl_ReadPlace.bits17 : waitsOk impl_ReadPlace.T17.2 impl_ReadPlace.B17 = true := by kernel_rfl
def impl_ReadPlace.T18 : Bool × List (List Nat × List Nat) := (true, [([], []), ([0], [0]), ([], []), ([1, 2], [1, 2]), ([3], [3]), ([], []), ([5], [5]), ([4, 6], [4, 6]), ([1, 2, 0, 1, 2, 3, 4, 5, 6, 7], [1, 2]), ([8, 7, 0, 1, 2, 3, 4, 5, 6, 7], [7, 8])])
def impl_ReadPlace.B18 : List Nat := [0, 1, 0, 7, 15, 0, 32, 127, 255, 511]
theorem impl_ReadPlace.tab18 : rtab .any (opsOf Tryd.f19 18) = impl_ReadPlace.T18 := by kernel_rfl
theorem impl_ReadPlace.bits18 : waitsOk impl_ReadPlace.T18.2 impl_ReadPlace.B18 = true := by kernel_rfl
def impl_ReadPlace.T23 : Bool × List (List Nat × List Nat) := (true, [([], []), ([0], [0]), ([], []), ([2], [2]), ([3], [3]), ([], []), ([4, 5], [4, 5]), ([6], [6]), ([7], [7]), ([8], [8]), ([1, 9], [1, 9]), ([0, 1, 2, 3, 4, 5, 6, 7, 8, 9, 10], []), ([11, 10, 10, 0, 1, 2, 3, 4, 5, 6, 7, 8, 9, 10], [10, 11])])
def impl_ReadPlace.B23 : List Nat := [0, 1, 0, 4, 12, 0, 60, 124, 252, 508, 1023, 2047, 4095]
theorem impl_ReadPlace.tab23 : rtab .any (opsOf Tryd.f19 23) = impl_ReadPlace.T23 := by kernel_rfl
theorem impl_ReadPlace.bits23 : waitsOk impl_ReadPlace.T23.2 impl_ReadPlace.B23 = true := by kernel_rfl
set_option maxHeartbeats 8000000 in
set_option maxRecDepth 100000 in
theorem impl_ReadPlace.calls (k : Nat) (a0 : ByteArray) (r1 : List Int) (r2 : Int) (r3 : List Int) (r4 : Bool) (w : World) (h : impl_ReadPlace.f k a0 = some (r1, r2, r3, r4)) :
  Calls Tryd.prog 19 #[.string a0] w fun e w' => ∃ v0_ v2_ : Value, e = .returned (.tuple #[.agg #[v0_, .int .i64 r2, v2_], .bool r4]) ∧ Kd.R (Kd.int .i64) 3 w' w.heap.size (fun k_ => some k_ ≠ (v2_ : Value).ownBlock) v0_ r1 ∧ Kd.R (Kd.int .i64) 3 w' w.heap.size (fun k_ => some k_ ≠ (v0_ : Value).ownBlock) v2_ r3 ∧ Below w.heap.size w w' := by
 have hu31 := Tryd.underlying31
 have HB := Aside0.mk (Below.refl w.heap.size w)
 have H : ((strings_Split.f k a0 (⟨#[32]⟩ : ByteArray)).bind fun t323 => (if (t323.length : Int) = 4 then (if 0 < (t323.length : Int) then (if ((rdOf ByteArray.empty t323 0).size : Int) = 1 then (if 2 < (t323.length : Int) then (impl_ReadPlace.j0 k a0 t323 (((rdOf ByteArray.empty t323 2).size : Int) != 1)) else (none)) else (impl_ReadPlace.j0 k a0 t323 true)) else (none)) else (impl_ReadPlace.j0 k a0 t323 true))) = some (r1, r2, r3, r4) := h
 clear h
 replace H := Option.bind_eq_some_iff.mp H
 obtain ⟨t323, A20, H⟩ := H
 replace H : (if (t323.length : Int) = 4 then (if 0 < (t323.length : Int) then (if ((rdOf ByteArray.empty t323 0).size : Int) = 1 then (if 2 < (t323.length : Int) then (impl_ReadPlace.j0 k a0 t323 (((rdOf ByteArray.empty t323 2).size : Int) != 1)) else (none)) else (impl_ReadPlace.j0 k a0 t323 true)) else (none)) else (impl_ReadPlace.j0 k a0 t323 true)) = some (r1, r2, r3, r4) := H
 have A2 := Aside0.mk A20
 clear A20
 have HC3 := Aside0.mk H
 clear H
 go_enter Tryd.func19, Tryd.ntmps19
 go_upto_region 2 with (first | ((with_reducible refine gate_dst (N := 2) rfl ?_); (try (refine gate_guard (by rfl) ?_; dsimp only)); refine box_event ?hg (N := 2) ?hd (cs := #[.slice none 0 0, .int .i64 0, .slice none 0 0]) (t := 31) ?hr ?_; (case hd => rfl); (case hg => rfl); (case hr => first | (go_simp; done) | (go_simp; rfl)); intro gb322 hg w4 hbox hb; have n0_ := Aside0.mk (below_step (by repeat (first | (with_reducible first | exact HB.out | apply below_alloc | apply pw_below_drewN | apply below_drew1) | exact HB.out)) hb); have n1_ := Aside0.mk (hbox); have n2_ := Aside0.mk ((by rw [hg]; exact (below_size (by repeat (first | (with_reducible first | exact HB.out | apply below_alloc | apply pw_below_drewN | apply below_drew1) | exact HB.out))) : w.heap.size ≤ gb322)); have n3_ := Aside0.mk ((by rw [hg]; exact (below_size (by repeat (first | (with_reducible first | exact HB.out | apply below_alloc | apply pw_below_drewN | apply below_drew1) | exact HB.out))) : w.heap.size ≤ gb322)); clear HB; have HB := n0_; have BK322 := n1_; have GW322 := n2_; have GE322 := n3_; clear n0_ n1_ n2_ n3_; clear hb hbox hg) | ((with_reducible refine gate_callee (f := 50) rfl ?_); refine goesL_ (some 13) rfl rfl Tryd.func50 (by kernel_rfl) rfl #[.string a0, .string (⟨#[32]⟩ : ByteArray)] rfl (by (try simp only [List.map_toArray, List.map_cons, List.map_nil]); first | done | rfl | (simp only [List.length_drop, List.length_take]; rfl)) ?_; (with_reducible refine (strings_Split.calls k a0 (⟨#[32]⟩ : ByteArray) t323 _ A2.out).mono ?_); rintro e w5 ⟨v324, rfl, ho0, hb⟩; refine ⟨_, rfl, ?_⟩; have n0_ := Aside0.mk (Kd.R_lower ho0 (below_size (by repeat (first | (with_reducible first | exact HB.out | apply below_alloc | apply pw_below_drewN | apply below_drew1 | refine below_set ?_ GE322.out) | exact HB.out)))); have n1_ := Aside0.mk (blk_below (g := gb322) (o := .cells #[.slice none 0 0, .int .i64 0, .slice none 0 0] 31 (0, 0)) (by (with_reducible repeat (first | refine blk_drewN ?_ _ | refine blk_drew ?_ | refine blk_alloc ?_ _)); exact BK322.out) hb); have n2_ := Aside0.mk (below_step (by repeat (first | (with_reducible first | exact HB.out | apply below_alloc | apply pw_below_drewN | apply below_drew1 | refine below_set ?_ GE322.out) | exact HB.out)) hb); clear BK322; clear HB; have HO325 := n0_; have BK322 := n1_; have HB := n2_; clear n0_ n1_ n2_; (try clear hb); (try clear hb2); (try clear hk); (try clear hi); (try clear ho0)))
 (try simp only [Act.put, List.setIfInBounds_toArray, List.set_cons_zero, List.set_cons_succ])
 go_cut [30] (fun v30 wc => ∃ (kq : Nat) (x30_2 : Bool), v30 = .bool x30_2 ∧ Aside0 (impl_ReadPlace.j0 kq a0 t323 x30_2 = some (r1, r2, r3, r4)) ∧ Aside0 (kq ≤ k) ∧ Aside0 (Kd.R Kd.string 9 wc w.heap.size (fun _ => True) v324 t323) ∧ Aside0 (wc.heap[gb322]? = some (.cells #[(.slice none 0 0), .int .i64 0, (.slice none 0 0)] 31 (0, 0))) ∧ Aside0 (Below w.heap.size w wc))
 case first =>
  have H := HC3.out
  clear HC3
  by_cases c6 : (t323.length : Int) = 4
  ·rw [if_pos c6] at H
   have c6b0 : ((t323.length : Int) == 4) = true := beq_iff_eq.mpr c6
   have c6b1 : ((t323.length : Int) != 4) = false := bne_eq_false_iff_eq.mpr c6
   clear c6
   (first | rw [c6b0] | (simp only [i64_w, i32_w]; rw [c6b0]) | skip)
   by_cases c7 : 0 < (t323.length : Int)
   ·rw [if_pos c7] at H
    have c7b0 : decide (0 < (t323.length : Int)) = true := decide_eq_true c7
    have c7b1 : decide (0 < t323.length) = true := decide_eq_true (by omega)
    clear c7
    by_cases c8 : ((rdOf ByteArray.empty t323 0).size : Int) = 1
    ·rw [if_pos c8] at H
     have c8b0 : (((rdOf ByteArray.empty t323 0).size : Int) == 1) = true := beq_iff_eq.mpr c8
     have c8b1 : (((rdOf ByteArray.empty t323 0).size : Int) != 1) = false := bne_eq_false_iff_eq.mpr c8
     clear c8
     by_cases c9 : 2 < (t323.length : Int)
     ·rw [if_pos c9] at H
      have c9b0 : decide (2 < (t323.length : Int)) = true := decide_eq_true c9
      have c9b1 : decide (2 < t323.length) = true := decide_eq_true (by omega)
      clear c9
      have H' := Aside0.mk H
      clear H
      obtain ⟨Ao10, co10, eo10⟩ := Kd.R_slice HO325.out
      subst eo10
      have p326 : 0 ≤ (0 : Int) := (by omega)
      have q326 : 0 < (t323.length : Int) := of_decide_eq_true (by first | (with_reducible assumption) | assumption)
      obtain ⟨ad326, e326, hx326_0⟩ := Kd.at_string (Kd.R_reads' HO325.out).2.2 0 p326 q326
      cases e326
      have qi326 : (0 < t323.length) = True := eq_true (by omega)
      (try rw [show ((0 : Int)).toNat = 0 from rfl] at hx326_0)
      (try rw [Addr.add_zero'] at hx326_0)
      replace p326 := eq_true p326
      replace q326 := eq_true q326
      have p327 : 0 ≤ (2 : Int) := (by omega)
      have q327 : 2 < (t323.length : Int) := of_decide_eq_true (by first | (with_reducible assumption) | assumption)
      obtain ⟨ad327, e327, hx327_0⟩ := Kd.at_string (Kd.R_reads' HO325.out).2.2 2 p327 q327
      obtain rfl : ad326 = ad327 := (by injection e327)
      (try simp only [show (2 : Int).toNat = 2 from rfl, Nat.reduceMul, Nat.reduceEqDiff, Go.Addr.add, ↓reduceIte] at hx327_0)
      have qi327 : (2 < t323.length) = True := eq_true (by omega)
      (try rw [show ((2 : Int)).toNat = 2 from rfl] at hx327_0)
      replace p327 := eq_true p327
      replace q327 := eq_true q327
      go_wp2
      go_meet
      case rel => exact ⟨_, ((((rdOf ByteArray.empty t323 2).size : Int) != 1)), (by first | rfl | (simp; done) | (simp [*]; done)), H', ⟨by first | omega | exact Nat.le_refl _⟩, ⟨by (with_reducible repeat (first | apply Kd.R_alloc | apply Kd.R_drewN | apply Kd.R_drew)); exact HO325.out⟩, ⟨by (with_reducible repeat (first | refine blk_drewN ?_ _ | refine blk_drew ?_ | refine blk_alloc ?_ _)); exact BK322.out⟩, ⟨by repeat (first | (with_reducible first | exact HB.out | apply below_alloc | apply pw_below_drewN | apply below_drew1 | refine below_set ?_ GE322.out) | exact HB.out)⟩⟩
     ·rw [if_neg c9] at H
      exact absurd H (by simp)
    ·rw [if_neg c8] at H
     have c8b0 : (((rdOf ByteArray.empty t323 0).size : Int) == 1) = false := beq_eq_false_iff_ne.mpr c8
     have c8b1 : (((rdOf ByteArray.empty t323 0).size : Int) != 1) = true := bne_iff_ne.mpr c8
     have H' := Aside0.mk H
     clear H
     obtain ⟨Ao11, co11, eo11⟩ := Kd.R_slice HO325.out
     subst eo11
     have p326 : 0 ≤ (0 : Int) := (by omega)
     have q326 : 0 < (t323.length : Int) := of_decide_eq_true (by first | (with_reducible assumption) | assumption)
     obtain ⟨ad326, e326, hx326_0⟩ := Kd.at_string (Kd.R_reads' HO325.out).2.2 0 p326 q326
     cases e326
     have qi326 : (0 < t323.length) = True := eq_true (by omega)
     (try rw [show ((0 : Int)).toNat = 0 from rfl] at hx326_0)
     (try rw [Addr.add_zero'] at hx326_0)
     replace p326 := eq_true p326
     replace q326 := eq_true q326
     go_wp2
     go_meet
     case rel => exact ⟨_, (true), (by first | rfl | (simp; done) | (simp [*]; done)), H', ⟨by first | omega | exact Nat.le_refl _⟩, ⟨by (with_reducible repeat (first | apply Kd.R_alloc | apply Kd.R_drewN | apply Kd.R_drew)); exact HO325.out⟩, ⟨by (with_reducible repeat (first | refine blk_drewN ?_ _ | refine blk_drew ?_ | refine blk_alloc ?_ _)); exact BK322.out⟩, ⟨by repeat (first | (with_reducible first | exact HB.out | apply below_alloc | apply pw_below_drewN | apply below_drew1 | refine below_set ?_ GE322.out) | exact HB.out)⟩⟩
   ·rw [if_neg c7] at H
    exact absurd H (by simp)
  ·rw [if_neg c6] at H
   have c6b0 : ((t323.length : Int) == 4) = false := beq_eq_false_iff_ne.mpr c6
   have c6b1 : ((t323.length : Int) != 4) = true := bne_iff_ne.mpr c6
   (first | rw [c6b0] | (simp only [i64_w, i32_w]; rw [c6b0]) | skip)
   have H' := Aside0.mk H
   clear H
   obtain ⟨Ao12, co12, eo12⟩ := Kd.R_slice HO325.out
   subst eo12
   go_wp2
   go_meet
   case rel => exact ⟨_, (true), (by first | rfl | (simp; done) | (simp [*]; done)), H', ⟨by first | omega | exact Nat.le_refl _⟩, ⟨by (with_reducible repeat (first | apply Kd.R_alloc | apply Kd.R_drewN | apply Kd.R_drew)); exact HO325.out⟩, ⟨by (with_reducible repeat (first | refine blk_drewN ?_ _ | refine blk_drew ?_ | refine blk_alloc ?_ _)); exact BK322.out⟩, ⟨by repeat (first | (with_reducible first | exact HB.out | apply below_alloc | apply pw_below_drewN | apply below_drew1 | refine below_set ?_ GE322.out) | exact HB.out)⟩⟩
 case rest =>
  clear HC3
  try clear c1
  try clear p2
  try clear p3
  try clear q3
  try clear hx3
  try clear qi3
  try clear c5
  try clear c6
  try clear c6b0
  try clear c6b1
  try clear c7
  try clear c7b0
  try clear c7b1
  try clear c8
  try clear c8b0
  try clear c8b1
  try clear c9
  try clear c9b0
  try clear c9b1
  try clear hx326_0
  try clear hx327_0
  try clear p326
  try clear p327
  try clear q326
  try clear q327
  obtain ⟨kq, x30_2, rfl, HA, HJ2, HO_4, BK322, HB⟩ := hcut
  cases kq with
  | zero => exact absurd HA.out (by simp [impl_ReadPlace.j0])
  | succ kj2 =>
   have H := HA.out
   clear HA
   simp only [impl_ReadPlace.j0] at H
   by_cases c13 : x30_2 = true
   ·subst c13
    have H1 : (some (([] : List Int), 0, ([] : List Int), false)) = some (r1, r2, r3, r4) := by rw [if_pos rfl] at H; exact H
    clear H
    have H := H1
    clear H1
    simp only [Option.some.injEq, Prod.mk.injEq] at H
    obtain ⟨rfl, rfl, rfl, rfl⟩ := H
    have hcz14_0 : wc.cell? ⟨gb322, 0, none⟩ = some (.slice none 0 0) := (blk_cell BK322.out 0).trans rfl
    have hcz14_1 : wc.cell? ⟨gb322, 1, none⟩ = some (.int .i64 0) := (blk_cell BK322.out 1).trans rfl
    have hcz14_2 : wc.cell? ⟨gb322, 2, none⟩ = some (.slice none 0 0) := (blk_cell BK322.out 2).trans rfl
    have hfz14_0 := blk_frozen BK322.out 0
    have hfz14_1 := blk_frozen BK322.out 1
    have hfz14_2 := blk_frozen BK322.out 2
    go_wp2
    refine bodyPost_ret (results_ct rfl _ _ gb322 31 #[.slice none 0 0, .int .i64 0, .slice none 0 0] (0, 0) _ rfl (by (with_reducible repeat (first | refine blk_drewN ?_ _ | refine blk_drew ?_ | refine blk_alloc ?_ _)); refine blk_put (cs := #[.slice none 0 0, .int .i64 0, .slice none 0 0]) ?_ 2 _ rfl; (with_reducible repeat (first | refine blk_drewN ?_ _ | refine blk_drew ?_ | refine blk_alloc ?_ _)); refine blk_put (cs := #[.slice none 0 0, .int .i64 0, .slice none 0 0]) ?_ 1 _ rfl; (with_reducible repeat (first | refine blk_drewN ?_ _ | refine blk_drew ?_ | refine blk_alloc ?_ _)); refine blk_put (cs := #[.slice none 0 0, .int .i64 0, .slice none 0 0]) ?_ 0 _ rfl; (with_reducible repeat (first | refine blk_drewN ?_ _ | refine blk_drew ?_ | refine blk_alloc ?_ _)); exact BK322.out) Tryd.underlying31 rfl (by kernel_rfl)) rfl ?_
    exact ⟨_, _, by first | rfl | (simp [errW_none, errW_some] <;> rfl) | (simp [*, errW_none, errW_some] <;> rfl), by first | exact Kd.R_nil _ _ _ _ _ | exact Kd.N_nil _ _ _ _ _ | exact Kd.V_nil _ _ _ _ _ | exact Kd.Q_nil _ _ _ _ _ | exact Kd.S_nil _ _ _ _ _, by first | exact Kd.R_nil _ _ _ _ _ | exact Kd.N_nil _ _ _ _ _ | exact Kd.V_nil _ _ _ _ _ | exact Kd.Q_nil _ _ _ _ _ | exact Kd.S_nil _ _ _ _ _, by repeat (first | (with_reducible first | exact HB.out | apply below_alloc | apply pw_below_drewN | apply below_drew1 | refine below_set ?_ GE322.out) | exact HB.out)⟩
   ·replace c13 := Bool.eq_false_iff.mpr c13
    subst c13
    have H1 : (if 0 < (t323.length : Int) then (if 0 < ((rdOf ByteArray.empty t323 0).size : Int) then (if (wrap64 ((wrap64 (bt (rdOf ByteArray.empty t323 0) 0)) - 48)) < 1 then (impl_ReadPlace.j1 kj2 a0 t323 (wrap64 ((wrap64 (bt (rdOf ByteArray.empty t323 0) 0)) - 48)) true) else (impl_ReadPlace.j1 kj2 a0 t323 (wrap64 ((wrap64 (bt (rdOf ByteArray.empty t323 0) 0)) - 48)) (decide ((wrap64 ((wrap64 (bt (rdOf ByteArray.empty t323 0) 0)) - 48)) > 6)))) else (none)) else (none)) = some (r1, r2, r3, r4) := by rw [if_neg (show ¬ (false = true) by decide)] at H; exact H
    clear H
    have H := H1
    clear H1
    by_cases c15 : 0 < (t323.length : Int)
    ·rw [if_pos c15] at H
     have c15b0 : decide (0 < (t323.length : Int)) = true := decide_eq_true c15
     have c15b1 : decide (0 < t323.length) = true := decide_eq_true (by omega)
     clear c15
     by_cases c16 : 0 < ((rdOf ByteArray.empty t323 0).size : Int)
     ·rw [if_pos c16] at H
      have c16b0 : decide (0 < ((rdOf ByteArray.empty t323 0).size : Int)) = true := decide_eq_true c16
      have c16b1 : decide (0 < (rdOf ByteArray.empty t323 0).size) = true := decide_eq_true (by omega)
      clear c16
      have HC18 := Aside0.mk H
      clear H
      obtain ⟨Ao19, co19, eo19⟩ := Kd.R_slice HO_4.out
      subst eo19
      have p328 : 0 ≤ (0 : Int) := (by omega)
      have q328 : 0 < (t323.length : Int) := of_decide_eq_true (by first | (with_reducible assumption) | assumption)
      obtain ⟨ad328, e328, hx328_0⟩ := Kd.at_string (Kd.R_reads' HO_4.out).2.2 0 p328 q328
      cases e328
      have qi328 : (0 < t323.length) = True := eq_true (by omega)
      (try rw [show ((0 : Int)).toNat = 0 from rfl] at hx328_0)
      (try rw [Addr.add_zero'] at hx328_0)
      replace p328 := eq_true p328
      replace q328 := eq_true q328
      have p17 : 0 ≤ (0 : Int) := (by omega)
      have q17 : 0 < (rdOf ByteArray.empty t323 0).size := (by have : (0 : Int) < ((rdOf ByteArray.empty t323 0).size : Int) := of_decide_eq_true (by first | (with_reducible assumption) | assumption); omega)
      have hx17 : ∀ h : 0 < (rdOf ByteArray.empty t323 0).size, (((rdOf ByteArray.empty t323 0)[0]'h).toNat : Int) = bt (rdOf ByteArray.empty t323 0) 0 := bt_at (rdOf ByteArray.empty t323 0) 0
      clear p17
      have qi17 : (0 < ((rdOf ByteArray.empty t323 0).size : Int)) = True := eq_true (of_decide_eq_true (by first | (with_reducible assumption) | assumption))
      replace q17 := eq_true q17
      go_upto_region 5 with (fail)
      go_cut [43] (fun v43 wc => ∃ (kq : Nat) (x43_17 : Bool), v43 = .bool x43_17 ∧ Aside0 (impl_ReadPlace.j1 kq a0 t323 (wrap64 ((wrap64 (bt (rdOf ByteArray.empty t323 0) 0)) - 48)) x43_17 = some (r1, r2, r3, r4)) ∧ Aside0 (kq ≤ kj2) ∧ Aside0 (Kd.R Kd.string 9 wc w.heap.size (fun _ => True) (.slice (some ad328) t323.length co19) t323) ∧ Aside0 (wc.heap[gb322]? = some (.cells #[(.slice none 0 0), .int .i64 0, (.slice none 0 0)] 31 (0, 0))) ∧ Aside0 (Below w.heap.size w wc))
      case first =>
       have H := HC18.out
       clear HC18
       by_cases c20 : (wrap64 ((wrap64 (bt (rdOf ByteArray.empty t323 0) 0)) - 48)) < 1
       ·rw [if_pos c20] at H
        have c20b0 : decide ((wrap64 ((wrap64 (bt (rdOf ByteArray.empty t323 0) 0)) - 48)) < 1) = true := decide_eq_true c20
        clear c20
        (first | rw [c20b0] | (simp only [i64_w, i32_w]; rw [c20b0]) | skip)
        have H' := Aside0.mk H
        clear H
        go_wp2
        go_meet
        case rel => exact ⟨_, (true), (by first | rfl | (simp; done) | (simp [*]; done)), H', ⟨by have := HJ2.out; first | omega | exact Nat.le_refl _⟩, ⟨by (with_reducible repeat (first | apply Kd.R_alloc | apply Kd.R_drewN | apply Kd.R_drew)); exact HO_4.out⟩, ⟨by (with_reducible repeat (first | refine blk_drewN ?_ _ | refine blk_drew ?_ | refine blk_alloc ?_ _)); exact BK322.out⟩, ⟨by repeat (first | (with_reducible first | exact HB.out | apply below_alloc | apply pw_below_drewN | apply below_drew1 | refine below_set ?_ GE322.out) | exact HB.out)⟩⟩
       ·rw [if_neg c20] at H
        have c20b0 : decide ((wrap64 ((wrap64 (bt (rdOf ByteArray.empty t323 0) 0)) - 48)) < 1) = false := decide_eq_false c20
        clear c20
        (first | rw [c20b0] | (simp only [i64_w, i32_w]; rw [c20b0]) | skip)
        have H' := Aside0.mk H
        clear H
        go_wp2
        go_meet
        case rel => exact ⟨_, (decide ((wrap64 ((wrap64 (bt (rdOf ByteArray.empty t323 0) 0)) - 48)) > 6)), (by first | rfl | (simp; done) | (simp [*]; done)), H', ⟨by have := HJ2.out; first | omega | exact Nat.le_refl _⟩, ⟨by (with_reducible repeat (first | apply Kd.R_alloc | apply Kd.R_drewN | apply Kd.R_drew)); exact HO_4.out⟩, ⟨by (with_reducible repeat (first | refine blk_drewN ?_ _ | refine blk_drew ?_ | refine blk_alloc ?_ _)); exact BK322.out⟩, ⟨by repeat (first | (with_reducible first | exact HB.out | apply below_alloc | apply pw_below_drewN | apply below_drew1 | refine below_set ?_ GE322.out) | exact HB.out)⟩⟩
      case rest =>
       clear HC18
       try clear c1
       try clear p1
       try clear q1
       try clear hx1
       try clear qi1
       try clear c2
       try clear p2
       try clear p3
       try clear q3
       try clear hx3
       try clear qi3
       try clear c5
       try clear c6
       try clear c6b0
       try clear c6b1
       try clear p6
       try clear c7
       try clear c7b0
       try clear c7b1
       try clear c8
       try clear c8b0
       try clear c8b1
       try clear c9
       try clear c9b0
       try clear c9b1
       try clear c13
       try clear c15
       try clear c15b0
       try clear c15b1
       try clear c16
       try clear c16b0
       try clear c16b1
       try clear p17
       try clear q17
       try clear hx17
       try clear qi17
       try clear c19
       try clear c20
       try clear c20b0
       try clear hcz14_0
       try clear hcz14_1
       try clear hcz14_2
       try clear hfz14_0
       try clear hfz14_1
       try clear hfz14_2
       try clear hx326_0
       try clear hx327_0
       try clear hx328_0
       try clear p17
       try clear p2
       try clear p3
       try clear p326
       try clear p327
       try clear p328
       try clear q17
       try clear q3
       try clear q326
       try clear q327
       try clear q328
       obtain ⟨kq, x43_17, rfl, HA, HJ17, HO_4, BK322, HB⟩ := hcut
       cases kq with
       | zero => exact absurd HA.out (by simp [impl_ReadPlace.j1])
       | succ kj17 =>
        have H := HA.out
        clear HA
        simp only [impl_ReadPlace.j1] at H
        by_cases c21 : x43_17 = true
        ·subst c21
         have H1 : (some (([] : List Int), 0, ([] : List Int), false)) = some (r1, r2, r3, r4) := by rw [if_pos rfl] at H; exact H
         clear H
         have H := H1
         clear H1
         simp only [Option.some.injEq, Prod.mk.injEq] at H
         obtain ⟨rfl, rfl, rfl, rfl⟩ := H
         have hcz22_0 : wc.cell? ⟨gb322, 0, none⟩ = some (.slice none 0 0) := (blk_cell BK322.out 0).trans rfl
         have hcz22_1 : wc.cell? ⟨gb322, 1, none⟩ = some (.int .i64 0) := (blk_cell BK322.out 1).trans rfl
         have hcz22_2 : wc.cell? ⟨gb322, 2, none⟩ = some (.slice none 0 0) := (blk_cell BK322.out 2).trans rfl
         have hfz22_0 := blk_frozen BK322.out 0
         have hfz22_1 := blk_frozen BK322.out 1
         have hfz22_2 := blk_frozen BK322.out 2
         go_wp2
         refine bodyPost_ret (results_ct rfl _ _ gb322 31 #[.slice none 0 0, .int .i64 0, .slice none 0 0] (0, 0) _ rfl (by (with_reducible repeat (first | refine blk_drewN ?_ _ | refine blk_drew ?_ | refine blk_alloc ?_ _)); refine blk_put (cs := #[.slice none 0 0, .int .i64 0, .slice none 0 0]) ?_ 2 _ rfl; (with_reducible repeat (first | refine blk_drewN ?_ _ | refine blk_drew ?_ | refine blk_alloc ?_ _)); refine blk_put (cs := #[.slice none 0 0, .int .i64 0, .slice none 0 0]) ?_ 1 _ rfl; (with_reducible repeat (first | refine blk_drewN ?_ _ | refine blk_drew ?_ | refine blk_alloc ?_ _)); refine blk_put (cs := #[.slice none 0 0, .int .i64 0, .slice none 0 0]) ?_ 0 _ rfl; (with_reducible repeat (first | refine blk_drewN ?_ _ | refine blk_drew ?_ | refine blk_alloc ?_ _)); exact BK322.out) Tryd.underlying31 rfl (by kernel_rfl)) rfl ?_
         exact ⟨_, _, by first | rfl | (simp [errW_none, errW_some] <;> rfl) | (simp [*, errW_none, errW_some] <;> rfl), by first | exact Kd.R_nil _ _ _ _ _ | exact Kd.N_nil _ _ _ _ _ | exact Kd.V_nil _ _ _ _ _ | exact Kd.Q_nil _ _ _ _ _ | exact Kd.S_nil _ _ _ _ _, by first | exact Kd.R_nil _ _ _ _ _ | exact Kd.N_nil _ _ _ _ _ | exact Kd.V_nil _ _ _ _ _ | exact Kd.Q_nil _ _ _ _ _ | exact Kd.S_nil _ _ _ _ _, by repeat (first | (with_reducible first | exact HB.out | apply below_alloc | apply pw_below_drewN | apply below_drew1 | refine below_set ?_ GE322.out) | exact HB.out)⟩
        ·replace c21 := Bool.eq_false_iff.mpr c21
         subst c21
         have H1 : (if 0 ≤ (wrap64 ((wrap64 (bt (rdOf ByteArray.empty t323 0) 0)) - 48)) then (if ((wrap64 ((wrap64 (bt (rdOf ByteArray.empty t323 0) 0)) - 48)) : Int).toNat ≤ 35184372088832 then ((some (List.replicate ((wrap64 ((wrap64 (bt (rdOf ByteArray.empty t323 0) 0)) - 48)) : Int).toNat 0 : List Int)).bind fun y329 => (if 2 < (t323.length : Int) then (if 0 < ((rdOf ByteArray.empty t323 2).size : Int) then (if 1 < (t323.length : Int) then (if (rdOf ByteArray.empty t323 1).toList = ([46] : List UInt8) then (impl_ReadPlace.j3 kj17 a0 t323 y329 (wrap64 ((wrap64 (bt (rdOf ByteArray.empty t323 2) 0)) - 48))) else ((strings_Split.f kj17 (rdOf ByteArray.empty t323 1) (⟨#[44]⟩ : ByteArray)).bind fun t336 => (impl_ReadPlace.l0 kj17 a0 t323 (wrap64 ((wrap64 (bt (rdOf ByteArray.empty t323 0) 0)) - 48)) t336 (t336.length : Int) 0 y329 (wrap64 ((wrap64 (bt (rdOf ByteArray.empty t323 2) 0)) - 48))))) else (none)) else (none)) else (none))) else (none)) else (none)) = some (r1, r2, r3, r4) := by rw [if_neg (show ¬ (false = true) by decide)] at H; exact H
         clear H
         have H := H1
         clear H1
         obtain ⟨ji23, hji23⟩ : ∃ j_ : Int, (wrap64 ((wrap64 (bt (rdOf ByteArray.empty t323 0) 0)) - 48)) = j_ := ⟨_, rfl⟩
         replace H : (if 0 ≤ (ji23) then (if ((ji23) : Int).toNat ≤ 35184372088832 then ((some (List.replicate ((ji23) : Int).toNat 0 : List Int)).bind fun y329 => (if 2 < (t323.length : Int) then (if 0 < ((rdOf ByteArray.empty t323 2).size : Int) then (if 1 < (t323.length : Int) then (if (rdOf ByteArray.empty t323 1).toList = ([46] : List UInt8) then (impl_ReadPlace.j3 kj17 a0 t323 y329 (wrap64 ((wrap64 (bt (rdOf ByteArray.empty t323 2) 0)) - 48))) else ((strings_Split.f kj17 (rdOf ByteArray.empty t323 1) (⟨#[44]⟩ : ByteArray)).bind fun t336 => (impl_ReadPlace.l0 kj17 a0 t323 (ji23) t336 (t336.length : Int) 0 y329 (wrap64 ((wrap64 (bt (rdOf ByteArray.empty t323 2) 0)) - 48))))) else (none)) else (none)) else (none))) else (none)) else (none)) = some (r1, r2, r3, r4) := by first | (rw [hji23] at H; exact H) | (simp only [hji23] at H ⊢; exact H)
         have hji23w : (IntKind.i64.wrap ((wrap64 (bt (rdOf ByteArray.empty t323 0) 0)) - 48)) = ji23 := (i64_w _).trans hji23
         by_cases c24 : 0 ≤ (ji23)
         ·rw [if_pos c24] at H
          have c24b0 := eq_true c24
          have c24b1 : decide (0 ≤ (ji23)) = true := decide_eq_true c24
          clear c24
          by_cases c25 : ((ji23) : Int).toNat ≤ 35184372088832
          ·rw [if_pos c25] at H
           have c25b0 := eq_true c25
           have c25b1 : decide (((ji23) : Int).toNat ≤ 35184372088832) = true := decide_eq_true c25
           clear c25
           obtain ⟨y329, hy329⟩ : ∃ y_ : List Int, y_ = (List.replicate ((ji23) : Int).toNat 0) := ⟨_, rfl⟩
           replace H : (if 2 < (t323.length : Int) then (if 0 < ((rdOf ByteArray.empty t323 2).size : Int) then (if 1 < (t323.length : Int) then (if (rdOf ByteArray.empty t323 1).toList = ([46] : List UInt8) then (impl_ReadPlace.j3 kj17 a0 t323 y329 (wrap64 ((wrap64 (bt (rdOf ByteArray.empty t323 2) 0)) - 48))) else ((strings_Split.f kj17 (rdOf ByteArray.empty t323 1) (⟨#[44]⟩ : ByteArray)).bind fun t336 => (impl_ReadPlace.l0 kj17 a0 t323 (ji23) t336 (t336.length : Int) 0 y329 (wrap64 ((wrap64 (bt (rdOf ByteArray.empty t323 2) 0)) - 48))))) else (none)) else (none)) else (none)) = some (r1, r2, r3, r4) := by first | (rw [hy329]; with_reducible exact H) | (have H2_ := (Option.bind_some _ _).symm.trans H; rw [hy329]; with_reducible exact H2_) | (have H2_ := (Option.bind_some _ _).symm.trans H; with_reducible exact H2_) | with_reducible exact H | (rw [hy329]; exact H) | exact H
           have Ny329 := Aside0.mk hy329
           clear hy329
           by_cases c26 : 2 < (t323.length : Int)
           ·rw [if_pos c26] at H
            have c26b0 : decide (2 < (t323.length : Int)) = true := decide_eq_true c26
            have c26b1 : decide (2 < t323.length) = true := decide_eq_true (by omega)
            clear c26
            by_cases c27 : 0 < ((rdOf ByteArray.empty t323 2).size : Int)
            ·rw [if_pos c27] at H
             have c27b0 : decide (0 < ((rdOf ByteArray.empty t323 2).size : Int)) = true := decide_eq_true c27
             have c27b1 : decide (0 < (rdOf ByteArray.empty t323 2).size) = true := decide_eq_true (by omega)
             clear c27
             by_cases c29 : 1 < (t323.length : Int)
             ·rw [if_pos c29] at H
              have c29b0 : decide (1 < (t323.length : Int)) = true := decide_eq_true c29
              have c29b1 : decide (1 < t323.length) = true := decide_eq_true (by omega)
              clear c29
              have HC30 := Aside0.mk H
              clear H
              try go_wp2
              have n0_ := Aside0.mk (Kd.R_drew HO_4.out)
              have n1_ := Aside0.mk (blk_drew BK322.out)
              have n2_ := Aside0.mk (below_drew1 HB.out)
              clear HO_4
              clear BK322
              clear HB
              have HO_4 := n0_
              have BK322 := n1_
              have HB := n2_
              clear n0_ n1_ n2_
              have p332 : 0 ≤ (2 : Int) := (by omega)
              have q332 : 2 < (t323.length : Int) := of_decide_eq_true (by first | (with_reducible assumption) | assumption)
              obtain ⟨ad332, e332, hx332_0⟩ := Kd.at_string (Kd.R_reads' HO_4.out).2.2 2 p332 q332
              obtain rfl : ad328 = ad332 := (by injection e332)
              (try simp only [show (2 : Int).toNat = 2 from rfl, Nat.reduceMul, Nat.reduceEqDiff, Go.Addr.add, ↓reduceIte] at hx332_0)
              have qi332 : (2 < t323.length) = True := eq_true (by omega)
              (try rw [show ((2 : Int)).toNat = 2 from rfl] at hx332_0)
              replace p332 := eq_true p332
              replace q332 := eq_true q332
              have p28 : 0 ≤ (0 : Int) := (by omega)
              have q28 : 0 < (rdOf ByteArray.empty t323 2).size := (by have : (0 : Int) < ((rdOf ByteArray.empty t323 2).size : Int) := of_decide_eq_true (by first | (with_reducible assumption) | assumption); omega)
              have hx28 : ∀ h : 0 < (rdOf ByteArray.empty t323 2).size, (((rdOf ByteArray.empty t323 2)[0]'h).toNat : Int) = bt (rdOf ByteArray.empty t323 2) 0 := bt_at (rdOf ByteArray.empty t323 2) 0
              clear p28
              have qi28 : (0 < ((rdOf ByteArray.empty t323 2).size : Int)) = True := eq_true (of_decide_eq_true (by first | (with_reducible assumption) | assumption))
              replace q28 := eq_true q28
              refine start_ (n := 11) (S := fun w' => w'.cell? ⟨ad328.block, ad328.off + 2, none⟩ = some (.string (rdOf ByteArray.empty t323 2))) (ds := []) #[false, false, false, false, false, false, false, false, false, false, false] (by kernel_rfl) rfl rfl (hx332_0) (fun hHeld => ?_); refine with_tabW impl_ReadPlace.tab7 impl_ReadPlace.bits7 (fun HT_ HW_ => ?_)
              generalize wc.drew = w31 at HO_4 BK322 HB hx332_0 hHeld ⊢
              refine pure_ (i := 0) (N := some 45) (v := ?_) (a' := ?_) #[true, false, false, false, false, false, false, false, false, false, false] rfl rfl (any_of HT_.out (by kernel_rfl)) (fun _ _ _ h => h) (Or.inl ⟨by rfl, ?_⟩) ?_ ?_
              rotate_left
              ·intro w'
               go_simp
               with_reducible rfl
              rotate_left
              ·simp only [Act.put, List.setIfInBounds_toArray, List.set_cons_zero, List.set_cons_succ, i64_w, i32_w]
               rfl
              refine pure_ (i := 2) (N := some 47) (v := ?_) (a' := ?_) #[true, false, true, false, false, false, false, false, false, false, false] rfl rfl (any_of HT_.out (by kernel_rfl)) (fun _ _ _ h => h) (Or.inl ⟨by rfl, ?_⟩) ?_ ?_
              rotate_left
              ·intro w'
               go_simp
               with_reducible rfl
              rotate_left
              ·simp only [Act.put, List.setIfInBounds_toArray, List.set_cons_zero, List.set_cons_succ, i64_w, i32_w]
               rfl
              refine pure_ (i := 3) (N := some 48) (v := ?_) (a' := ?_) #[true, false, true, true, false, false, false, false, false, false, false] rfl rfl (any_of HT_.out (by kernel_rfl)) (fun _ _ _ h => h) (Or.inl ⟨by rfl, ?_⟩) ?_ ?_
              rotate_left
              ·intro w'
               go_simp
               with_reducible rfl
              rotate_left
              ·simp only [Act.put, List.setIfInBounds_toArray, List.set_cons_zero, List.set_cons_succ, i64_w, i32_w]
               rfl
              refine take_ (i := 4) (N := some 49) (v := ?_) (a' := ?_) #[true, false, true, true, true, false, false, false, false, false, false] rfl rfl (take_ofW HT_.out HW_.out (by kernel_rfl)) (fun _ _ _ h => h) (Or.inl ⟨by rfl, ?_⟩) hHeld ?_ ?_
              rotate_left
              ·intro w' s0
               go_simp
               with_reducible rfl
              rotate_left
              ·simp only [Act.put, List.setIfInBounds_toArray, List.set_cons_zero, List.set_cons_succ, i64_w, i32_w]
               rfl
              refine take_ (i := 5) (N := some 50) (v := ?_) (a' := ?_) #[true, false, true, true, true, true, false, false, false, false, false] rfl rfl (take_ofW HT_.out HW_.out (by kernel_rfl)) (fun _ _ _ h => h) (Or.inl ⟨by rfl, ?_⟩) hHeld ?_ ?_
              rotate_left
              ·intro w' s0
               go_simp
               with_reducible rfl
              rotate_left
              ·simp only [Act.put, List.setIfInBounds_toArray, List.set_cons_zero, List.set_cons_succ, i64_w, i32_w]
               rfl
              refine pure_ (i := 6) (N := some 51) (v := ?_) (a' := ?_) #[true, false, true, true, true, true, true, false, false, false, false] rfl rfl (any_of HT_.out (by kernel_rfl)) (fun _ _ _ h => h) (Or.inl ⟨by rfl, ?_⟩) ?_ ?_
              rotate_left
              ·intro w'
               go_simp
               with_reducible rfl
              rotate_left
              ·simp only [Act.put, List.setIfInBounds_toArray, List.set_cons_zero, List.set_cons_succ, i64_w, i32_w]
               rfl
              refine pure_ (i := 7) (N := some 52) (v := ?_) (a' := ?_) #[true, false, true, true, true, true, true, true, false, false, false] rfl rfl (any_of HT_.out (by kernel_rfl)) (fun _ _ _ h => h) (Or.inl ⟨by rfl, ?_⟩) ?_ ?_
              rotate_left
              ·intro w'
               go_simp
               with_reducible rfl
              rotate_left
              ·simp only [Act.put, List.setIfInBounds_toArray, List.set_cons_zero, List.set_cons_succ, i64_w, i32_w]
               rfl
              refine join_ (σ := Value × Nat) 1 #[true, true, true, true, true, true, true, true, true, true, false] (fun s_ => [(46, s_.1), (6, .pointer (some ⟨s_.2, 0, none⟩)), (53, .agg #[s_.1, .int .i64 (wrap64 ((wrap64 (bt (rdOf ByteArray.empty t323 2) 0)) - 48)), .slice none 0 0])]) (fun s_ w' => (w'.cell? ⟨ad328.block, ad328.off + 2, none⟩ = some (.string (rdOf ByteArray.empty t323 2))) ∧ (Kd.R (Kd.int .i64) 3 w' w.heap.size (fun _ => True) s_.1 y329) ∧ (Kd.R Kd.string 9 w' w.heap.size (fun _ => True) (.slice (some ad328) t323.length co19) t323) ∧ (w'.heap[gb322]? = some (.cells #[.slice none 0 0, .int .i64 0, .slice none 0 0] 31 (0, 0))) ∧ (w'.heap[s_.2]? = some (.cells #[.slice none 0 0, .int .i64 0, .slice none 0 0] 31 (0, 0))) ∧ (w.heap.size ≤ s_.2) ∧ (w.heap.size ≤ s_.2) ∧ (gb322 ≠ s_.2) ∧ (s_.2 ≠ gb322) ∧ (Below w.heap.size w w')) ?_ ?_
              rotate_left
              ·intro hCont
               refine two_ (i := 1) (j := 9) (Ni := some 46) (Nj := some 6) #[true, true, true, true, true, true, true, true, false, false, false] #[true, false, true, true, true, true, true, true, false, true, false] rfl rfl rfl rfl (two_of HT_.out (by kernel_rfl)) (by decide) (by decide) (fun K hK => ?_) (fun K hK => ?_)
               ·skip
                refine Kd.R_make_step (Kd.int .i64) _ 3 (by rfl) (N := 46) rfl 22 _ _ rfl (ji23) rfl rfl Tryd.underlying22 (.int .i64 0) 8 info3 rfl (by decide) (by omega) 0 (ok := fun _ => True) (okp := fun _ => True) rfl (fun _ hk => hk) trivial (of_decide_eq_true (by first | (with_reducible assumption) | assumption)) (Nat.le_trans (Nat.mul_le_mul_right _ (of_decide_eq_true (by first | (with_reducible assumption) | assumption) : (ji23).toNat ≤ 35184372088832)) (by omega)) (Below.refl _ _) (Nat.le_refl _) ?_
                intro v330 w32 ho33 hb hg_ hnew_
                have HS0_ := (hb.cell (World.block_lt_of_cell? _ _ (hHeld))).trans (hHeld)
                clear hg_ hnew_
                (first | rw [← Ny329.out] at ho33 | (simp only [Int.reduceToNat] at ho33; rw [← Ny329.out] at ho33))
                have n0_ := Aside0.mk (Kd.R_below (by (with_reducible repeat (first | apply Kd.R_alloc | apply Kd.R_drewN | apply Kd.R_drew)); exact HO_4.out) hb)
                have n1_ := Aside0.mk (Kd.R_lower ho33 (below_size (by repeat (first | (with_reducible first | exact HB.out | apply below_alloc | apply pw_below_drewN | apply below_drew1 | refine below_set ?_ GE322.out) | exact HB.out))))
                have n2_ := Aside0.mk (blk_below (g := gb322) (o := .cells #[.slice none 0 0, .int .i64 0, .slice none 0 0] 31 (0, 0)) (by (with_reducible repeat (first | refine blk_drewN ?_ _ | refine blk_drew ?_ | refine blk_alloc ?_ _)); exact BK322.out) hb)
                have n3_ := Aside0.mk (below_step (by repeat (first | (with_reducible first | exact HB.out | apply below_alloc | apply pw_below_drewN | apply below_drew1 | refine below_set ?_ GE322.out) | exact HB.out)) hb)
                clear HO_4
                clear BK322
                clear HB
                have HO_4 := n0_
                have HO331 := n1_
                have BK322 := n2_
                have HB := n3_
                clear n0_ n1_ n2_ n3_
                clear hb ho33
                obtain ⟨Ao34, co34, eo34⟩ := Kd.R_slice HO331.out
                (first | subst eo34 | (injection eo34 with f1_ f2_ f3_; have f4_ := f1_.symm; have f5_ := f3_.symm; clear f1_ f2_ f3_; subst f4_; subst f5_))
                refine hK.out _ _ (HS0_) (fun hHeld => ?_)
                clear hK K
                refine norm_ (a' := ?_) ?_ ?_
                rotate_left
                ·show Act.put _ (some 46) _ = _
                 simp only [Act.put, List.setIfInBounds_toArray, List.set_cons_zero, List.set_cons_succ, i64_w, i32_w]
                 rfl
                refine pure_ (i := 8) (N := some 53) (v := ?_) (a' := ?_) #[true, true, true, true, true, true, true, true, true, false, false] rfl rfl (any_of HT_.out (by kernel_rfl)) (fun _ _ _ h => h) (Or.inl ⟨by rfl, ?_⟩) ?_ ?_
                rotate_left
                ·intro w'
                 go_simp
                 with_reducible rfl
                rotate_left
                ·simp only [Act.put, List.setIfInBounds_toArray, List.set_cons_zero, List.set_cons_succ, i64_w, i32_w]
                 rfl
                refine one_ (i := 9) (N := some 6) #[true, true, true, true, true, true, true, true, true, true, false] rfl rfl (one_of HT_.out (by kernel_rfl)) (by decide) (fun K hK => ?_)
                refine box_step ?hg (N := 6) ?hd (cs := #[.slice none 0 0, .int .i64 0, .slice none 0 0]) (t := 31) ?hr ?_; (case hd => rfl); (case hg => rfl); (case hr => first | (go_simp; done) | (go_simp; rfl))
                intro gb333 hg w35 hbox hb
                have HS0_ := (hb.cell (World.block_lt_of_cell? _ _ (hHeld))).trans (hHeld)
                have n0_ := Aside0.mk (Kd.R_below (by (with_reducible repeat (first | apply Kd.R_alloc | apply Kd.R_drewN | apply Kd.R_drew)); exact HO_4.out) hb)
                have n1_ := Aside0.mk (Kd.R_below (by (with_reducible repeat (first | apply Kd.R_alloc | apply Kd.R_drewN | apply Kd.R_drew)); exact HO331.out) hb)
                have n2_ := Aside0.mk (blk_below (g := gb322) (o := .cells #[.slice none 0 0, .int .i64 0, .slice none 0 0] 31 (0, 0)) (by (with_reducible repeat (first | refine blk_drewN ?_ _ | refine blk_drew ?_ | refine blk_alloc ?_ _)); exact BK322.out) hb)
                have n3_ := Aside0.mk (below_step (by repeat (first | (with_reducible first | exact HB.out | apply below_alloc | apply pw_below_drewN | apply below_drew1 | refine below_set ?_ GE322.out) | exact HB.out)) hb)
                have n4_ := Aside0.mk (hbox)
                have n5_ := Aside0.mk ((by rw [hg]; exact (below_size (by repeat (first | (with_reducible first | exact HB.out | apply below_alloc | apply pw_below_drewN | apply below_drew1 | refine below_set ?_ GE322.out) | exact HB.out))) : w.heap.size ≤ gb333))
                have n6_ := Aside0.mk ((by rw [hg]; exact (below_size (by repeat (first | (with_reducible first | exact HB.out | apply below_alloc | apply pw_below_drewN | apply below_drew1 | refine below_set ?_ GE322.out) | exact HB.out))) : w.heap.size ≤ gb333))
                have n7_ := Aside0.mk ((by rw [hg]; exact Nat.ne_of_lt (blk_lt (g := gb322) (o := .cells #[.slice none 0 0, .int .i64 0, .slice none 0 0] 31 (0, 0)) (by (with_reducible repeat (first | refine blk_drewN ?_ _ | refine blk_drew ?_ | refine blk_alloc ?_ _)); exact BK322.out)) : gb322 ≠ gb333))
                have n8_ := Aside0.mk ((by rw [hg]; exact Nat.ne_of_gt (blk_lt (g := gb322) (o := .cells #[.slice none 0 0, .int .i64 0, .slice none 0 0] 31 (0, 0)) (by (with_reducible repeat (first | refine blk_drewN ?_ _ | refine blk_drew ?_ | refine blk_alloc ?_ _)); exact BK322.out)) : gb333 ≠ gb322))
                clear HO_4
                clear HO331
                clear BK322
                clear HB
                have HO_4 := n0_
                have HO331 := n1_
                have BK322 := n2_
                have HB := n3_
                have BK333 := n4_
                have GW333 := n5_
                have GE333 := n6_
                have NB322_333 := n7_
                have NB333_322 := n8_
                clear n0_ n1_ n2_ n3_ n4_ n5_ n6_ n7_ n8_
                clear hb hbox hg
                refine hK.out _ _ (HS0_) (fun hHeld => ?_)
                clear hK K
                refine norm_ (a' := ?_) ?_ ?_
                rotate_left
                ·show Act.put _ (some 6) _ = _
                 simp only [Act.put, List.setIfInBounds_toArray, List.set_cons_zero, List.set_cons_succ, i64_w, i32_w]
                 rfl
                exact norm_ (by simp only [putAll, Act.put, List.setIfInBounds_toArray, List.set_cons_zero, List.set_cons_succ]) (hCont (.slice Ao34 y329.length co34, gb333) _ ⟨hHeld, (by (with_reducible repeat (first | apply Kd.R_alloc | apply Kd.R_drewN | apply Kd.R_drew)); exact HO331.out), (by (with_reducible repeat (first | apply Kd.R_alloc | apply Kd.R_drewN | apply Kd.R_drew)); exact HO_4.out), (by (with_reducible repeat (first | refine blk_drewN ?_ _ | refine blk_drew ?_ | refine blk_alloc ?_ _)); exact BK322.out), (by (with_reducible repeat (first | refine blk_drewN ?_ _ | refine blk_drew ?_ | refine blk_alloc ?_ _)); exact BK333.out), GW333.out, GE333.out, NB322_333.out, NB333_322.out, (by repeat (first | (with_reducible first | exact HB.out | apply below_alloc | apply pw_below_drewN | apply below_drew1 | refine below_set ?_ GE322.out | refine below_set ?_ GE333.out) | exact HB.out))⟩)
               ·skip
                refine box_step ?hg (N := 6) ?hd (cs := #[.slice none 0 0, .int .i64 0, .slice none 0 0]) (t := 31) ?hr ?_; (case hd => rfl); (case hg => rfl); (case hr => first | (go_simp; done) | (go_simp; rfl))
                intro gb333 hg w32 hbox hb
                have HS0_ := (hb.cell (World.block_lt_of_cell? _ _ (hHeld))).trans (hHeld)
                have n0_ := Aside0.mk (Kd.R_below (by (with_reducible repeat (first | apply Kd.R_alloc | apply Kd.R_drewN | apply Kd.R_drew)); exact HO_4.out) hb)
                have n1_ := Aside0.mk (blk_below (g := gb322) (o := .cells #[.slice none 0 0, .int .i64 0, .slice none 0 0] 31 (0, 0)) (by (with_reducible repeat (first | refine blk_drewN ?_ _ | refine blk_drew ?_ | refine blk_alloc ?_ _)); exact BK322.out) hb)
                have n2_ := Aside0.mk (below_step (by repeat (first | (with_reducible first | exact HB.out | apply below_alloc | apply pw_below_drewN | apply below_drew1 | refine below_set ?_ GE322.out) | exact HB.out)) hb)
                have n3_ := Aside0.mk (hbox)
                have n4_ := Aside0.mk ((by rw [hg]; exact (below_size (by repeat (first | (with_reducible first | exact HB.out | apply below_alloc | apply pw_below_drewN | apply below_drew1 | refine below_set ?_ GE322.out) | exact HB.out))) : w.heap.size ≤ gb333))
                have n5_ := Aside0.mk ((by rw [hg]; exact (below_size (by repeat (first | (with_reducible first | exact HB.out | apply below_alloc | apply pw_below_drewN | apply below_drew1 | refine below_set ?_ GE322.out) | exact HB.out))) : w.heap.size ≤ gb333))
                have n6_ := Aside0.mk ((by rw [hg]; exact Nat.ne_of_lt (blk_lt (g := gb322) (o := .cells #[.slice none 0 0, .int .i64 0, .slice none 0 0] 31 (0, 0)) (by (with_reducible repeat (first | refine blk_drewN ?_ _ | refine blk_drew ?_ | refine blk_alloc ?_ _)); exact BK322.out)) : gb322 ≠ gb333))
                have n7_ := Aside0.mk ((by rw [hg]; exact Nat.ne_of_gt (blk_lt (g := gb322) (o := .cells #[.slice none 0 0, .int .i64 0, .slice none 0 0] 31 (0, 0)) (by (with_reducible repeat (first | refine blk_drewN ?_ _ | refine blk_drew ?_ | refine blk_alloc ?_ _)); exact BK322.out)) : gb333 ≠ gb322))
                clear HO_4
                clear BK322
                clear HB
                have HO_4 := n0_
                have BK322 := n1_
                have HB := n2_
                have BK333 := n3_
                have GW333 := n4_
                have GE333 := n5_
                have NB322_333 := n6_
                have NB333_322 := n7_
                clear n0_ n1_ n2_ n3_ n4_ n5_ n6_ n7_
                clear hb hbox hg
                refine hK.out _ _ (HS0_) (fun hHeld => ?_)
                clear hK K
                refine norm_ (a' := ?_) ?_ ?_
                rotate_left
                ·show Act.put _ (some 6) _ = _
                 simp only [Act.put, List.setIfInBounds_toArray, List.set_cons_zero, List.set_cons_succ, i64_w, i32_w]
                 rfl
                refine one_ (i := 1) (N := some 46) #[true, true, true, true, true, true, true, true, false, true, false] rfl rfl (one_of HT_.out (by kernel_rfl)) (by decide) (fun K hK => ?_)
                refine Kd.R_make_step (Kd.int .i64) _ 3 (by rfl) (N := 46) rfl 22 _ _ rfl (ji23) rfl rfl Tryd.underlying22 (.int .i64 0) 8 info3 rfl (by decide) (by omega) 0 (ok := fun _ => True) (okp := fun _ => True) rfl (fun _ hk => hk) trivial (of_decide_eq_true (by first | (with_reducible assumption) | assumption)) (Nat.le_trans (Nat.mul_le_mul_right _ (of_decide_eq_true (by first | (with_reducible assumption) | assumption) : (ji23).toNat ≤ 35184372088832)) (by omega)) (Below.refl _ _) (Nat.le_refl _) ?_
                intro v330 w33 ho34 hb hg_ hnew_
                have HS0_ := (hb.cell (World.block_lt_of_cell? _ _ (hHeld))).trans (hHeld)
                clear hg_ hnew_
                (first | rw [← Ny329.out] at ho34 | (simp only [Int.reduceToNat] at ho34; rw [← Ny329.out] at ho34))
                have n0_ := Aside0.mk (Kd.R_below (by (with_reducible repeat (first | apply Kd.R_alloc | apply Kd.R_drewN | apply Kd.R_drew)); exact HO_4.out) hb)
                have n1_ := Aside0.mk (Kd.R_lower ho34 (below_size (by repeat (first | (with_reducible first | exact HB.out | apply below_alloc | apply pw_below_drewN | apply below_drew1 | refine below_set ?_ GE322.out | refine below_set ?_ GE333.out) | exact HB.out))))
                have n2_ := Aside0.mk (blk_below (g := gb322) (o := .cells #[.slice none 0 0, .int .i64 0, .slice none 0 0] 31 (0, 0)) (by (with_reducible repeat (first | refine blk_drewN ?_ _ | refine blk_drew ?_ | refine blk_alloc ?_ _)); exact BK322.out) hb)
                have n3_ := Aside0.mk (blk_below (g := gb333) (o := .cells #[.slice none 0 0, .int .i64 0, .slice none 0 0] 31 (0, 0)) (by (with_reducible repeat (first | refine blk_drewN ?_ _ | refine blk_drew ?_ | refine blk_alloc ?_ _)); exact BK333.out) hb)
                have n4_ := Aside0.mk (below_step (by repeat (first | (with_reducible first | exact HB.out | apply below_alloc | apply pw_below_drewN | apply below_drew1 | refine below_set ?_ GE322.out | refine below_set ?_ GE333.out) | exact HB.out)) hb)
                clear HO_4
                clear BK322
                clear BK333
                clear HB
                have HO_4 := n0_
                have HO331 := n1_
                have BK322 := n2_
                have BK333 := n3_
                have HB := n4_
                clear n0_ n1_ n2_ n3_ n4_
                clear hb ho34
                obtain ⟨Ao35, co35, eo35⟩ := Kd.R_slice HO331.out
                (first | subst eo35 | (injection eo35 with f1_ f2_ f3_; have f4_ := f1_.symm; have f5_ := f3_.symm; clear f1_ f2_ f3_; subst f4_; subst f5_))
                refine hK.out _ _ (HS0_) (fun hHeld => ?_)
                clear hK K
                refine norm_ (a' := ?_) ?_ ?_
                rotate_left
                ·show Act.put _ (some 46) _ = _
                 simp only [Act.put, List.setIfInBounds_toArray, List.set_cons_zero, List.set_cons_succ, i64_w, i32_w]
                 rfl
                refine pure_ (i := 8) (N := some 53) (v := ?_) (a' := ?_) #[true, true, true, true, true, true, true, true, true, true, false] rfl rfl (any_of HT_.out (by kernel_rfl)) (fun _ _ _ h => h) (Or.inl ⟨by rfl, ?_⟩) ?_ ?_
                rotate_left
                ·intro w'
                 go_simp
                 with_reducible rfl
                rotate_left
                ·simp only [Act.put, List.setIfInBounds_toArray, List.set_cons_zero, List.set_cons_succ, i64_w, i32_w]
                 rfl
                exact norm_ (by simp only [putAll, Act.put, List.setIfInBounds_toArray, List.set_cons_zero, List.set_cons_succ]) (hCont (.slice Ao35 y329.length co35, gb333) _ ⟨hHeld, (by (with_reducible repeat (first | apply Kd.R_alloc | apply Kd.R_drewN | apply Kd.R_drew)); exact HO331.out), (by (with_reducible repeat (first | apply Kd.R_alloc | apply Kd.R_drewN | apply Kd.R_drew)); exact HO_4.out), (by (with_reducible repeat (first | refine blk_drewN ?_ _ | refine blk_drew ?_ | refine blk_alloc ?_ _)); exact BK322.out), (by (with_reducible repeat (first | refine blk_drewN ?_ _ | refine blk_drew ?_ | refine blk_alloc ?_ _)); exact BK333.out), GW333.out, GE333.out, NB322_333.out, NB333_322.out, (by repeat (first | (with_reducible first | exact HB.out | apply below_alloc | apply pw_below_drewN | apply below_drew1 | refine below_set ?_ GE322.out | refine below_set ?_ GE333.out) | exact HB.out))⟩)
              rintro ⟨v330, gb333⟩ w36 ⟨hS_, h0_, h1_, h2_, h3_, h4_, h5_, h6_, h7_, h8_⟩
              have n0_ : Aside0 (Kd.R (Kd.int .i64) 3 w36 w.heap.size (fun _ => True) v330 y329) := ⟨h0_⟩
              have n1_ : Aside0 (Kd.R Kd.string 9 w36 w.heap.size (fun _ => True) (.slice (some ad328) t323.length co19) t323) := ⟨h1_⟩
              have n2_ : Aside0 (w36.heap[gb322]? = some (.cells #[.slice none 0 0, .int .i64 0, .slice none 0 0] 31 (0, 0))) := ⟨h2_⟩
              have n3_ : Aside0 (w36.heap[gb333]? = some (.cells #[.slice none 0 0, .int .i64 0, .slice none 0 0] 31 (0, 0))) := ⟨h3_⟩
              have n4_ : Aside0 (w.heap.size ≤ gb333) := ⟨h4_⟩
              have n5_ : Aside0 (w.heap.size ≤ gb333) := ⟨h5_⟩
              have n6_ : Aside0 (gb322 ≠ gb333) := ⟨h6_⟩
              have n7_ : Aside0 (gb333 ≠ gb322) := ⟨h7_⟩
              have n8_ : Aside0 (Below w.heap.size w w36) := ⟨h8_⟩
              clear HO_4
              clear BK322
              clear HB
              clear h0_ h1_ h2_ h3_ h4_ h5_ h6_ h7_ h8_
              have HO331 := n0_
              have HO_4 := n1_
              have BK322 := n2_
              have BK333 := n3_
              have GW333 := n4_
              have GE333 := n5_
              have NB322_333 := n6_
              have NB333_322 := n7_
              have HB := n8_
              clear n0_ n1_ n2_ n3_ n4_ n5_ n6_ n7_ n8_
              have hHeld : w36.cell? ⟨ad328.block, ad328.off + 2, none⟩ = some (.string (rdOf ByteArray.empty t323 2)) := hS_
              obtain ⟨Ao37, co37, eo37⟩ := Kd.R_slice HO331.out
              (first | subst eo37 | (injection eo37 with f1_ f2_ f3_; have f4_ := f1_.symm; have f5_ := f3_.symm; clear f1_ f2_ f3_; subst f4_; subst f5_))
              refine norm_ (a' := ?_) ?_ ?_
              rotate_left
              ·simp only [putAll, Act.put, List.setIfInBounds_toArray, List.set_cons_zero, List.set_cons_succ]
               rfl
              refine one_ (i := 10) (N := none) #[true, true, true, true, true, true, true, true, true, true, true] rfl rfl (one_of HT_.out (by kernel_rfl)) (by decide) (fun K hK => ?_)
              have hs38 : w36.cell? ⟨gb333, 0, none⟩ = some (.slice none 0 0) := (blk_cell BK333.out 0).trans rfl
              have hfs38 := blk_frozen BK333.out 0
              have hns38_0 := NB322_333.out
              have hms38_0 := NB333_322.out
              have hs39 : w36.cell? ⟨gb333, 1, none⟩ = some (.int .i64 0) := (blk_cell BK333.out 1).trans rfl
              have hfs39 := blk_frozen BK333.out 1
              have hns39_0 := NB322_333.out
              have hms39_0 := NB333_322.out
              have hs40 : w36.cell? ⟨gb333, 2, none⟩ = some (.slice none 0 0) := (blk_cell BK333.out 2).trans rfl
              have hfs40 := blk_frozen BK333.out 2
              have hns40_0 := NB322_333.out
              have hms40_0 := NB333_322.out
              refine skip_ (w1 := ?_) (by rfl) rfl ?_ ?_
              rotate_left
              ·go_simp
               rfl
              refine hK.out _ _ (((cell_far (p := ⟨gb333, _, none⟩) (by first | exact Kd.own_blk (Kd.R_ne HO_4.out BK333.out (by decide)) | (rw [add_block]; exact Kd.own_blk (Kd.R_ne HO_4.out BK333.out (by decide))) | (show (Addr.add _ _).block ≠ _; rw [add_block]; exact Kd.own_blk (Kd.R_ne HO_4.out BK333.out (by decide))) | (dsimp only; exact Kd.own_blk (Kd.R_ne HO_4.out BK333.out (by decide)))) _).trans (((cell_far (p := ⟨gb333, _, none⟩) (by first | exact Kd.own_blk (Kd.R_ne HO_4.out BK333.out (by decide)) | (rw [add_block]; exact Kd.own_blk (Kd.R_ne HO_4.out BK333.out (by decide))) | (show (Addr.add _ _).block ≠ _; rw [add_block]; exact Kd.own_blk (Kd.R_ne HO_4.out BK333.out (by decide))) | (dsimp only; exact Kd.own_blk (Kd.R_ne HO_4.out BK333.out (by decide)))) _).trans (((cell_far (p := ⟨gb333, _, none⟩) (by first | exact Kd.own_blk (Kd.R_ne HO_4.out BK333.out (by decide)) | (rw [add_block]; exact Kd.own_blk (Kd.R_ne HO_4.out BK333.out (by decide))) | (show (Addr.add _ _).block ≠ _; rw [add_block]; exact Kd.own_blk (Kd.R_ne HO_4.out BK333.out (by decide))) | (dsimp only; exact Kd.own_blk (Kd.R_ne HO_4.out BK333.out (by decide)))) _).trans (hHeld))))))) (fun hHeld => ?_)
              clear hK K
              refine done_ (done_of HT_.out (by kernel_rfl)) ?_
              have p334 : 0 ≤ (1 : Int) := (by omega)
              have q334 : 1 < (t323.length : Int) := of_decide_eq_true (by first | (with_reducible assumption) | assumption)
              obtain ⟨ad334, e334, hx334_0⟩ := Kd.at_string (Kd.R_reads' HO_4.out).2.2 1 p334 q334
              obtain rfl : ad328 = ad334 := (by injection e334)
              (try simp only [show (1 : Int).toNat = 1 from rfl, Nat.reduceMul, Nat.reduceEqDiff, Go.Addr.add, ↓reduceIte] at hx334_0)
              have qi334 : (1 < t323.length) = True := eq_true (by omega)
              (try rw [show ((1 : Int)).toNat = 1 from rfl] at hx334_0)
              have hn334_0 : ad328.block ≠ gb333 := Kd.own_blk (Kd.R_ne HO_4.out BK333.out (by decide))
              have hn334_1 : ad328.block ≠ gb333 := Kd.own_blk (Kd.R_ne HO_4.out BK333.out (by decide))
              have hn334_2 : ad328.block ≠ gb333 := Kd.own_blk (Kd.R_ne HO_4.out BK333.out (by decide))
              replace hx334_0 := (cell_far (p := ⟨gb333, 0, none⟩) (by first | (rw [add_block]; exact hn334_0) | (show (Addr.add _ _).block ≠ _; rw [add_block]; exact hn334_0) | exact hn334_0) (.slice Ao37 y329.length co37)).trans hx334_0
              replace hx334_0 := (cell_far (p := ⟨gb333, 1, none⟩) (by first | (rw [add_block]; exact hn334_1) | (show (Addr.add _ _).block ≠ _; rw [add_block]; exact hn334_1) | exact hn334_1) (.int .i64 (wrap64 ((wrap64 (bt (rdOf ByteArray.empty t323 2) 0)) - 48)))).trans hx334_0
              replace hx334_0 := (cell_far (p := ⟨gb333, 2, none⟩) (by first | (rw [add_block]; exact hn334_2) | (show (Addr.add _ _).block ≠ _; rw [add_block]; exact hn334_2) | exact hn334_2) (.slice none 0 0)).trans hx334_0
              clear hn334_0
              clear hn334_1
              clear hn334_2
              replace p334 := eq_true p334
              replace q334 := eq_true q334
              go_upto_if 57 with (fail)
              go_cut [] (fun wc => ∃ (kq : Nat) (x323001_29 : Int) (x334000_29 : List Int) (u334000 : Value), Aside0 (impl_ReadPlace.j3 kq a0 t323 x334000_29 (wrap64 ((wrap64 (bt (rdOf ByteArray.empty t323 2) 0)) - 48)) = some (r1, r2, r3, r4)) ∧ Aside0 (kq ≤ kj17) ∧ Aside0 (Kd.R Kd.string 9 wc w.heap.size (fun _ => True) (.slice (some ad328) t323.length co19) t323) ∧ Aside0 (Kd.R (Kd.int .i64) 3 wc w.heap.size (fun _ => True) u334000 x334000_29) ∧ Aside0 (wc.heap[gb322]? = some (.cells #[(.slice none 0 0), .int .i64 x323001_29, (.slice none 0 0)] 31 (0, 0))) ∧ Aside0 (wc.heap[gb333]? = some (.cells #[u334000, .int .i64 (wrap64 ((wrap64 (bt (rdOf ByteArray.empty t323 2) 0)) - 48)), (.slice none 0 0)] 31 (0, 0))) ∧ Aside0 (Below w.heap.size w wc))
              case first =>
               have H := HC30.out
               clear HC30
               by_cases c41 : (rdOf ByteArray.empty t323 1).toList = ([46] : List UInt8)
               ·rw [if_pos c41] at H
                have c41b0 : ((rdOf ByteArray.empty t323 1).toList == ([46] : List UInt8)) = true := beq_iff_eq.mpr c41
                have c41b1 : ((rdOf ByteArray.empty t323 1).toList != ([46] : List UInt8)) = false := bne_eq_false_iff_eq.mpr c41
                clear c41
                (first | rw [c41b0] | (simp only [i64_w, i32_w]; rw [c41b0]) | skip)
                have H' := Aside0.mk H
                clear H
                go_wp2
                subst hji23
                go_meet
                case rel => exact ⟨_, (0), (y329), (.slice Ao37 y329.length co37), H', ⟨by have := HJ2.out; have := HJ17.out; first | omega | exact Nat.le_refl _⟩, ⟨by (with_reducible repeat (first | apply Kd.R_alloc | apply Kd.R_drewN | apply Kd.R_drew)); exact Kd.R_mono (Kd.R_far (p := ⟨gb333, 2, none⟩) (Kd.R_far (p := ⟨gb333, 1, none⟩) (Kd.R_far (p := ⟨gb333, 0, none⟩) (Kd.R_types HO_4.out BK333.out (by decide)) (fun _ hk => hk.2) (.slice Ao37 y329.length co37)) (fun _ hk => hk.2) (.int .i64 (wrap64 ((wrap64 (bt (rdOf ByteArray.empty t323 2) 0)) - 48)))) (fun _ hk => hk.2) (.slice none 0 0)) (fun _ hk => trivial)⟩, ⟨by (with_reducible repeat (first | apply Kd.R_alloc | apply Kd.R_drewN | apply Kd.R_drew)); exact Kd.R_mono (Kd.R_far (p := ⟨gb333, 2, none⟩) (Kd.R_far (p := ⟨gb333, 1, none⟩) (Kd.R_far (p := ⟨gb333, 0, none⟩) (Kd.R_types HO331.out BK333.out (by decide)) (fun _ hk => hk.2) (.slice Ao37 y329.length co37)) (fun _ hk => hk.2) (.int .i64 (wrap64 ((wrap64 (bt (rdOf ByteArray.empty t323 2) 0)) - 48)))) (fun _ hk => hk.2) (.slice none 0 0)) (fun _ hk => trivial)⟩, ⟨by (with_reducible repeat (first | refine blk_drewN ?_ _ | refine blk_drew ?_ | refine blk_alloc ?_ _)); refine blk_far ?_ NB322_333.out _; (with_reducible repeat (first | refine blk_drewN ?_ _ | refine blk_drew ?_ | refine blk_alloc ?_ _)); refine blk_far ?_ NB322_333.out _; (with_reducible repeat (first | refine blk_drewN ?_ _ | refine blk_drew ?_ | refine blk_alloc ?_ _)); refine blk_far ?_ NB322_333.out _; (with_reducible repeat (first | refine blk_drewN ?_ _ | refine blk_drew ?_ | refine blk_alloc ?_ _)); exact BK322.out⟩, ⟨by (with_reducible repeat (first | refine blk_drewN ?_ _ | refine blk_drew ?_ | refine blk_alloc ?_ _)); refine blk_put (cs := #[.slice Ao37 y329.length co37, .int .i64 (wrap64 ((wrap64 (bt (rdOf ByteArray.empty t323 2) 0)) - 48)), .slice none 0 0]) ?_ 2 _ rfl; (with_reducible repeat (first | refine blk_drewN ?_ _ | refine blk_drew ?_ | refine blk_alloc ?_ _)); refine blk_put (cs := #[.slice Ao37 y329.length co37, .int .i64 0, .slice none 0 0]) ?_ 1 _ rfl; (with_reducible repeat (first | refine blk_drewN ?_ _ | refine blk_drew ?_ | refine blk_alloc ?_ _)); refine blk_put (cs := #[.slice none 0 0, .int .i64 0, .slice none 0 0]) ?_ 0 _ rfl; (with_reducible repeat (first | refine blk_drewN ?_ _ | refine blk_drew ?_ | refine blk_alloc ?_ _)); exact BK333.out⟩, ⟨by repeat (first | (with_reducible first | exact HB.out | apply below_alloc | apply pw_below_drewN | apply below_drew1 | refine below_set ?_ GE322.out | refine below_set ?_ GE333.out) | exact HB.out)⟩⟩
               ·rw [if_neg c41] at H
                have c41b0 : ((rdOf ByteArray.empty t323 1).toList == ([46] : List UInt8)) = false := beq_eq_false_iff_ne.mpr c41
                have c41b1 : ((rdOf ByteArray.empty t323 1).toList != ([46] : List UInt8)) = true := bne_iff_ne.mpr c41
                (first | rw [c41b0] | (simp only [i64_w, i32_w]; rw [c41b0]) | skip)
                replace H := Option.bind_eq_some_iff.mp H
                obtain ⟨t336, A420, H⟩ := H
                replace H : (impl_ReadPlace.l0 kj17 a0 t323 (ji23) t336 (t336.length : Int) 0 y329 (wrap64 ((wrap64 (bt (rdOf ByteArray.empty t323 2) 0)) - 48))) = some (r1, r2, r3, r4) := H
                have A42 := Aside0.mk A420
                clear A420
                have H' := Aside0.mk H
                clear H
                have p335 : 0 ≤ (1 : Int) := (by omega)
                have q335 : 1 < (t323.length : Int) := of_decide_eq_true (by first | (with_reducible assumption) | assumption)
                obtain ⟨ad335, e335, hx335_0⟩ := Kd.at_string (Kd.R_reads' HO_4.out).2.2 1 p335 q335
                obtain rfl : ad328 = ad335 := (by injection e335)
                (try simp only [show (1 : Int).toNat = 1 from rfl, Nat.reduceMul, Nat.reduceEqDiff, Go.Addr.add, ↓reduceIte] at hx335_0)
                have qi335 : (1 < t323.length) = True := eq_true (by omega)
                (try rw [show ((1 : Int)).toNat = 1 from rfl] at hx335_0)
                have hn335_0 : ad328.block ≠ gb333 := Kd.own_blk (Kd.R_ne HO_4.out BK333.out (by decide))
                have hn335_1 : ad328.block ≠ gb333 := Kd.own_blk (Kd.R_ne HO_4.out BK333.out (by decide))
                have hn335_2 : ad328.block ≠ gb333 := Kd.own_blk (Kd.R_ne HO_4.out BK333.out (by decide))
                replace hx335_0 := (cell_far (p := ⟨gb333, 0, none⟩) (by first | (rw [add_block]; exact hn335_0) | (show (Addr.add _ _).block ≠ _; rw [add_block]; exact hn335_0) | exact hn335_0) (.slice Ao37 y329.length co37)).trans hx335_0
                replace hx335_0 := (cell_far (p := ⟨gb333, 1, none⟩) (by first | (rw [add_block]; exact hn335_1) | (show (Addr.add _ _).block ≠ _; rw [add_block]; exact hn335_1) | exact hn335_1) (.int .i64 (wrap64 ((wrap64 (bt (rdOf ByteArray.empty t323 2) 0)) - 48)))).trans hx335_0
                replace hx335_0 := (cell_far (p := ⟨gb333, 2, none⟩) (by first | (rw [add_block]; exact hn335_2) | (show (Addr.add _ _).block ≠ _; rw [add_block]; exact hn335_2) | exact hn335_2) (.slice none 0 0)).trans hx335_0
                clear hn335_0
                clear hn335_1
                clear hn335_2
                replace p335 := eq_true p335
                replace q335 := eq_true q335
                go_wp2_with (first | ((with_reducible refine gate_callee (f := 50) rfl ?_); refine goesL_ (some 61) rfl rfl Tryd.func50 (by kernel_rfl) rfl #[.string (rdOf ByteArray.empty t323 1), .string (⟨#[44]⟩ : ByteArray)] rfl (by (try simp only [List.map_toArray, List.map_cons, List.map_nil]); first | done | rfl | (simp only [List.length_drop, List.length_take]; rfl)) ?_; (with_reducible refine (strings_Split.calls kj17 (rdOf ByteArray.empty t323 1) (⟨#[44]⟩ : ByteArray) t336 _ A42.out).mono ?_); rintro e w43 ⟨v337, rfl, ho0, hb⟩; refine ⟨_, rfl, ?_⟩; have n0_ := Aside0.mk (Kd.R_elder' (by (with_reducible repeat (first | apply Kd.R_alloc | apply Kd.R_drewN | apply Kd.R_drew)); exact (Kd.R_mono (Kd.R_far (p := ⟨gb333, 2, none⟩) (Kd.R_far (p := ⟨gb333, 1, none⟩) (Kd.R_far (p := ⟨gb333, 0, none⟩) (Kd.R_types HO_4.out BK333.out (by decide)) (fun _ hk => hk.2) (.slice Ao37 y329.length co37)) (fun _ hk => hk.2) (.int .i64 (wrap64 ((wrap64 (bt (rdOf ByteArray.empty t323 2) 0)) - 48)))) (fun _ hk => hk.2) (.slice none 0 0)) (fun _ h_ => h_.1))) (Kd.R_base ho0) hb); have n1_ := Aside0.mk (Kd.R_below (by (with_reducible repeat (first | apply Kd.R_alloc | apply Kd.R_drewN | apply Kd.R_drew)); exact (Kd.R_mono (Kd.R_far (p := ⟨gb333, 2, none⟩) (Kd.R_far (p := ⟨gb333, 1, none⟩) (Kd.R_far (p := ⟨gb333, 0, none⟩) (Kd.R_types HO331.out BK333.out (by decide)) (fun _ hk => hk.2) (.slice Ao37 y329.length co37)) (fun _ hk => hk.2) (.int .i64 (wrap64 ((wrap64 (bt (rdOf ByteArray.empty t323 2) 0)) - 48)))) (fun _ hk => hk.2) (.slice none 0 0)) (fun _ h_ => h_.1))) hb); have n2_ := Aside0.mk (Kd.R_lower (Kd.R_new' ho0 (Kd.R_lt (by (with_reducible repeat (first | apply Kd.R_alloc | apply Kd.R_drewN | apply Kd.R_drew)); exact (Kd.R_mono (Kd.R_far (p := ⟨gb333, 2, none⟩) (Kd.R_far (p := ⟨gb333, 1, none⟩) (Kd.R_far (p := ⟨gb333, 0, none⟩) (Kd.R_types HO_4.out BK333.out (by decide)) (fun _ hk => hk.2) (.slice Ao37 y329.length co37)) (fun _ hk => hk.2) (.int .i64 (wrap64 ((wrap64 (bt (rdOf ByteArray.empty t323 2) 0)) - 48)))) (fun _ hk => hk.2) (.slice none 0 0)) (fun _ h_ => h_.1))))) (below_size (by repeat (first | (with_reducible first | exact HB.out | apply below_alloc | apply pw_below_drewN | apply below_drew1 | refine below_set ?_ GE322.out | refine below_set ?_ GE333.out) | exact HB.out)))); have n3_ := Aside0.mk (blk_below (g := gb322) (o := .cells #[.slice none 0 0, .int .i64 0, .slice none 0 0] 31 (0, 0)) (by (with_reducible repeat (first | refine blk_drewN ?_ _ | refine blk_drew ?_ | refine blk_alloc ?_ _)); refine blk_far ?_ NB322_333.out _; (with_reducible repeat (first | refine blk_drewN ?_ _ | refine blk_drew ?_ | refine blk_alloc ?_ _)); refine blk_far ?_ NB322_333.out _; (with_reducible repeat (first | refine blk_drewN ?_ _ | refine blk_drew ?_ | refine blk_alloc ?_ _)); refine blk_far ?_ NB322_333.out _; (with_reducible repeat (first | refine blk_drewN ?_ _ | refine blk_drew ?_ | refine blk_alloc ?_ _)); exact BK322.out) hb); have n4_ := Aside0.mk (blk_below (g := gb333) (o := .cells #[.slice Ao37 y329.length co37, .int .i64 (wrap64 ((wrap64 (bt (rdOf ByteArray.empty t323 2) 0)) - 48)), .slice none 0 0] 31 (0, 0)) (by (with_reducible repeat (first | refine blk_drewN ?_ _ | refine blk_drew ?_ | refine blk_alloc ?_ _)); refine blk_put (cs := #[.slice Ao37 y329.length co37, .int .i64 (wrap64 ((wrap64 (bt (rdOf ByteArray.empty t323 2) 0)) - 48)), .slice none 0 0]) ?_ 2 _ rfl; (with_reducible repeat (first | refine blk_drewN ?_ _ | refine blk_drew ?_ | refine blk_alloc ?_ _)); refine blk_put (cs := #[.slice Ao37 y329.length co37, .int .i64 0, .slice none 0 0]) ?_ 1 _ rfl; (with_reducible repeat (first | refine blk_drewN ?_ _ | refine blk_drew ?_ | refine blk_alloc ?_ _)); refine blk_put (cs := #[.slice none 0 0, .int .i64 0, .slice none 0 0]) ?_ 0 _ rfl; (with_reducible repeat (first | refine blk_drewN ?_ _ | refine blk_drew ?_ | refine blk_alloc ?_ _)); exact BK333.out) hb); have n5_ := Aside0.mk (below_step (by repeat (first | (with_reducible first | exact HB.out | apply below_alloc | apply pw_below_drewN | apply below_drew1 | refine below_set ?_ GE322.out | refine below_set ?_ GE333.out) | exact HB.out)) hb); clear HO_4; clear HO331; clear BK322; clear BK333; clear HB; have HO_4 := n0_; have HO331 := n1_; have HO338 := n2_; have BK322 := n3_; have BK333 := n4_; have HB := n5_; clear n0_ n1_ n2_ n3_ n4_ n5_; (try clear hb); (try clear hb2); (try clear hk); (try clear hi); (try clear ho0); obtain ⟨Ao44, co44, eo44⟩ := Kd.R_slice HO338.out; subst eo44))
                go_loopg [63] kj17 (fun kq v63 w' => ∃ (x63_3 : Int) (x323001_3 : Int) (x334000_3 : List Int) (u334000 : Value), v63 = .int .i64 x63_3 ∧ Aside0 (impl_ReadPlace.l0 kq a0 t323 (ji23) t336 (t336.length : Int) x63_3 x334000_3 (wrap64 ((wrap64 (bt (rdOf ByteArray.empty t323 2) 0)) - 48)) = some (r1, r2, r3, r4)) ∧ Aside0 (kq ≤ kj17) ∧ Aside0 (Kd.R Kd.string 9 w' w.heap.size (fun k_ => some k_ ≠ ((.slice Ao44 t336.length co44) : Value).ownBlock) (.slice (some ad328) t323.length co19) t323) ∧ Aside0 (Kd.R Kd.string 9 w' w.heap.size (fun k_ => some k_ ≠ ((.slice (some ad328) t323.length co19) : Value).ownBlock) (.slice Ao44 t336.length co44) t336) ∧ Aside0 (Kd.R (Kd.int .i64) 3 w' w.heap.size (fun _ => True) u334000 x334000_3) ∧ Aside0 (w'.heap[gb322]? = some (.cells #[(.slice none 0 0), .int .i64 x323001_3, (.slice none 0 0)] 31 (0, 0))) ∧ Aside0 (w'.heap[gb333]? = some (.cells #[u334000, .int .i64 (wrap64 ((wrap64 (bt (rdOf ByteArray.empty t323 2) 0)) - 48)), (.slice none 0 0)] 31 (0, 0))) ∧ Aside0 (Below w.heap.size w w'))
                case atStart => exact ⟨(0), (0), (y329), (.slice Ao37 y329.length co37), (by first | rfl | (simp; done) | (simp [*]; done)), H', ⟨Nat.le_refl _⟩, ⟨by (with_reducible repeat (first | apply Kd.R_alloc | apply Kd.R_drewN | apply Kd.R_drew)); exact Kd.R_mono HO_4.out (fun _ hk => hk.2)⟩, ⟨by (with_reducible repeat (first | apply Kd.R_alloc | apply Kd.R_drewN | apply Kd.R_drew)); exact Kd.R_mono HO338.out (fun _ hk => hk.2)⟩, ⟨by (with_reducible repeat (first | apply Kd.R_alloc | apply Kd.R_drewN | apply Kd.R_drew)); exact HO331.out⟩, ⟨by (with_reducible repeat (first | refine blk_drewN ?_ _ | refine blk_drew ?_ | refine blk_alloc ?_ _)); exact BK322.out⟩, ⟨by (with_reducible repeat (first | refine blk_drewN ?_ _ | refine blk_drew ?_ | refine blk_alloc ?_ _)); exact BK333.out⟩, ⟨by repeat (first | (with_reducible first | exact HB.out | apply below_alloc | apply pw_below_drewN | apply below_drew1 | refine below_set ?_ GE322.out | refine below_set ?_ GE333.out) | exact HB.out)⟩⟩
                case round =>
                 clear H'
                 try clear c1
                 try clear p1
                 try clear q1
                 try clear hx1
                 try clear qi1
                 try clear c2
                 try clear p2
                 try clear q2
                 try clear hx2
                 try clear qi2
                 try clear p3
                 try clear q3
                 try clear hx3
                 try clear qi3
                 try clear c4
                 try clear c5
                 try clear c6
                 try clear c6b0
                 try clear c6b1
                 try clear p6
                 try clear c7
                 try clear c7b0
                 try clear c7b1
                 try clear c8
                 try clear c8b0
                 try clear c8b1
                 try clear c9
                 try clear c9b0
                 try clear c9b1
                 try clear c13
                 try clear c15
                 try clear c15b0
                 try clear c15b1
                 try clear c16
                 try clear c16b0
                 try clear c16b1
                 try clear p17
                 try clear q17
                 try clear hx17
                 try clear qi17
                 try clear c19
                 try clear c20
                 try clear c20b0
                 try clear c21
                 try clear c24
                 try clear c24b0
                 try clear c24b1
                 try clear c25
                 try clear c25b0
                 try clear c25b1
                 try clear c26
                 try clear c26b0
                 try clear c26b1
                 try clear c27
                 try clear c27b0
                 try clear c27b1
                 try clear p28
                 try clear q28
                 try clear hx28
                 try clear qi28
                 try clear c29
                 try clear c29b0
                 try clear c29b1
                 try clear p32
                 try clear q32
                 try clear hx32
                 try clear qi32
                 try clear p33
                 try clear q33
                 try clear hx33
                 try clear qi33
                 try clear c41
                 try clear c41b0
                 try clear c41b1
                 try clear hcz14_0
                 try clear hcz14_1
                 try clear hcz14_2
                 try clear hcz22_0
                 try clear hcz22_1
                 try clear hcz22_2
                 try clear hfz14_0
                 try clear hfz14_1
                 try clear hfz14_2
                 try clear hfz22_0
                 try clear hfz22_1
                 try clear hfz22_2
                 try clear hx326_0
                 try clear hx327_0
                 try clear hx328_0
                 try clear hx332_0
                 try clear hx334_0
                 try clear hx335_0
                 try clear p1
                 try clear p17
                 try clear p2
                 try clear p28
                 try clear p3
                 try clear p326
                 try clear p327
                 try clear p328
                 try clear p332
                 try clear p334
                 try clear p335
                 try clear p6
                 try clear q1
                 try clear q17
                 try clear q28
                 try clear q3
                 try clear q326
                 try clear q327
                 try clear q328
                 try clear q332
                 try clear q334
                 try clear q335
                 obtain ⟨x63_3, x323001_3, x334000_3, u334000, rfl, HA, HK3, HO_4, HO_61, HO_334000, BK322, BK333, HB⟩ := hrel
                 cases gk with
                 | zero => exact absurd HA.out (by simp [impl_ReadPlace.l0])
                 | succ k3 =>
                  have H := HA.out
                  clear HA
                  simp only [impl_ReadPlace.l0] at H
                  by_cases c45 : x63_3 < (t336.length : Int)
                  ·rw [if_pos c45] at H
                   have c45b0 : decide (x63_3 < (t336.length : Int)) = true := decide_eq_true c45
                   clear c45
                   by_cases c46 : 0 ≤ x63_3
                   ·rw [if_pos c46] at H
                    have c46b0 : decide (0 ≤ x63_3) = true := decide_eq_true c46
                    clear c46
                    by_cases c47 : x63_3 < (t336.length : Int)
                    ·rw [if_pos c47] at H
                     have c47b0 : decide (x63_3 < (t336.length : Int)) = true := decide_eq_true c47
                     clear c47
                     by_cases c48 : ((rdOf ByteArray.empty t336 x63_3).size : Int) = 2
                     ·rw [if_pos c48] at H
                      have c48b0 : (((rdOf ByteArray.empty t336 x63_3).size : Int) == 2) = true := beq_iff_eq.mpr c48
                      have c48b1 : (((rdOf ByteArray.empty t336 x63_3).size : Int) != 2) = false := bne_eq_false_iff_eq.mpr c48
                      clear c48
                      by_cases c49 : 0 < ((rdOf ByteArray.empty t336 x63_3).size : Int)
                      ·rw [if_pos c49] at H
                       have c49b0 : decide (0 < ((rdOf ByteArray.empty t336 x63_3).size : Int)) = true := decide_eq_true c49
                       have c49b1 : decide (0 < (rdOf ByteArray.empty t336 x63_3).size) = true := decide_eq_true (by omega)
                       clear c49
                       by_cases c51 : 1 < ((rdOf ByteArray.empty t336 x63_3).size : Int)
                       ·rw [if_pos c51] at H
                        have c51b0 : decide (1 < ((rdOf ByteArray.empty t336 x63_3).size : Int)) = true := decide_eq_true c51
                        have c51b1 : decide (1 < (rdOf ByteArray.empty t336 x63_3).size) = true := decide_eq_true (by omega)
                        clear c51
                        by_cases c53 : (wrap64 ((wrap64 (bt (rdOf ByteArray.empty t336 x63_3) 0)) - 48)) < 0
                        ·rw [if_pos c53] at H
                         have c53b0 : decide ((wrap64 ((wrap64 (bt (rdOf ByteArray.empty t336 x63_3) 0)) - 48)) < 0) = true := decide_eq_true c53
                         clear c53
                         simp only [Option.some.injEq, Prod.mk.injEq] at H
                         obtain ⟨rfl, rfl, rfl, rfl⟩ := H
                         have p339 : 0 ≤ (x63_3 : Int) := of_decide_eq_true (by first | (with_reducible assumption) | assumption)
                         have q339 : x63_3 < (t336.length : Int) := of_decide_eq_true (by first | (with_reducible assumption) | assumption)
                         obtain ⟨ad339, e339, hx339_0⟩ := Kd.at_string (Kd.R_reads' HO_61.out).2.2 x63_3 p339 q339
                         cases e339
                         replace p339 := eq_true p339
                         replace q339 := eq_true q339
                         try go_wp2
                         have n0_ := Aside0.mk (Kd.R_drew HO_4.out)
                         have n1_ := Aside0.mk (Kd.R_drew HO_61.out)
                         have n2_ := Aside0.mk (Kd.R_drew HO_334000.out)
                         have n3_ := Aside0.mk (blk_drew BK322.out)
                         have n4_ := Aside0.mk (blk_drew BK333.out)
                         have n5_ := Aside0.mk (below_drew1 HB.out)
                         clear HO_4
                         clear HO_61
                         clear HO_334000
                         clear BK322
                         clear BK333
                         clear HB
                         have HO_4 := n0_
                         have HO_61 := n1_
                         have HO_334000 := n2_
                         have BK322 := n3_
                         have BK333 := n4_
                         have HB := n5_
                         clear n0_ n1_ n2_ n3_ n4_ n5_
                         have p50 : 0 ≤ (0 : Int) := (by omega)
                         have q50 : 0 < (rdOf ByteArray.empty t336 x63_3).size := (by have : (0 : Int) < ((rdOf ByteArray.empty t336 x63_3).size : Int) := of_decide_eq_true (by first | (with_reducible assumption) | assumption); omega)
                         have hx50 : ∀ h : 0 < (rdOf ByteArray.empty t336 x63_3).size, (((rdOf ByteArray.empty t336 x63_3)[0]'h).toNat : Int) = bt (rdOf ByteArray.empty t336 x63_3) 0 := bt_at (rdOf ByteArray.empty t336 x63_3) 0
                         clear p50
                         have qi50 : (0 < ((rdOf ByteArray.empty t336 x63_3).size : Int)) = True := eq_true (of_decide_eq_true (by first | (with_reducible assumption) | assumption))
                         replace q50 := eq_true q50
                         have p52 : 0 ≤ (1 : Int) := (by omega)
                         have q52 : 1 < (rdOf ByteArray.empty t336 x63_3).size := (by have : (1 : Int) < ((rdOf ByteArray.empty t336 x63_3).size : Int) := of_decide_eq_true (by first | (with_reducible assumption) | assumption); omega)
                         have hx52 : ∀ h : 1 < (rdOf ByteArray.empty t336 x63_3).size, (((rdOf ByteArray.empty t336 x63_3)[1]'h).toNat : Int) = bt (rdOf ByteArray.empty t336 x63_3) 1 := bt_at (rdOf ByteArray.empty t336 x63_3) 1
                         clear p52
                         have qi52 : (1 < ((rdOf ByteArray.empty t336 x63_3).size : Int)) = True := eq_true (of_decide_eq_true (by first | (with_reducible assumption) | assumption))
                         replace q52 := eq_true q52
                         refine start_ (n := 10) (S := fun w' => True) (ds := []) #[false, false, false, false, false, false, false, false, false, false] (by kernel_rfl) rfl rfl trivial (fun hHeld => ?_); refine with_tabW impl_ReadPlace.tab14 impl_ReadPlace.bits14 (fun HT_ HW_ => ?_)
                         generalize wr.drew = w54 at HO_4 HO_61 HO_334000 BK322 BK333 HB hHeld ⊢
                         refine pure_ (i := 0) (N := some 71) (v := ?_) (a' := ?_) #[true, false, false, false, false, false, false, false, false, false] rfl rfl (any_of HT_.out (by kernel_rfl)) (fun _ _ _ h => h) (Or.inl ⟨by rfl, ?_⟩) ?_ ?_
                         rotate_left
                         ·intro w'
                          go_simp
                          with_reducible rfl
                         rotate_left
                         ·simp only [Act.put, List.setIfInBounds_toArray, List.set_cons_zero, List.set_cons_succ, i64_w, i32_w]
                          rfl
                         refine pure_ (i := 4) (N := some 75) (v := ?_) (a' := ?_) #[true, false, false, false, true, false, false, false, false, false] rfl rfl (any_of HT_.out (by kernel_rfl)) (fun _ _ _ h => h) (Or.inl ⟨by rfl, ?_⟩) ?_ ?_
                         rotate_left
                         ·intro w'
                          go_simp
                          with_reducible rfl
                         rotate_left
                         ·simp only [Act.put, List.setIfInBounds_toArray, List.set_cons_zero, List.set_cons_succ, i64_w, i32_w]
                          rfl
                         refine take_ (i := 1) (N := some 72) (v := ?_) (a' := ?_) #[true, true, false, false, true, false, false, false, false, false] rfl rfl (take_ofW HT_.out HW_.out (by kernel_rfl)) (fun _ _ _ h => h) (Or.inl ⟨by rfl, ?_⟩) hHeld ?_ ?_
                         rotate_left
                         ·intro w' _
                          go_simp
                          with_reducible rfl
                         rotate_left
                         ·simp only [Act.put, List.setIfInBounds_toArray, List.set_cons_zero, List.set_cons_succ, i64_w, i32_w]
                          rfl
                         refine pure_ (i := 2) (N := some 73) (v := ?_) (a' := ?_) #[true, true, true, false, true, false, false, false, false, false] rfl rfl (any_of HT_.out (by kernel_rfl)) (fun _ _ _ h => h) (Or.inl ⟨by rfl, ?_⟩) ?_ ?_
                         rotate_left
                         ·intro w'
                          go_simp
                          with_reducible rfl
                         rotate_left
                         ·simp only [Act.put, List.setIfInBounds_toArray, List.set_cons_zero, List.set_cons_succ, i64_w, i32_w]
                          rfl
                         refine pure_ (i := 3) (N := some 74) (v := ?_) (a' := ?_) #[true, true, true, true, true, false, false, false, false, false] rfl rfl (any_of HT_.out (by kernel_rfl)) (fun _ _ _ h => h) (Or.inl ⟨by rfl, ?_⟩) ?_ ?_
                         rotate_left
                         ·intro w'
                          go_simp
                          with_reducible rfl
                         rotate_left
                         ·simp only [Act.put, List.setIfInBounds_toArray, List.set_cons_zero, List.set_cons_succ, i64_w, i32_w]
                          rfl
                         refine pure_ (i := 8) (N := some 9) (v := ?_) (a' := ?_) #[true, true, true, true, true, false, false, false, true, false] rfl rfl (any_of HT_.out (by kernel_rfl)) (fun _ _ _ h => h) (Or.inl ⟨by rfl, ?_⟩) ?_ ?_
                         rotate_left
                         ·intro w'
                          go_simp
                          with_reducible rfl
                         rotate_left
                         ·simp only [Act.put, List.setIfInBounds_toArray, List.set_cons_zero, List.set_cons_succ, i64_w, i32_w]
                          rfl
                         refine take_ (i := 5) (N := some 76) (v := ?_) (a' := ?_) #[true, true, true, true, true, true, false, false, true, false] rfl rfl (take_ofW HT_.out HW_.out (by kernel_rfl)) (fun _ _ _ h => h) (Or.inl ⟨by rfl, ?_⟩) hHeld ?_ ?_
                         rotate_left
                         ·intro w' _
                          go_simp
                          with_reducible rfl
                         rotate_left
                         ·simp only [Act.put, List.setIfInBounds_toArray, List.set_cons_zero, List.set_cons_succ, i64_w, i32_w]
                          rfl
                         refine pure_ (i := 6) (N := some 77) (v := ?_) (a' := ?_) #[true, true, true, true, true, true, true, false, true, false] rfl rfl (any_of HT_.out (by kernel_rfl)) (fun _ _ _ h => h) (Or.inl ⟨by rfl, ?_⟩) ?_ ?_
                         rotate_left
                         ·intro w'
                          go_simp
                          with_reducible rfl
                         rotate_left
                         ·simp only [Act.put, List.setIfInBounds_toArray, List.set_cons_zero, List.set_cons_succ, i64_w, i32_w]
                          rfl
                         refine pure_ (i := 7) (N := some 78) (v := ?_) (a' := ?_) #[true, true, true, true, true, true, true, true, true, false] rfl rfl (any_of HT_.out (by kernel_rfl)) (fun _ _ _ h => h) (Or.inl ⟨by rfl, ?_⟩) ?_ ?_
                         rotate_left
                         ·intro w'
                          go_simp
                          with_reducible rfl
                         rotate_left
                         ·simp only [Act.put, List.setIfInBounds_toArray, List.set_cons_zero, List.set_cons_succ, i64_w, i32_w]
                          rfl
                         refine pure_ (i := 9) (N := some 10) (v := ?_) (a' := ?_) #[true, true, true, true, true, true, true, true, true, true] rfl rfl (any_of HT_.out (by kernel_rfl)) (fun _ _ _ h => h) (Or.inl ⟨by rfl, ?_⟩) ?_ ?_
                         rotate_left
                         ·intro w'
                          go_simp
                          with_reducible rfl
                         rotate_left
                         ·simp only [Act.put, List.setIfInBounds_toArray, List.set_cons_zero, List.set_cons_succ, i64_w, i32_w]
                          rfl
                         refine done_ (done_of HT_.out (by kernel_rfl)) ?_
                         have hnb55 := NB322_333.out
                         have hnc55 := NB333_322.out
                         have hcz56_0 : w54.cell? ⟨gb322, 0, none⟩ = some (.slice none 0 0) := (blk_cell BK322.out 0).trans rfl
                         have hcz56_1 : w54.cell? ⟨gb322, 1, none⟩ = some (.int .i64 x323001_3) := (blk_cell BK322.out 1).trans rfl
                         have hcz56_2 : w54.cell? ⟨gb322, 2, none⟩ = some (.slice none 0 0) := (blk_cell BK322.out 2).trans rfl
                         have hfz56_0 := blk_frozen BK322.out 0
                         have hfz56_1 := blk_frozen BK322.out 1
                         have hfz56_2 := blk_frozen BK322.out 2
                         try go_wp2
                         refine bodyPost_ret (results_ct rfl _ _ gb322 31 #[.slice none 0 0, .int .i64 0, .slice none 0 0] (0, 0) _ rfl (by (with_reducible repeat (first | refine blk_drewN ?_ _ | refine blk_drew ?_ | refine blk_alloc ?_ _)); refine blk_put (cs := #[.slice none 0 0, .int .i64 0, .slice none 0 0]) ?_ 2 _ rfl; (with_reducible repeat (first | refine blk_drewN ?_ _ | refine blk_drew ?_ | refine blk_alloc ?_ _)); refine blk_put (cs := #[.slice none 0 0, .int .i64 x323001_3, .slice none 0 0]) ?_ 1 _ rfl; (with_reducible repeat (first | refine blk_drewN ?_ _ | refine blk_drew ?_ | refine blk_alloc ?_ _)); refine blk_put (cs := #[.slice none 0 0, .int .i64 x323001_3, .slice none 0 0]) ?_ 0 _ rfl; (with_reducible repeat (first | refine blk_drewN ?_ _ | refine blk_drew ?_ | refine blk_alloc ?_ _)); exact BK322.out) Tryd.underlying31 rfl (by kernel_rfl)) rfl ?_
                         exact ⟨_, _, by first | rfl | (simp [errW_none, errW_some] <;> rfl) | (simp only [← hji23]; first | rfl | (simp [errW_none, errW_some] <;> rfl)) | (simp [*, errW_none, errW_some] <;> rfl), by first | exact Kd.R_nil _ _ _ _ _ | exact Kd.N_nil _ _ _ _ _ | exact Kd.V_nil _ _ _ _ _ | exact Kd.Q_nil _ _ _ _ _ | exact Kd.S_nil _ _ _ _ _, by first | exact Kd.R_nil _ _ _ _ _ | exact Kd.N_nil _ _ _ _ _ | exact Kd.V_nil _ _ _ _ _ | exact Kd.Q_nil _ _ _ _ _ | exact Kd.S_nil _ _ _ _ _, by repeat (first | (with_reducible first | exact HB.out | apply below_alloc | apply pw_below_drewN | apply below_drew1 | refine below_set ?_ GE322.out | refine below_set ?_ GE333.out) | exact HB.out)⟩
                        ·rw [if_neg c53] at H
                         have c53b0 : decide ((wrap64 ((wrap64 (bt (rdOf ByteArray.empty t336 x63_3) 0)) - 48)) < 0) = false := decide_eq_false c53
                         clear c53
                         by_cases c57 : (wrap64 ((wrap64 (bt (rdOf ByteArray.empty t336 x63_3) 0)) - 48)) ≥ (ji23)
                         ·rw [if_pos c57] at H
                          have c57b0 : decide ((ji23) ≤ (wrap64 ((wrap64 (bt (rdOf ByteArray.empty t336 x63_3) 0)) - 48))) = true := decide_eq_true c57
                          clear c57
                          simp only [Option.some.injEq, Prod.mk.injEq] at H
                          obtain ⟨rfl, rfl, rfl, rfl⟩ := H
                          have p339 : 0 ≤ (x63_3 : Int) := of_decide_eq_true (by first | (with_reducible assumption) | assumption)
                          have q339 : x63_3 < (t336.length : Int) := of_decide_eq_true (by first | (with_reducible assumption) | assumption)
                          obtain ⟨ad339, e339, hx339_0⟩ := Kd.at_string (Kd.R_reads' HO_61.out).2.2 x63_3 p339 q339
                          cases e339
                          replace p339 := eq_true p339
                          replace q339 := eq_true q339
                          try go_wp2
                          have n0_ := Aside0.mk (Kd.R_drew HO_4.out)
                          have n1_ := Aside0.mk (Kd.R_drew HO_61.out)
                          have n2_ := Aside0.mk (Kd.R_drew HO_334000.out)
                          have n3_ := Aside0.mk (blk_drew BK322.out)
                          have n4_ := Aside0.mk (blk_drew BK333.out)
                          have n5_ := Aside0.mk (below_drew1 HB.out)
                          clear HO_4
                          clear HO_61
                          clear HO_334000
                          clear BK322
                          clear BK333
                          clear HB
                          have HO_4 := n0_
                          have HO_61 := n1_
                          have HO_334000 := n2_
                          have BK322 := n3_
                          have BK333 := n4_
                          have HB := n5_
                          clear n0_ n1_ n2_ n3_ n4_ n5_
                          have p50 : 0 ≤ (0 : Int) := (by omega)
                          have q50 : 0 < (rdOf ByteArray.empty t336 x63_3).size := (by have : (0 : Int) < ((rdOf ByteArray.empty t336 x63_3).size : Int) := of_decide_eq_true (by first | (with_reducible assumption) | assumption); omega)
                          have hx50 : ∀ h : 0 < (rdOf ByteArray.empty t336 x63_3).size, (((rdOf ByteArray.empty t336 x63_3)[0]'h).toNat : Int) = bt (rdOf ByteArray.empty t336 x63_3) 0 := bt_at (rdOf ByteArray.empty t336 x63_3) 0
                          clear p50
                          have qi50 : (0 < ((rdOf ByteArray.empty t336 x63_3).size : Int)) = True := eq_true (of_decide_eq_true (by first | (with_reducible assumption) | assumption))
                          replace q50 := eq_true q50
                          have p52 : 0 ≤ (1 : Int) := (by omega)
                          have q52 : 1 < (rdOf ByteArray.empty t336 x63_3).size := (by have : (1 : Int) < ((rdOf ByteArray.empty t336 x63_3).size : Int) := of_decide_eq_true (by first | (with_reducible assumption) | assumption); omega)
                          have hx52 : ∀ h : 1 < (rdOf ByteArray.empty t336 x63_3).size, (((rdOf ByteArray.empty t336 x63_3)[1]'h).toNat : Int) = bt (rdOf ByteArray.empty t336 x63_3) 1 := bt_at (rdOf ByteArray.empty t336 x63_3) 1
                          clear p52
                          have qi52 : (1 < ((rdOf ByteArray.empty t336 x63_3).size : Int)) = True := eq_true (of_decide_eq_true (by first | (with_reducible assumption) | assumption))
                          replace q52 := eq_true q52
                          refine start_ (n := 10) (S := fun w' => True) (ds := []) #[false, false, false, false, false, false, false, false, false, false] (by kernel_rfl) rfl rfl trivial (fun hHeld => ?_); refine with_tabW impl_ReadPlace.tab14 impl_ReadPlace.bits14 (fun HT_ HW_ => ?_)
                          generalize wr.drew = w58 at HO_4 HO_61 HO_334000 BK322 BK333 HB hHeld ⊢
                          refine pure_ (i := 0) (N := some 71) (v := ?_) (a' := ?_) #[true, false, false, false, false, false, false, false, false, false] rfl rfl (any_of HT_.out (by kernel_rfl)) (fun _ _ _ h => h) (Or.inl ⟨by rfl, ?_⟩) ?_ ?_
                          rotate_left
                          ·intro w'
                           go_simp
                           with_reducible rfl
                          rotate_left
                          ·simp only [Act.put, List.setIfInBounds_toArray, List.set_cons_zero, List.set_cons_succ, i64_w, i32_w]
                           rfl
                          refine pure_ (i := 4) (N := some 75) (v := ?_) (a' := ?_) #[true, false, false, false, true, false, false, false, false, false] rfl rfl (any_of HT_.out (by kernel_rfl)) (fun _ _ _ h => h) (Or.inl ⟨by rfl, ?_⟩) ?_ ?_
                          rotate_left
                          ·intro w'
                           go_simp
                           with_reducible rfl
                          rotate_left
                          ·simp only [Act.put, List.setIfInBounds_toArray, List.set_cons_zero, List.set_cons_succ, i64_w, i32_w]
                           rfl
                          refine take_ (i := 1) (N := some 72) (v := ?_) (a' := ?_) #[true, true, false, false, true, false, false, false, false, false] rfl rfl (take_ofW HT_.out HW_.out (by kernel_rfl)) (fun _ _ _ h => h) (Or.inl ⟨by rfl, ?_⟩) hHeld ?_ ?_
                          rotate_left
                          ·intro w' _
                           go_simp
                           with_reducible rfl
                          rotate_left
                          ·simp only [Act.put, List.setIfInBounds_toArray, List.set_cons_zero, List.set_cons_succ, i64_w, i32_w]
                           rfl
                          refine pure_ (i := 2) (N := some 73) (v := ?_) (a' := ?_) #[true, true, true, false, true, false, false, false, false, false] rfl rfl (any_of HT_.out (by kernel_rfl)) (fun _ _ _ h => h) (Or.inl ⟨by rfl, ?_⟩) ?_ ?_
                          rotate_left
                          ·intro w'
                           go_simp
                           with_reducible rfl
                          rotate_left
                          ·simp only [Act.put, List.setIfInBounds_toArray, List.set_cons_zero, List.set_cons_succ, i64_w, i32_w]
                           rfl
                          refine pure_ (i := 3) (N := some 74) (v := ?_) (a' := ?_) #[true, true, true, true, true, false, false, false, false, false] rfl rfl (any_of HT_.out (by kernel_rfl)) (fun _ _ _ h => h) (Or.inl ⟨by rfl, ?_⟩) ?_ ?_
                          rotate_left
                          ·intro w'
                           go_simp
                           with_reducible rfl
                          rotate_left
                          ·simp only [Act.put, List.setIfInBounds_toArray, List.set_cons_zero, List.set_cons_succ, i64_w, i32_w]
                           rfl
                          refine pure_ (i := 8) (N := some 9) (v := ?_) (a' := ?_) #[true, true, true, true, true, false, false, false, true, false] rfl rfl (any_of HT_.out (by kernel_rfl)) (fun _ _ _ h => h) (Or.inl ⟨by rfl, ?_⟩) ?_ ?_
                          rotate_left
                          ·intro w'
                           go_simp
                           with_reducible rfl
                          rotate_left
                          ·simp only [Act.put, List.setIfInBounds_toArray, List.set_cons_zero, List.set_cons_succ, i64_w, i32_w]
                           rfl
                          refine take_ (i := 5) (N := some 76) (v := ?_) (a' := ?_) #[true, true, true, true, true, true, false, false, true, false] rfl rfl (take_ofW HT_.out HW_.out (by kernel_rfl)) (fun _ _ _ h => h) (Or.inl ⟨by rfl, ?_⟩) hHeld ?_ ?_
                          rotate_left
                          ·intro w' _
                           go_simp
                           with_reducible rfl
                          rotate_left
                          ·simp only [Act.put, List.setIfInBounds_toArray, List.set_cons_zero, List.set_cons_succ, i64_w, i32_w]
                           rfl
                          refine pure_ (i := 6) (N := some 77) (v := ?_) (a' := ?_) #[true, true, true, true, true, true, true, false, true, false] rfl rfl (any_of HT_.out (by kernel_rfl)) (fun _ _ _ h => h) (Or.inl ⟨by rfl, ?_⟩) ?_ ?_
                          rotate_left
                          ·intro w'
                           go_simp
                           with_reducible rfl
                          rotate_left
                          ·simp only [Act.put, List.setIfInBounds_toArray, List.set_cons_zero, List.set_cons_succ, i64_w, i32_w]
                           rfl
                          refine pure_ (i := 7) (N := some 78) (v := ?_) (a' := ?_) #[true, true, true, true, true, true, true, true, true, false] rfl rfl (any_of HT_.out (by kernel_rfl)) (fun _ _ _ h => h) (Or.inl ⟨by rfl, ?_⟩) ?_ ?_
                          rotate_left
                          ·intro w'
                           go_simp
                           with_reducible rfl
                          rotate_left
                          ·simp only [Act.put, List.setIfInBounds_toArray, List.set_cons_zero, List.set_cons_succ, i64_w, i32_w]
                           rfl
                          refine pure_ (i := 9) (N := some 10) (v := ?_) (a' := ?_) #[true, true, true, true, true, true, true, true, true, true] rfl rfl (any_of HT_.out (by kernel_rfl)) (fun _ _ _ h => h) (Or.inl ⟨by rfl, ?_⟩) ?_ ?_
                          rotate_left
                          ·intro w'
                           go_simp
                           with_reducible rfl
                          rotate_left
                          ·simp only [Act.put, List.setIfInBounds_toArray, List.set_cons_zero, List.set_cons_succ, i64_w, i32_w]
                           rfl
                          refine done_ (done_of HT_.out (by kernel_rfl)) ?_
                          have hnb59 := NB322_333.out
                          have hnc59 := NB333_322.out
                          have hcz60_0 : w58.cell? ⟨gb322, 0, none⟩ = some (.slice none 0 0) := (blk_cell BK322.out 0).trans rfl
                          have hcz60_1 : w58.cell? ⟨gb322, 1, none⟩ = some (.int .i64 x323001_3) := (blk_cell BK322.out 1).trans rfl
                          have hcz60_2 : w58.cell? ⟨gb322, 2, none⟩ = some (.slice none 0 0) := (blk_cell BK322.out 2).trans rfl
                          have hfz60_0 := blk_frozen BK322.out 0
                          have hfz60_1 := blk_frozen BK322.out 1
                          have hfz60_2 := blk_frozen BK322.out 2
                          try go_wp2
                          refine bodyPost_ret (results_ct rfl _ _ gb322 31 #[.slice none 0 0, .int .i64 0, .slice none 0 0] (0, 0) _ rfl (by (with_reducible repeat (first | refine blk_drewN ?_ _ | refine blk_drew ?_ | refine blk_alloc ?_ _)); refine blk_put (cs := #[.slice none 0 0, .int .i64 0, .slice none 0 0]) ?_ 2 _ rfl; (with_reducible repeat (first | refine blk_drewN ?_ _ | refine blk_drew ?_ | refine blk_alloc ?_ _)); refine blk_put (cs := #[.slice none 0 0, .int .i64 x323001_3, .slice none 0 0]) ?_ 1 _ rfl; (with_reducible repeat (first | refine blk_drewN ?_ _ | refine blk_drew ?_ | refine blk_alloc ?_ _)); refine blk_put (cs := #[.slice none 0 0, .int .i64 x323001_3, .slice none 0 0]) ?_ 0 _ rfl; (with_reducible repeat (first | refine blk_drewN ?_ _ | refine blk_drew ?_ | refine blk_alloc ?_ _)); exact BK322.out) Tryd.underlying31 rfl (by kernel_rfl)) rfl ?_
                          exact ⟨_, _, by first | rfl | (simp [errW_none, errW_some] <;> rfl) | (simp only [← hji23]; first | rfl | (simp [errW_none, errW_some] <;> rfl)) | (simp [*, errW_none, errW_some] <;> rfl), by first | exact Kd.R_nil _ _ _ _ _ | exact Kd.N_nil _ _ _ _ _ | exact Kd.V_nil _ _ _ _ _ | exact Kd.Q_nil _ _ _ _ _ | exact Kd.S_nil _ _ _ _ _, by first | exact Kd.R_nil _ _ _ _ _ | exact Kd.N_nil _ _ _ _ _ | exact Kd.V_nil _ _ _ _ _ | exact Kd.Q_nil _ _ _ _ _ | exact Kd.S_nil _ _ _ _ _, by repeat (first | (with_reducible first | exact HB.out | apply below_alloc | apply pw_below_drewN | apply below_drew1 | refine below_set ?_ GE322.out | refine below_set ?_ GE333.out) | exact HB.out)⟩
                         ·rw [if_neg c57] at H
                          have c57b0 : decide ((ji23) ≤ (wrap64 ((wrap64 (bt (rdOf ByteArray.empty t336 x63_3) 0)) - 48))) = false := decide_eq_false c57
                          clear c57
                          by_cases c61 : (wrap64 ((wrap64 (bt (rdOf ByteArray.empty t336 x63_3) 1)) - 48)) < 0
                          ·rw [if_pos c61] at H
                           have c61b0 : decide ((wrap64 ((wrap64 (bt (rdOf ByteArray.empty t336 x63_3) 1)) - 48)) < 0) = true := decide_eq_true c61
                           clear c61
                           simp only [Option.some.injEq, Prod.mk.injEq] at H
                           obtain ⟨rfl, rfl, rfl, rfl⟩ := H
                           have p339 : 0 ≤ (x63_3 : Int) := of_decide_eq_true (by first | (with_reducible assumption) | assumption)
                           have q339 : x63_3 < (t336.length : Int) := of_decide_eq_true (by first | (with_reducible assumption) | assumption)
                           obtain ⟨ad339, e339, hx339_0⟩ := Kd.at_string (Kd.R_reads' HO_61.out).2.2 x63_3 p339 q339
                           cases e339
                           replace p339 := eq_true p339
                           replace q339 := eq_true q339
                           try go_wp2
                           have n0_ := Aside0.mk (Kd.R_drew HO_4.out)
                           have n1_ := Aside0.mk (Kd.R_drew HO_61.out)
                           have n2_ := Aside0.mk (Kd.R_drew HO_334000.out)
                           have n3_ := Aside0.mk (blk_drew BK322.out)
                           have n4_ := Aside0.mk (blk_drew BK333.out)
                           have n5_ := Aside0.mk (below_drew1 HB.out)
                           clear HO_4
                           clear HO_61
                           clear HO_334000
                           clear BK322
                           clear BK333
                           clear HB
                           have HO_4 := n0_
                           have HO_61 := n1_
                           have HO_334000 := n2_
                           have BK322 := n3_
                           have BK333 := n4_
                           have HB := n5_
                           clear n0_ n1_ n2_ n3_ n4_ n5_
                           have p50 : 0 ≤ (0 : Int) := (by omega)
                           have q50 : 0 < (rdOf ByteArray.empty t336 x63_3).size := (by have : (0 : Int) < ((rdOf ByteArray.empty t336 x63_3).size : Int) := of_decide_eq_true (by first | (with_reducible assumption) | assumption); omega)
                           have hx50 : ∀ h : 0 < (rdOf ByteArray.empty t336 x63_3).size, (((rdOf ByteArray.empty t336 x63_3)[0]'h).toNat : Int) = bt (rdOf ByteArray.empty t336 x63_3) 0 := bt_at (rdOf ByteArray.empty t336 x63_3) 0
                           clear p50
                           have qi50 : (0 < ((rdOf ByteArray.empty t336 x63_3).size : Int)) = True := eq_true (of_decide_eq_true (by first | (with_reducible assumption) | assumption))
                           replace q50 := eq_true q50
                           have p52 : 0 ≤ (1 : Int) := (by omega)
                           have q52 : 1 < (rdOf ByteArray.empty t336 x63_3).size := (by have : (1 : Int) < ((rdOf ByteArray.empty t336 x63_3).size : Int) := of_decide_eq_true (by first | (with_reducible assumption) | assumption); omega)
                           have hx52 : ∀ h : 1 < (rdOf ByteArray.empty t336 x63_3).size, (((rdOf ByteArray.empty t336 x63_3)[1]'h).toNat : Int) = bt (rdOf ByteArray.empty t336 x63_3) 1 := bt_at (rdOf ByteArray.empty t336 x63_3) 1
                           clear p52
                           have qi52 : (1 < ((rdOf ByteArray.empty t336 x63_3).size : Int)) = True := eq_true (of_decide_eq_true (by first | (with_reducible assumption) | assumption))
                           replace q52 := eq_true q52
                           refine start_ (n := 10) (S := fun w' => True) (ds := []) #[false, false, false, false, false, false, false, false, false, false] (by kernel_rfl) rfl rfl trivial (fun hHeld => ?_); refine with_tabW impl_ReadPlace.tab14 impl_ReadPlace.bits14 (fun HT_ HW_ => ?_)
                           generalize wr.drew = w62 at HO_4 HO_61 HO_334000 BK322 BK333 HB hHeld ⊢
                           refine pure_ (i := 0) (N := some 71) (v := ?_) (a' := ?_) #[true, false, false, false, false, false, false, false, false, false] rfl rfl (any_of HT_.out (by kernel_rfl)) (fun _ _ _ h => h) (Or.inl ⟨by rfl, ?_⟩) ?_ ?_
                           rotate_left
                           ·intro w'
                            go_simp
                            with_reducible rfl
                           rotate_left
                           ·simp only [Act.put, List.setIfInBounds_toArray, List.set_cons_zero, List.set_cons_succ, i64_w, i32_w]
                            rfl
                           refine pure_ (i := 4) (N := some 75) (v := ?_) (a' := ?_) #[true, false, false, false, true, false, false, false, false, false] rfl rfl (any_of HT_.out (by kernel_rfl)) (fun _ _ _ h => h) (Or.inl ⟨by rfl, ?_⟩) ?_ ?_
                           rotate_left
                           ·intro w'
                            go_simp
                            with_reducible rfl
                           rotate_left
                           ·simp only [Act.put, List.setIfInBounds_toArray, List.set_cons_zero, List.set_cons_succ, i64_w, i32_w]
                            rfl
                           refine take_ (i := 1) (N := some 72) (v := ?_) (a' := ?_) #[true, true, false, false, true, false, false, false, false, false] rfl rfl (take_ofW HT_.out HW_.out (by kernel_rfl)) (fun _ _ _ h => h) (Or.inl ⟨by rfl, ?_⟩) hHeld ?_ ?_
                           rotate_left
                           ·intro w' _
                            go_simp
                            with_reducible rfl
                           rotate_left
                           ·simp only [Act.put, List.setIfInBounds_toArray, List.set_cons_zero, List.set_cons_succ, i64_w, i32_w]
                            rfl
                           refine pure_ (i := 2) (N := some 73) (v := ?_) (a' := ?_) #[true, true, true, false, true, false, false, false, false, false] rfl rfl (any_of HT_.out (by kernel_rfl)) (fun _ _ _ h => h) (Or.inl ⟨by rfl, ?_⟩) ?_ ?_
                           rotate_left
                           ·intro w'
                            go_simp
                            with_reducible rfl
                           rotate_left
                           ·simp only [Act.put, List.setIfInBounds_toArray, List.set_cons_zero, List.set_cons_succ, i64_w, i32_w]
                            rfl
                           refine pure_ (i := 3) (N := some 74) (v := ?_) (a' := ?_) #[true, true, true, true, true, false, false, false, false, false] rfl rfl (any_of HT_.out (by kernel_rfl)) (fun _ _ _ h => h) (Or.inl ⟨by rfl, ?_⟩) ?_ ?_
                           rotate_left
                           ·intro w'
                            go_simp
                            with_reducible rfl
                           rotate_left
                           ·simp only [Act.put, List.setIfInBounds_toArray, List.set_cons_zero, List.set_cons_succ, i64_w, i32_w]
                            rfl
                           refine pure_ (i := 8) (N := some 9) (v := ?_) (a' := ?_) #[true, true, true, true, true, false, false, false, true, false] rfl rfl (any_of HT_.out (by kernel_rfl)) (fun _ _ _ h => h) (Or.inl ⟨by rfl, ?_⟩) ?_ ?_
                           rotate_left
                           ·intro w'
                            go_simp
                            with_reducible rfl
                           rotate_left
                           ·simp only [Act.put, List.setIfInBounds_toArray, List.set_cons_zero, List.set_cons_succ, i64_w, i32_w]
                            rfl
                           refine take_ (i := 5) (N := some 76) (v := ?_) (a' := ?_) #[true, true, true, true, true, true, false, false, true, false] rfl rfl (take_ofW HT_.out HW_.out (by kernel_rfl)) (fun _ _ _ h => h) (Or.inl ⟨by rfl, ?_⟩) hHeld ?_ ?_
                           rotate_left
                           ·intro w' _
                            go_simp
                            with_reducible rfl
                           rotate_left
                           ·simp only [Act.put, List.setIfInBounds_toArray, List.set_cons_zero, List.set_cons_succ, i64_w, i32_w]
                            rfl
                           refine pure_ (i := 6) (N := some 77) (v := ?_) (a' := ?_) #[true, true, true, true, true, true, true, false, true, false] rfl rfl (any_of HT_.out (by kernel_rfl)) (fun _ _ _ h => h) (Or.inl ⟨by rfl, ?_⟩) ?_ ?_
                           rotate_left
                           ·intro w'
                            go_simp
                            with_reducible rfl
                           rotate_left
                           ·simp only [Act.put, List.setIfInBounds_toArray, List.set_cons_zero, List.set_cons_succ, i64_w, i32_w]
                            rfl
                           refine pure_ (i := 7) (N := some 78) (v := ?_) (a' := ?_) #[true, true, true, true, true, true, true, true, true, false] rfl rfl (any_of HT_.out (by kernel_rfl)) (fun _ _ _ h => h) (Or.inl ⟨by rfl, ?_⟩) ?_ ?_
                           rotate_left
                           ·intro w'
                            go_simp
                            with_reducible rfl
                           rotate_left
                           ·simp only [Act.put, List.setIfInBounds_toArray, List.set_cons_zero, List.set_cons_succ, i64_w, i32_w]
                            rfl
                           refine pure_ (i := 9) (N := some 10) (v := ?_) (a' := ?_) #[true, true, true, true, true, true, true, true, true, true] rfl rfl (any_of HT_.out (by kernel_rfl)) (fun _ _ _ h => h) (Or.inl ⟨by rfl, ?_⟩) ?_ ?_
                           rotate_left
                           ·intro w'
                            go_simp
                            with_reducible rfl
                           rotate_left
                           ·simp only [Act.put, List.setIfInBounds_toArray, List.set_cons_zero, List.set_cons_succ, i64_w, i32_w]
                            rfl
                           refine done_ (done_of HT_.out (by kernel_rfl)) ?_
                           have hnb63 := NB322_333.out
                           have hnc63 := NB333_322.out
                           have hcz64_0 : w62.cell? ⟨gb322, 0, none⟩ = some (.slice none 0 0) := (blk_cell BK322.out 0).trans rfl
                           have hcz64_1 : w62.cell? ⟨gb322, 1, none⟩ = some (.int .i64 x323001_3) := (blk_cell BK322.out 1).trans rfl
                           have hcz64_2 : w62.cell? ⟨gb322, 2, none⟩ = some (.slice none 0 0) := (blk_cell BK322.out 2).trans rfl
                           have hfz64_0 := blk_frozen BK322.out 0
                           have hfz64_1 := blk_frozen BK322.out 1
                           have hfz64_2 := blk_frozen BK322.out 2
                           try go_wp2
                           refine bodyPost_ret (results_ct rfl _ _ gb322 31 #[.slice none 0 0, .int .i64 0, .slice none 0 0] (0, 0) _ rfl (by (with_reducible repeat (first | refine blk_drewN ?_ _ | refine blk_drew ?_ | refine blk_alloc ?_ _)); refine blk_put (cs := #[.slice none 0 0, .int .i64 0, .slice none 0 0]) ?_ 2 _ rfl; (with_reducible repeat (first | refine blk_drewN ?_ _ | refine blk_drew ?_ | refine blk_alloc ?_ _)); refine blk_put (cs := #[.slice none 0 0, .int .i64 x323001_3, .slice none 0 0]) ?_ 1 _ rfl; (with_reducible repeat (first | refine blk_drewN ?_ _ | refine blk_drew ?_ | refine blk_alloc ?_ _)); refine blk_put (cs := #[.slice none 0 0, .int .i64 x323001_3, .slice none 0 0]) ?_ 0 _ rfl; (with_reducible repeat (first | refine blk_drewN ?_ _ | refine blk_drew ?_ | refine blk_alloc ?_ _)); exact BK322.out) Tryd.underlying31 rfl (by kernel_rfl)) rfl ?_
                           exact ⟨_, _, by first | rfl | (simp [errW_none, errW_some] <;> rfl) | (simp only [← hji23]; first | rfl | (simp [errW_none, errW_some] <;> rfl)) | (simp [*, errW_none, errW_some] <;> rfl), by first | exact Kd.R_nil _ _ _ _ _ | exact Kd.N_nil _ _ _ _ _ | exact Kd.V_nil _ _ _ _ _ | exact Kd.Q_nil _ _ _ _ _ | exact Kd.S_nil _ _ _ _ _, by first | exact Kd.R_nil _ _ _ _ _ | exact Kd.N_nil _ _ _ _ _ | exact Kd.V_nil _ _ _ _ _ | exact Kd.Q_nil _ _ _ _ _ | exact Kd.S_nil _ _ _ _ _, by repeat (first | (with_reducible first | exact HB.out | apply below_alloc | apply pw_below_drewN | apply below_drew1 | refine below_set ?_ GE322.out | refine below_set ?_ GE333.out) | exact HB.out)⟩
                          ·rw [if_neg c61] at H
                           have c61b0 : decide ((wrap64 ((wrap64 (bt (rdOf ByteArray.empty t336 x63_3) 1)) - 48)) < 0) = false := decide_eq_false c61
                           clear c61
                           by_cases c65 : (wrap64 ((wrap64 (bt (rdOf ByteArray.empty t336 x63_3) 1)) - 48)) ≥ (ji23)
                           ·rw [if_pos c65] at H
                            have c65b0 : decide ((ji23) ≤ (wrap64 ((wrap64 (bt (rdOf ByteArray.empty t336 x63_3) 1)) - 48))) = true := decide_eq_true c65
                            clear c65
                            simp only [Option.some.injEq, Prod.mk.injEq] at H
                            obtain ⟨rfl, rfl, rfl, rfl⟩ := H
                            have p339 : 0 ≤ (x63_3 : Int) := of_decide_eq_true (by first | (with_reducible assumption) | assumption)
                            have q339 : x63_3 < (t336.length : Int) := of_decide_eq_true (by first | (with_reducible assumption) | assumption)
                            obtain ⟨ad339, e339, hx339_0⟩ := Kd.at_string (Kd.R_reads' HO_61.out).2.2 x63_3 p339 q339
                            cases e339
                            replace p339 := eq_true p339
                            replace q339 := eq_true q339
                            try go_wp2
                            have n0_ := Aside0.mk (Kd.R_drew HO_4.out)
                            have n1_ := Aside0.mk (Kd.R_drew HO_61.out)
                            have n2_ := Aside0.mk (Kd.R_drew HO_334000.out)
                            have n3_ := Aside0.mk (blk_drew BK322.out)
                            have n4_ := Aside0.mk (blk_drew BK333.out)
                            have n5_ := Aside0.mk (below_drew1 HB.out)
                            clear HO_4
                            clear HO_61
                            clear HO_334000
                            clear BK322
                            clear BK333
                            clear HB
                            have HO_4 := n0_
                            have HO_61 := n1_
                            have HO_334000 := n2_
                            have BK322 := n3_
                            have BK333 := n4_
                            have HB := n5_
                            clear n0_ n1_ n2_ n3_ n4_ n5_
                            have p50 : 0 ≤ (0 : Int) := (by omega)
                            have q50 : 0 < (rdOf ByteArray.empty t336 x63_3).size := (by have : (0 : Int) < ((rdOf ByteArray.empty t336 x63_3).size : Int) := of_decide_eq_true (by first | (with_reducible assumption) | assumption); omega)
                            have hx50 : ∀ h : 0 < (rdOf ByteArray.empty t336 x63_3).size, (((rdOf ByteArray.empty t336 x63_3)[0]'h).toNat : Int) = bt (rdOf ByteArray.empty t336 x63_3) 0 := bt_at (rdOf ByteArray.empty t336 x63_3) 0
                            clear p50
                            have qi50 : (0 < ((rdOf ByteArray.empty t336 x63_3).size : Int)) = True := eq_true (of_decide_eq_true (by first | (with_reducible assumption) | assumption))
                            replace q50 := eq_true q50
                            have p52 : 0 ≤ (1 : Int) := (by omega)
                            have q52 : 1 < (rdOf ByteArray.empty t336 x63_3).size := (by have : (1 : Int) < ((rdOf ByteArray.empty t336 x63_3).size : Int) := of_decide_eq_true (by first | (with_reducible assumption) | assumption); omega)
                            have hx52 : ∀ h : 1 < (rdOf ByteArray.empty t336 x63_3).size, (((rdOf ByteArray.empty t336 x63_3)[1]'h).toNat : Int) = bt (rdOf ByteArray.empty t336 x63_3) 1 := bt_at (rdOf ByteArray.empty t336 x63_3) 1
                            clear p52
                            have qi52 : (1 < ((rdOf ByteArray.empty t336 x63_3).size : Int)) = True := eq_true (of_decide_eq_true (by first | (with_reducible assumption) | assumption))
                            replace q52 := eq_true q52
                            refine start_ (n := 10) (S := fun w' => True) (ds := []) #[false, false, false, false, false, false, false, false, false, false] (by kernel_rfl) rfl rfl trivial (fun hHeld => ?_); refine with_tabW impl_ReadPlace.tab14 impl_ReadPlace.bits14 (fun HT_ HW_ => ?_)
                            generalize wr.drew = w66 at HO_4 HO_61 HO_334000 BK322 BK333 HB hHeld ⊢
                            refine pure_ (i := 0) (N := some 71) (v := ?_) (a' := ?_) #[true, false, false, false, false, false, false, false, false, false] rfl rfl (any_of HT_.out (by kernel_rfl)) (fun _ _ _ h => h) (Or.inl ⟨by rfl, ?_⟩) ?_ ?_
                            rotate_left
                            ·intro w'
                             go_simp
                             with_reducible rfl
                            rotate_left
                            ·simp only [Act.put, List.setIfInBounds_toArray, List.set_cons_zero, List.set_cons_succ, i64_w, i32_w]
                             rfl
                            refine pure_ (i := 4) (N := some 75) (v := ?_) (a' := ?_) #[true, false, false, false, true, false, false, false, false, false] rfl rfl (any_of HT_.out (by kernel_rfl)) (fun _ _ _ h => h) (Or.inl ⟨by rfl, ?_⟩) ?_ ?_
                            rotate_left
                            ·intro w'
                             go_simp
                             with_reducible rfl
                            rotate_left
                            ·simp only [Act.put, List.setIfInBounds_toArray, List.set_cons_zero, List.set_cons_succ, i64_w, i32_w]
                             rfl
                            refine take_ (i := 1) (N := some 72) (v := ?_) (a' := ?_) #[true, true, false, false, true, false, false, false, false, false] rfl rfl (take_ofW HT_.out HW_.out (by kernel_rfl)) (fun _ _ _ h => h) (Or.inl ⟨by rfl, ?_⟩) hHeld ?_ ?_
                            rotate_left
                            ·intro w' _
                             go_simp
                             with_reducible rfl
                            rotate_left
                            ·simp only [Act.put, List.setIfInBounds_toArray, List.set_cons_zero, List.set_cons_succ, i64_w, i32_w]
                             rfl
                            refine pure_ (i := 2) (N := some 73) (v := ?_) (a' := ?_) #[true, true, true, false, true, false, false, false, false, false] rfl rfl (any_of HT_.out (by kernel_rfl)) (fun _ _ _ h => h) (Or.inl ⟨by rfl, ?_⟩) ?_ ?_
                            rotate_left
                            ·intro w'
                             go_simp
                             with_reducible rfl
                            rotate_left
                            ·simp only [Act.put, List.setIfInBounds_toArray, List.set_cons_zero, List.set_cons_succ, i64_w, i32_w]
                             rfl
                            refine pure_ (i := 3) (N := some 74) (v := ?_) (a' := ?_) #[true, true, true, true, true, false, false, false, false, false] rfl rfl (any_of HT_.out (by kernel_rfl)) (fun _ _ _ h => h) (Or.inl ⟨by rfl, ?_⟩) ?_ ?_
                            rotate_left
                            ·intro w'
                             go_simp
                             with_reducible rfl
                            rotate_left
                            ·simp only [Act.put, List.setIfInBounds_toArray, List.set_cons_zero, List.set_cons_succ, i64_w, i32_w]
                             rfl
                            refine pure_ (i := 8) (N := some 9) (v := ?_) (a' := ?_) #[true, true, true, true, true, false, false, false, true, false] rfl rfl (any_of HT_.out (by kernel_rfl)) (fun _ _ _ h => h) (Or.inl ⟨by rfl, ?_⟩) ?_ ?_
                            rotate_left
                            ·intro w'
                             go_simp
                             with_reducible rfl
                            rotate_left
                            ·simp only [Act.put, List.setIfInBounds_toArray, List.set_cons_zero, List.set_cons_succ, i64_w, i32_w]
                             rfl
                            refine take_ (i := 5) (N := some 76) (v := ?_) (a' := ?_) #[true, true, true, true, true, true, false, false, true, false] rfl rfl (take_ofW HT_.out HW_.out (by kernel_rfl)) (fun _ _ _ h => h) (Or.inl ⟨by rfl, ?_⟩) hHeld ?_ ?_
                            rotate_left
                            ·intro w' _
                             go_simp
                             with_reducible rfl
                            rotate_left
                            ·simp only [Act.put, List.setIfInBounds_toArray, List.set_cons_zero, List.set_cons_succ, i64_w, i32_w]
                             rfl
                            refine pure_ (i := 6) (N := some 77) (v := ?_) (a' := ?_) #[true, true, true, true, true, true, true, false, true, false] rfl rfl (any_of HT_.out (by kernel_rfl)) (fun _ _ _ h => h) (Or.inl ⟨by rfl, ?_⟩) ?_ ?_
                            rotate_left
                            ·intro w'
                             go_simp
                             with_reducible rfl
                            rotate_left
                            ·simp only [Act.put, List.setIfInBounds_toArray, List.set_cons_zero, List.set_cons_succ, i64_w, i32_w]
                             rfl
                            refine pure_ (i := 7) (N := some 78) (v := ?_) (a' := ?_) #[true, true, true, true, true, true, true, true, true, false] rfl rfl (any_of HT_.out (by kernel_rfl)) (fun _ _ _ h => h) (Or.inl ⟨by rfl, ?_⟩) ?_ ?_
                            rotate_left
                            ·intro w'
                             go_simp
                             with_reducible rfl
                            rotate_left
                            ·simp only [Act.put, List.setIfInBounds_toArray, List.set_cons_zero, List.set_cons_succ, i64_w, i32_w]
                             rfl
                            refine pure_ (i := 9) (N := some 10) (v := ?_) (a' := ?_) #[true, true, true, true, true, true, true, true, true, true] rfl rfl (any_of HT_.out (by kernel_rfl)) (fun _ _ _ h => h) (Or.inl ⟨by rfl, ?_⟩) ?_ ?_
                            rotate_left
                            ·intro w'
                             go_simp
                             with_reducible rfl
                            rotate_left
                            ·simp only [Act.put, List.setIfInBounds_toArray, List.set_cons_zero, List.set_cons_succ, i64_w, i32_w]
                             rfl
                            refine done_ (done_of HT_.out (by kernel_rfl)) ?_
                            have hnb67 := NB322_333.out
                            have hnc67 := NB333_322.out
                            have hcz68_0 : w66.cell? ⟨gb322, 0, none⟩ = some (.slice none 0 0) := (blk_cell BK322.out 0).trans rfl
                            have hcz68_1 : w66.cell? ⟨gb322, 1, none⟩ = some (.int .i64 x323001_3) := (blk_cell BK322.out 1).trans rfl
                            have hcz68_2 : w66.cell? ⟨gb322, 2, none⟩ = some (.slice none 0 0) := (blk_cell BK322.out 2).trans rfl
                            have hfz68_0 := blk_frozen BK322.out 0
                            have hfz68_1 := blk_frozen BK322.out 1
                            have hfz68_2 := blk_frozen BK322.out 2
                            try go_wp2
                            refine bodyPost_ret (results_ct rfl _ _ gb322 31 #[.slice none 0 0, .int .i64 0, .slice none 0 0] (0, 0) _ rfl (by (with_reducible repeat (first | refine blk_drewN ?_ _ | refine blk_drew ?_ | refine blk_alloc ?_ _)); refine blk_put (cs := #[.slice none 0 0, .int .i64 0, .slice none 0 0]) ?_ 2 _ rfl; (with_reducible repeat (first | refine blk_drewN ?_ _ | refine blk_drew ?_ | refine blk_alloc ?_ _)); refine blk_put (cs := #[.slice none 0 0, .int .i64 x323001_3, .slice none 0 0]) ?_ 1 _ rfl; (with_reducible repeat (first | refine blk_drewN ?_ _ | refine blk_drew ?_ | refine blk_alloc ?_ _)); refine blk_put (cs := #[.slice none 0 0, .int .i64 x323001_3, .slice none 0 0]) ?_ 0 _ rfl; (with_reducible repeat (first | refine blk_drewN ?_ _ | refine blk_drew ?_ | refine blk_alloc ?_ _)); exact BK322.out) Tryd.underlying31 rfl (by kernel_rfl)) rfl ?_
                            exact ⟨_, _, by first | rfl | (simp [errW_none, errW_some] <;> rfl) | (simp only [← hji23]; first | rfl | (simp [errW_none, errW_some] <;> rfl)) | (simp [*, errW_none, errW_some] <;> rfl), by first | exact Kd.R_nil _ _ _ _ _ | exact Kd.N_nil _ _ _ _ _ | exact Kd.V_nil _ _ _ _ _ | exact Kd.Q_nil _ _ _ _ _ | exact Kd.S_nil _ _ _ _ _, by first | exact Kd.R_nil _ _ _ _ _ | exact Kd.N_nil _ _ _ _ _ | exact Kd.V_nil _ _ _ _ _ | exact Kd.Q_nil _ _ _ _ _ | exact Kd.S_nil _ _ _ _ _, by repeat (first | (with_reducible first | exact HB.out | apply below_alloc | apply pw_below_drewN | apply below_drew1 | refine below_set ?_ GE322.out | refine below_set ?_ GE333.out) | exact HB.out)⟩
                           ·rw [if_neg c65] at H
                            have c65b0 : decide ((ji23) ≤ (wrap64 ((wrap64 (bt (rdOf ByteArray.empty t336 x63_3) 1)) - 48))) = false := decide_eq_false c65
                            clear c65
                            obtain ⟨ji69, hji69⟩ : ∃ j_ : Int, (wrap64 ((wrap64 (bt (rdOf ByteArray.empty t336 x63_3) 0)) - 48)) = j_ := ⟨_, rfl⟩
                            replace H : (if 0 ≤ (ji69) then (if (ji69) < (x334000_3.length : Int) then (if 0 ≤ (wrap64 ((wrap64 (bt (rdOf ByteArray.empty t336 x63_3) 1)) - 48)) then ((some (x334000_3.set ((ji69) : Int).toNat (Go.bits .or .i64 (rd x334000_3 (ji69)) (shl .i64 1 (wrap64 ((wrap64 (bt (rdOf ByteArray.empty t336 x63_3) 1)) - 48)))) : List Int)).bind fun y341 => (if (wrap64 ((wrap64 (bt (rdOf ByteArray.empty t336 x63_3) 1)) - 48)) < (x334000_3.length : Int) then (impl_ReadPlace.l0 k3 a0 t323 (ji23) t336 (t336.length : Int) (wrap64 (x63_3 + 1)) (y341.set ((wrap64 ((wrap64 (bt (rdOf ByteArray.empty t336 x63_3) 1)) - 48)) : Int).toNat (Go.bits .or .i64 (rd y341 (wrap64 ((wrap64 (bt (rdOf ByteArray.empty t336 x63_3) 1)) - 48))) (shl .i64 1 (ji69)))) (wrap64 ((wrap64 (bt (rdOf ByteArray.empty t323 2) 0)) - 48))) else (none))) else (none)) else (none)) else (none)) = some (r1, r2, r3, r4) := by first | (rw [hji69] at H; exact H) | (simp only [hji69] at H ⊢; exact H)
                            (try rw [hji69] at c53b0)
                            (try rw [hji69] at c57b0)
                            have hji69w : (IntKind.i64.wrap ((wrap64 (bt (rdOf ByteArray.empty t336 x63_3) 0)) - 48)) = ji69 := (i64_w _).trans hji69
                            by_cases c70 : 0 ≤ (ji69)
                            ·rw [if_pos c70] at H
                             have c70b0 : decide (0 ≤ (ji69)) = true := decide_eq_true c70
                             clear c70
                             by_cases c71 : (ji69) < (x334000_3.length : Int)
                             ·rw [if_pos c71] at H
                              have c71b0 : decide ((ji69) < (x334000_3.length : Int)) = true := decide_eq_true c71
                              clear c71
                              obtain ⟨ji72, hji72⟩ : ∃ j_ : Int, (wrap64 ((wrap64 (bt (rdOf ByteArray.empty t336 x63_3) 1)) - 48)) = j_ := ⟨_, rfl⟩
                              replace H : (if 0 ≤ (ji72) then ((some (x334000_3.set ((ji69) : Int).toNat (Go.bits .or .i64 (rd x334000_3 (ji69)) (shl .i64 1 (ji72))) : List Int)).bind fun y341 => (if (ji72) < (x334000_3.length : Int) then (impl_ReadPlace.l0 k3 a0 t323 (ji23) t336 (t336.length : Int) (wrap64 (x63_3 + 1)) (y341.set ((ji72) : Int).toNat (Go.bits .or .i64 (rd y341 (ji72)) (shl .i64 1 (ji69)))) (wrap64 ((wrap64 (bt (rdOf ByteArray.empty t323 2) 0)) - 48))) else (none))) else (none)) = some (r1, r2, r3, r4) := by first | (rw [hji72] at H; exact H) | (simp only [hji72] at H ⊢; exact H)
                              (try rw [hji72] at c61b0)
                              (try rw [hji72] at c65b0)
                              have hji72w : (IntKind.i64.wrap ((wrap64 (bt (rdOf ByteArray.empty t336 x63_3) 1)) - 48)) = ji72 := (i64_w _).trans hji72
                              by_cases c73 : 0 ≤ (ji72)
                              ·rw [if_pos c73] at H
                               have c73b0 := eq_true c73
                               have c73b1 : decide (0 ≤ (ji72)) = true := decide_eq_true c73
                               clear c73
                               obtain ⟨ji74, hji74⟩ : ∃ j_ : Int, (shl .i64 1 (ji72)) = j_ := ⟨_, rfl⟩
                               replace H : ((some (x334000_3.set ((ji69) : Int).toNat (Go.bits .or .i64 (rd x334000_3 (ji69)) (ji74)) : List Int)).bind fun y341 => (if (ji72) < (x334000_3.length : Int) then (impl_ReadPlace.l0 k3 a0 t323 (ji23) t336 (t336.length : Int) (wrap64 (x63_3 + 1)) (y341.set ((ji72) : Int).toNat (Go.bits .or .i64 (rd y341 (ji72)) (shl .i64 1 (ji69)))) (wrap64 ((wrap64 (bt (rdOf ByteArray.empty t323 2) 0)) - 48))) else (none))) = some (r1, r2, r3, r4) := by first | (rw [hji74] at H; exact H) | (simp only [hji74] at H ⊢; exact H)
                               have hji74_ : (IntKind.i64.wrap (1 * 2 ^ min (ji72).toNat 64)) = ji74 := hji74
                               have hji74z : (ji72) ≤ 64 → (IntKind.i64.wrap (1 * 2 ^ (ji72).toNat)) = ji74 := shl_small hji74
                               have hji74u : (IntKind.i64.wrap (2 ^ min (ji72).toNat 64)) = ji74 := by have h_ := hji74_; rw [Int.one_mul] at h_; exact h_
                               have hji74v : (ji72) ≤ 64 → (IntKind.i64.wrap (2 ^ (ji72).toNat)) = ji74 := fun hle_ => by have h_ := hji74z hle_; rw [Int.one_mul] at h_; exact h_
                               have hji74y : (wrap64 (1 * 2 ^ min (ji72).toNat 64)) = ji74 := (i64_w _).symm.trans hji74_
                               have hji74x : (ji72) ≤ 64 → (wrap64 (1 * 2 ^ (ji72).toNat)) = ji74 := fun h_ => (i64_w _).symm.trans (hji74z h_)
                               obtain ⟨y341, hy341⟩ : ∃ y_ : List Int, y_ = (x334000_3.set ((ji69) : Int).toNat (Go.bits .or .i64 (rd x334000_3 (ji69)) (ji74))) := ⟨_, rfl⟩
                               replace H : (if (ji72) < (x334000_3.length : Int) then (impl_ReadPlace.l0 k3 a0 t323 (ji23) t336 (t336.length : Int) (wrap64 (x63_3 + 1)) (y341.set ((ji72) : Int).toNat (Go.bits .or .i64 (rd y341 (ji72)) (shl .i64 1 (ji69)))) (wrap64 ((wrap64 (bt (rdOf ByteArray.empty t323 2) 0)) - 48))) else (none)) = some (r1, r2, r3, r4) := by first | (rw [hy341]; with_reducible exact H) | (have H2_ := (Option.bind_some _ _).symm.trans H; rw [hy341]; with_reducible exact H2_) | (have H2_ := (Option.bind_some _ _).symm.trans H; with_reducible exact H2_) | with_reducible exact H | (rw [hy341]; exact H) | exact H
                               have Ny341 := Aside0.mk hy341
                               clear hy341
                               by_cases c76 : (ji72) < (x334000_3.length : Int)
                               ·rw [if_pos c76] at H
                                have c76b0 : decide ((ji72) < (x334000_3.length : Int)) = true := decide_eq_true c76
                                clear c76
                                have c77b0 := eq_true (of_decide_eq_true (by first | (with_reducible assumption) | assumption) : 0 ≤ (ji69))
                                obtain ⟨ji78, hji78⟩ : ∃ j_ : Int, (shl .i64 1 (ji69)) = j_ := ⟨_, rfl⟩
                                replace H : (impl_ReadPlace.l0 k3 a0 t323 (ji23) t336 (t336.length : Int) (wrap64 (x63_3 + 1)) (y341.set ((ji72) : Int).toNat (Go.bits .or .i64 (rd y341 (ji72)) (ji78))) (wrap64 ((wrap64 (bt (rdOf ByteArray.empty t323 2) 0)) - 48))) = some (r1, r2, r3, r4) := by first | (rw [hji78] at H; exact H) | (simp only [hji78] at H ⊢; exact H)
                                have hji78_ : (IntKind.i64.wrap (1 * 2 ^ min (ji69).toNat 64)) = ji78 := hji78
                                have hji78z : (ji69) ≤ 64 → (IntKind.i64.wrap (1 * 2 ^ (ji69).toNat)) = ji78 := shl_small hji78
                                have hji78u : (IntKind.i64.wrap (2 ^ min (ji69).toNat 64)) = ji78 := by have h_ := hji78_; rw [Int.one_mul] at h_; exact h_
                                have hji78v : (ji69) ≤ 64 → (IntKind.i64.wrap (2 ^ (ji69).toNat)) = ji78 := fun hle_ => by have h_ := hji78z hle_; rw [Int.one_mul] at h_; exact h_
                                have hji78y : (wrap64 (1 * 2 ^ min (ji69).toNat 64)) = ji78 := (i64_w _).symm.trans hji78_
                                have hji78x : (ji69) ≤ 64 → (wrap64 (1 * 2 ^ (ji69).toNat)) = ji78 := fun h_ => (i64_w _).symm.trans (hji78z h_)
                                obtain ⟨y343, hy343⟩ : ∃ y_ : List Int, y_ = (y341.set ((ji72) : Int).toNat (Go.bits .or .i64 (rd y341 (ji72)) (ji78))) := ⟨_, rfl⟩
                                replace H : (impl_ReadPlace.l0 k3 a0 t323 (ji23) t336 (t336.length : Int) (wrap64 (x63_3 + 1)) y343 (wrap64 ((wrap64 (bt (rdOf ByteArray.empty t323 2) 0)) - 48))) = some (r1, r2, r3, r4) := by first | (rw [hy343]; with_reducible exact H) | (have H2_ := (Option.bind_some _ _).symm.trans H; rw [hy343]; with_reducible exact H2_) | (have H2_ := (Option.bind_some _ _).symm.trans H; with_reducible exact H2_) | with_reducible exact H | (rw [hy343]; exact H) | exact H
                                have Ny343 := Aside0.mk hy343
                                clear hy343
                                have H' := Aside0.mk H
                                clear H
                                have p339 : 0 ≤ (x63_3 : Int) := of_decide_eq_true (by first | (with_reducible assumption) | assumption)
                                have q339 : x63_3 < (t336.length : Int) := of_decide_eq_true (by first | (with_reducible assumption) | assumption)
                                obtain ⟨ad339, e339, hx339_0⟩ := Kd.at_string (Kd.R_reads' HO_61.out).2.2 x63_3 p339 q339
                                cases e339
                                replace p339 := eq_true p339
                                replace q339 := eq_true q339
                                try go_wp2
                                have n0_ := Aside0.mk (Kd.R_drew HO_4.out)
                                have n1_ := Aside0.mk (Kd.R_drew HO_61.out)
                                have n2_ := Aside0.mk (Kd.R_drew HO_334000.out)
                                have n3_ := Aside0.mk (blk_drew BK322.out)
                                have n4_ := Aside0.mk (blk_drew BK333.out)
                                have n5_ := Aside0.mk (below_drew1 HB.out)
                                clear HO_4
                                clear HO_61
                                clear HO_334000
                                clear BK322
                                clear BK333
                                clear HB
                                have HO_4 := n0_
                                have HO_61 := n1_
                                have HO_334000 := n2_
                                have BK322 := n3_
                                have BK333 := n4_
                                have HB := n5_
                                clear n0_ n1_ n2_ n3_ n4_ n5_
                                have p50 : 0 ≤ (0 : Int) := (by omega)
                                have q50 : 0 < (rdOf ByteArray.empty t336 x63_3).size := (by have : (0 : Int) < ((rdOf ByteArray.empty t336 x63_3).size : Int) := of_decide_eq_true (by first | (with_reducible assumption) | assumption); omega)
                                have hx50 : ∀ h : 0 < (rdOf ByteArray.empty t336 x63_3).size, (((rdOf ByteArray.empty t336 x63_3)[0]'h).toNat : Int) = bt (rdOf ByteArray.empty t336 x63_3) 0 := bt_at (rdOf ByteArray.empty t336 x63_3) 0
                                clear p50
                                have qi50 : (0 < ((rdOf ByteArray.empty t336 x63_3).size : Int)) = True := eq_true (of_decide_eq_true (by first | (with_reducible assumption) | assumption))
                                replace q50 := eq_true q50
                                have p52 : 0 ≤ (1 : Int) := (by omega)
                                have q52 : 1 < (rdOf ByteArray.empty t336 x63_3).size := (by have : (1 : Int) < ((rdOf ByteArray.empty t336 x63_3).size : Int) := of_decide_eq_true (by first | (with_reducible assumption) | assumption); omega)
                                have hx52 : ∀ h : 1 < (rdOf ByteArray.empty t336 x63_3).size, (((rdOf ByteArray.empty t336 x63_3)[1]'h).toNat : Int) = bt (rdOf ByteArray.empty t336 x63_3) 1 := bt_at (rdOf ByteArray.empty t336 x63_3) 1
                                clear p52
                                have qi52 : (1 < ((rdOf ByteArray.empty t336 x63_3).size : Int)) = True := eq_true (of_decide_eq_true (by first | (with_reducible assumption) | assumption))
                                replace q52 := eq_true q52
                                refine start_ (n := 10) (S := fun w' => True) (ds := []) #[false, false, false, false, false, false, false, false, false, false] (by kernel_rfl) rfl rfl trivial (fun hHeld => ?_); refine with_tabW impl_ReadPlace.tab14 impl_ReadPlace.bits14 (fun HT_ HW_ => ?_)
                                generalize wr.drew = w80 at HO_4 HO_61 HO_334000 BK322 BK333 HB hHeld ⊢
                                refine pure_ (i := 0) (N := some 71) (v := ?_) (a' := ?_) #[true, false, false, false, false, false, false, false, false, false] rfl rfl (any_of HT_.out (by kernel_rfl)) (fun _ _ _ h => h) (Or.inl ⟨by rfl, ?_⟩) ?_ ?_
                                rotate_left
                                ·intro w'
                                 go_simp
                                 with_reducible rfl
                                rotate_left
                                ·simp only [Act.put, List.setIfInBounds_toArray, List.set_cons_zero, List.set_cons_succ, i64_w, i32_w]
                                 rfl
                                refine pure_ (i := 4) (N := some 75) (v := ?_) (a' := ?_) #[true, false, false, false, true, false, false, false, false, false] rfl rfl (any_of HT_.out (by kernel_rfl)) (fun _ _ _ h => h) (Or.inl ⟨by rfl, ?_⟩) ?_ ?_
                                rotate_left
                                ·intro w'
                                 go_simp
                                 with_reducible rfl
                                rotate_left
                                ·simp only [Act.put, List.setIfInBounds_toArray, List.set_cons_zero, List.set_cons_succ, i64_w, i32_w]
                                 rfl
                                refine take_ (i := 1) (N := some 72) (v := ?_) (a' := ?_) #[true, true, false, false, true, false, false, false, false, false] rfl rfl (take_ofW HT_.out HW_.out (by kernel_rfl)) (fun _ _ _ h => h) (Or.inl ⟨by rfl, ?_⟩) hHeld ?_ ?_
                                rotate_left
                                ·intro w' _
                                 go_simp
                                 with_reducible rfl
                                rotate_left
                                ·simp only [Act.put, List.setIfInBounds_toArray, List.set_cons_zero, List.set_cons_succ, i64_w, i32_w]
                                 rfl
                                refine pure_ (i := 2) (N := some 73) (v := ?_) (a' := ?_) #[true, true, true, false, true, false, false, false, false, false] rfl rfl (any_of HT_.out (by kernel_rfl)) (fun _ _ _ h => h) (Or.inl ⟨by rfl, ?_⟩) ?_ ?_
                                rotate_left
                                ·intro w'
                                 go_simp
                                 with_reducible rfl
                                rotate_left
                                ·simp only [Act.put, List.setIfInBounds_toArray, List.set_cons_zero, List.set_cons_succ, i64_w, i32_w]
                                 rfl
                                refine pure_ (i := 3) (N := some 74) (v := ?_) (a' := ?_) #[true, true, true, true, true, false, false, false, false, false] rfl rfl (any_of HT_.out (by kernel_rfl)) (fun _ _ _ h => h) (Or.inl ⟨by rfl, ?_⟩) ?_ ?_
                                rotate_left
                                ·intro w'
                                 go_simp
                                 with_reducible rfl
                                rotate_left
                                ·simp only [Act.put, List.setIfInBounds_toArray, List.set_cons_zero, List.set_cons_succ, i64_w, i32_w]
                                 rfl
                                refine pure_ (i := 8) (N := some 9) (v := ?_) (a' := ?_) #[true, true, true, true, true, false, false, false, true, false] rfl rfl (any_of HT_.out (by kernel_rfl)) (fun _ _ _ h => h) (Or.inl ⟨by rfl, ?_⟩) ?_ ?_
                                rotate_left
                                ·intro w'
                                 go_simp
                                 with_reducible rfl
                                rotate_left
                                ·simp only [Act.put, List.setIfInBounds_toArray, List.set_cons_zero, List.set_cons_succ, i64_w, i32_w]
                                 rfl
                                refine take_ (i := 5) (N := some 76) (v := ?_) (a' := ?_) #[true, true, true, true, true, true, false, false, true, false] rfl rfl (take_ofW HT_.out HW_.out (by kernel_rfl)) (fun _ _ _ h => h) (Or.inl ⟨by rfl, ?_⟩) hHeld ?_ ?_
                                rotate_left
                                ·intro w' _
                                 go_simp
                                 with_reducible rfl
                                rotate_left
                                ·simp only [Act.put, List.setIfInBounds_toArray, List.set_cons_zero, List.set_cons_succ, i64_w, i32_w]
                                 rfl
                                refine pure_ (i := 6) (N := some 77) (v := ?_) (a' := ?_) #[true, true, true, true, true, true, true, false, true, false] rfl rfl (any_of HT_.out (by kernel_rfl)) (fun _ _ _ h => h) (Or.inl ⟨by rfl, ?_⟩) ?_ ?_
                                rotate_left
                                ·intro w'
                                 go_simp
                                 with_reducible rfl
                                rotate_left
                                ·simp only [Act.put, List.setIfInBounds_toArray, List.set_cons_zero, List.set_cons_succ, i64_w, i32_w]
                                 rfl
                                refine pure_ (i := 7) (N := some 78) (v := ?_) (a' := ?_) #[true, true, true, true, true, true, true, true, true, false] rfl rfl (any_of HT_.out (by kernel_rfl)) (fun _ _ _ h => h) (Or.inl ⟨by rfl, ?_⟩) ?_ ?_
                                rotate_left
                                ·intro w'
                                 go_simp
                                 with_reducible rfl
                                rotate_left
                                ·simp only [Act.put, List.setIfInBounds_toArray, List.set_cons_zero, List.set_cons_succ, i64_w, i32_w]
                                 rfl
                                refine pure_ (i := 9) (N := some 10) (v := ?_) (a' := ?_) #[true, true, true, true, true, true, true, true, true, true] rfl rfl (any_of HT_.out (by kernel_rfl)) (fun _ _ _ h => h) (Or.inl ⟨by rfl, ?_⟩) ?_ ?_
                                rotate_left
                                ·intro w'
                                 go_simp
                                 with_reducible rfl
                                rotate_left
                                ·simp only [Act.put, List.setIfInBounds_toArray, List.set_cons_zero, List.set_cons_succ, i64_w, i32_w]
                                 rfl
                                refine done_ (done_of HT_.out (by kernel_rfl)) ?_
                                try go_wp2
                                have n0_ := Aside0.mk (Kd.R_drew HO_4.out)
                                have n1_ := Aside0.mk (Kd.R_drew HO_61.out)
                                have n2_ := Aside0.mk (Kd.R_drew HO_334000.out)
                                have n3_ := Aside0.mk (blk_drew BK322.out)
                                have n4_ := Aside0.mk (blk_drew BK333.out)
                                have n5_ := Aside0.mk (below_drew1 HB.out)
                                clear HO_4
                                clear HO_61
                                clear HO_334000
                                clear BK322
                                clear BK333
                                clear HB
                                have HO_4 := n0_
                                have HO_61 := n1_
                                have HO_334000 := n2_
                                have BK322 := n3_
                                have BK333 := n4_
                                have HB := n5_
                                clear n0_ n1_ n2_ n3_ n4_ n5_
                                obtain ⟨Ao82, co82, eo82⟩ := Kd.R_slice HO_334000.out
                                (first | subst eo82 | (injection eo82 with f1_ f2_ f3_; have f4_ := f1_.symm; have f5_ := f3_.symm; clear f1_ f2_ f3_; subst f4_; subst f5_))
                                have p340 : 0 ≤ ((ji69) : Int) := of_decide_eq_true (by first | (with_reducible assumption) | assumption)
                                have q340 : (ji69) < (x334000_3.length : Int) := of_decide_eq_true (by first | (with_reducible assumption) | assumption)
                                obtain ⟨ad340, e340, hx340_0⟩ := Kd.at_int (Kd.R_reads' HO_334000.out).2.2 (ji69) p340 q340
                                cases e340
                                replace p340 := eq_true p340
                                replace q340 := eq_true q340
                                have p75 : 0 ≤ ((ji69) : Int) := of_decide_eq_true (by first | (with_reducible assumption) | assumption)
                                have q75 : ((ji69) : Int) < ((x334000_3.length : Int) : Int) := of_decide_eq_true (by first | (with_reducible assumption) | assumption)
                                obtain ⟨go75, co75, eo75, gb75, gl75, cl75, HG75⟩ := Kd.R_form HO_334000.out (by omega)
                                (first | cases eo75 | (injection eo75 with ea_ en_ ec_; (first | subst ea_ | (injection ea_ with ea_; subst ea_)); subst ec_; clear en_))
                                have GB75 := Aside0.mk gb75
                                have GG75 := Aside0.mk HG75
                                clear gb75 gl75 HG75
                                (first | simp only [add_plain] at hx340_0 | skip)
                                obtain ⟨hx75_0, hf75_0⟩ := Kd.R_celln 0 HO_334000.out ((ji69) : Int) p75 q75
                                replace p75 := eq_true p75
                                replace q75 := eq_true q75
                                have HP83 := Kd.R_putn HO_334000.out ((ji69) : Int) (Go.bits .or .i64 (rd x334000_3 (ji69)) (ji74))
                                rw [← Ny341.out] at HP83
                                have HQ83 := Aside0.mk HP83
                                clear HP83
                                refine start_ (n := 10) (S := fun w' => w'.cell? ⟨gb333, 0, none⟩ = some (.slice (some ⟨go75, 0, none⟩) x334000_3.length co82) ∧ w'.cell? ⟨gb333, 1, none⟩ = some (.int .i64 (wrap64 ((wrap64 (bt (rdOf ByteArray.empty t323 2) 0)) - 48))) ∧ w'.cell? ⟨gb333, 2, none⟩ = some (.slice none 0 0) ∧ w'.cell? ⟨go75, ((ji69)).toNat, none⟩ = some (.int .i64 (rd x334000_3 (ji69)))) (ds := [9]) #[false, false, false, false, false, false, false, false, false, false] (by kernel_rfl) rfl rfl ⟨(blk_cell BK333.out 0).trans rfl, (blk_cell BK333.out 1).trans rfl, (blk_cell BK333.out 2).trans rfl, hx340_0⟩ (fun hHeld => ?_); refine with_tabW impl_ReadPlace.tab17 impl_ReadPlace.bits17 (fun HT_ HW_ => ?_)
                                generalize w80.drew = w81 at HO_4 HO_61 HO_334000 BK322 BK333 HB GG75 HQ83 hf75_0 hx340_0 hx75_0 hHeld ⊢
                                refine pure_ (i := 0) (N := some 96) (v := ?_) (a' := ?_) #[true, false, false, false, false, false, false, false, false, false] rfl rfl (any_of HT_.out (by kernel_rfl)) (fun _ _ _ h => h) (Or.inl ⟨by rfl, ?_⟩) ?_ ?_
                                rotate_left
                                ·intro w'
                                 go_simp
                                 with_reducible rfl
                                rotate_left
                                ·simp only [Act.put, List.setIfInBounds_toArray, List.set_cons_zero, List.set_cons_succ, i64_w, i32_w]
                                 rfl
                                refine pure_ (i := 2) (N := some 98) (v := ?_) (a' := ?_) #[true, false, true, false, false, false, false, false, false, false] rfl rfl (any_of HT_.out (by kernel_rfl)) (fun _ _ _ h => h) (Or.inl ⟨by rfl, ?_⟩) ?_ ?_
                                rotate_left
                                ·intro w'
                                 go_simp
                                 with_reducible rfl
                                rotate_left
                                ·simp only [Act.put, List.setIfInBounds_toArray, List.set_cons_zero, List.set_cons_succ, i64_w, i32_w]
                                 rfl
                                refine pure_ (i := 5) (N := some 101) (v := ?_) (a' := ?_) #[true, false, true, false, false, true, false, false, false, false] rfl rfl (any_of HT_.out (by kernel_rfl)) (fun _ _ _ h => h) (Or.inl ⟨by rfl, ?_⟩) ?_ ?_
                                rotate_left
                                ·intro w'
                                 go_simp
                                 with_reducible rfl
                                rotate_left
                                ·simp only [Act.put, List.setIfInBounds_toArray, List.set_cons_zero, List.set_cons_succ, i64_w, i32_w]
                                 rfl
                                refine pure_ (i := 6) (N := some 102) (v := ?_) (a' := ?_) #[true, false, true, false, false, true, true, false, false, false] rfl rfl (any_of HT_.out (by kernel_rfl)) (fun _ _ _ h => h) (Or.inl ⟨by rfl, ?_⟩) ?_ ?_
                                rotate_left
                                ·intro w'
                                 go_simp
                                 with_reducible rfl
                                rotate_left
                                ·simp only [Act.put, List.setIfInBounds_toArray, List.set_cons_zero, List.set_cons_succ, i64_w, i32_w]
                                 rfl
                                refine take_ (i := 1) (N := some 97) (v := ?_) (a' := ?_) #[true, true, true, false, false, true, true, false, false, false] rfl rfl (take_ofW HT_.out HW_.out (by kernel_rfl)) (fun _ _ _ h => h) (Or.inl ⟨by rfl, ?_⟩) hHeld ?_ ?_
                                rotate_left
                                ·rintro w' ⟨s0, s1, s2, s3⟩
                                 go_simp
                                 with_reducible rfl
                                rotate_left
                                ·simp only [Act.put, List.setIfInBounds_toArray, List.set_cons_zero, List.set_cons_succ, i64_w, i32_w]
                                 rfl
                                refine pure_ (i := 3) (N := some 99) (v := ?_) (a' := ?_) #[true, true, true, true, false, true, true, false, false, false] rfl rfl (any_of HT_.out (by kernel_rfl)) (fun _ _ _ h => h) (Or.inl ⟨by rfl, ?_⟩) ?_ ?_
                                rotate_left
                                ·intro w'
                                 go_simp
                                 with_reducible rfl
                                rotate_left
                                ·simp only [Act.put, List.setIfInBounds_toArray, List.set_cons_zero, List.set_cons_succ, i64_w, i32_w]
                                 rfl
                                refine take_ (i := 4) (N := some 100) (v := ?_) (a' := ?_) #[true, true, true, true, true, true, true, false, false, false] rfl rfl (take_ofW HT_.out HW_.out (by kernel_rfl)) (fun _ _ _ h => h) (Or.inl ⟨by rfl, ?_⟩) hHeld ?_ ?_
                                rotate_left
                                ·rintro w' ⟨s0, s1, s2, s3⟩
                                 go_simp
                                 with_reducible rfl
                                rotate_left
                                ·simp only [Act.put, List.setIfInBounds_toArray, List.set_cons_zero, List.set_cons_succ, i64_w, i32_w]
                                 rfl
                                refine pure_ (i := 7) (N := some 103) (v := ?_) (a' := ?_) #[true, true, true, true, true, true, true, true, false, false] rfl rfl (any_of HT_.out (by kernel_rfl)) (fun _ _ _ h => h) (Or.inl ⟨by rfl, ?_⟩) ?_ ?_
                                rotate_left
                                ·intro w'
                                 go_simp
                                 with_reducible rfl
                                rotate_left
                                ·simp only [Act.put, List.setIfInBounds_toArray, List.set_cons_zero, List.set_cons_succ, i64_w, i32_w]
                                 rfl
                                refine pure_ (i := 8) (N := some 104) (v := ?_) (a' := ?_) #[true, true, true, true, true, true, true, true, true, false] rfl rfl (any_of HT_.out (by kernel_rfl)) (fun _ _ _ h => h) (Or.inl ⟨by rfl, ?_⟩) ?_ ?_
                                rotate_left
                                ·intro w'
                                 go_simp
                                 with_reducible rfl
                                rotate_left
                                ·simp only [Act.put, List.setIfInBounds_toArray, List.set_cons_zero, List.set_cons_succ, i64_w, i32_w]
                                 rfl
                                refine last_ (i := 9) (N := none) #[true, true, true, true, true, true, true, true, true, true] rfl rfl (one_of HT_.out (by kernel_rfl)) (by decide) (fun K hK => ?_)
                                refine skip_ (w1 := ?_) (by rfl) rfl ?_ ?_
                                rotate_left
                                ·go_simp
                                 rfl
                                refine hK.out _ _ ?_
                                clear hK K
                                refine done_ (done_of HT_.out (by kernel_rfl)) ?_
                                try go_wp2
                                have n0_ : Aside0 (Kd.R Kd.string 9 (w81.setCell ⟨go75, ((ji69) : Int).toNat, none⟩ (.int .i64 (Go.bits .or .i64 (rd x334000_3 (ji69)) (ji74)))) w.heap.size (fun k_ => some k_ ≠ (.slice (some ad339) t336.length co44 : Value).ownBlock) (.slice (some ad328) t323.length co19) t323) := ⟨by (with_reducible repeat (first | apply Kd.R_alloc | apply Kd.R_drewN | apply Kd.R_drew)); exact Kd.R_mono (Kd.R_far (p := ⟨go75, ((ji69) : Int).toNat, none⟩) (Kd.R_types HO_4.out GG75.out (by decide)) (fun _ hk => hk.2) (.int .i64 (Go.bits .or .i64 (rd x334000_3 (ji69)) (ji74)))) (fun _ hk => hk.1)⟩
                                have n1_ : Aside0 (Kd.R Kd.string 9 (w81.setCell ⟨go75, ((ji69) : Int).toNat, none⟩ (.int .i64 (Go.bits .or .i64 (rd x334000_3 (ji69)) (ji74)))) w.heap.size (fun k_ => some k_ ≠ (.slice (some ad328) t323.length co19 : Value).ownBlock) (.slice (some ad339) t336.length co44) t336) := ⟨by (with_reducible repeat (first | apply Kd.R_alloc | apply Kd.R_drewN | apply Kd.R_drew)); exact Kd.R_mono (Kd.R_far (p := ⟨go75, ((ji69) : Int).toNat, none⟩) (Kd.R_types HO_61.out GG75.out (by decide)) (fun _ hk => hk.2) (.int .i64 (Go.bits .or .i64 (rd x334000_3 (ji69)) (ji74)))) (fun _ hk => hk.1)⟩
                                have n2_ : Aside0 (Kd.R (Kd.int .i64) 3 (w81.setCell ⟨go75, ((ji69) : Int).toNat, none⟩ (.int .i64 (Go.bits .or .i64 (rd x334000_3 (ji69)) (ji74)))) w.heap.size (fun _ => True) (.slice (some ⟨go75, 0, none⟩) x334000_3.length co82) y341) := ⟨by (with_reducible repeat (first | apply Kd.R_alloc | apply Kd.R_drewN | apply Kd.R_drew)); exact HQ83.out⟩
                                have n3_ : Aside0 ((w81.setCell ⟨go75, ((ji69) : Int).toNat, none⟩ (.int .i64 (Go.bits .or .i64 (rd x334000_3 (ji69)) (ji74)))).heap[gb322]? = some (.cells #[.slice none 0 0, .int .i64 x323001_3, .slice none 0 0] 31 (0, 0))) := ⟨by (with_reducible repeat (first | refine blk_drewN ?_ _ | refine blk_drew ?_ | refine blk_alloc ?_ _)); refine blk_far ?_ (by have h_ := Kd.R_ne HO_334000.out BK322.out (by decide); intro e_; exact h_ (by rw [e_]; rfl)) _; (with_reducible repeat (first | refine blk_drewN ?_ _ | refine blk_drew ?_ | refine blk_alloc ?_ _)); exact BK322.out⟩
                                have n4_ : Aside0 ((w81.setCell ⟨go75, ((ji69) : Int).toNat, none⟩ (.int .i64 (Go.bits .or .i64 (rd x334000_3 (ji69)) (ji74)))).heap[gb333]? = some (.cells #[.slice (some ⟨go75, 0, none⟩) x334000_3.length co82, .int .i64 (wrap64 ((wrap64 (bt (rdOf ByteArray.empty t323 2) 0)) - 48)), .slice none 0 0] 31 (0, 0))) := ⟨by (with_reducible repeat (first | refine blk_drewN ?_ _ | refine blk_drew ?_ | refine blk_alloc ?_ _)); refine blk_far ?_ (by have h_ := Kd.R_ne HO_334000.out BK333.out (by decide); intro e_; exact h_ (by rw [e_]; rfl)) _; (with_reducible repeat (first | refine blk_drewN ?_ _ | refine blk_drew ?_ | refine blk_alloc ?_ _)); exact BK333.out⟩
                                have n5_ : Aside0 (Below w.heap.size w (w81.setCell ⟨go75, ((ji69) : Int).toNat, none⟩ (.int .i64 (Go.bits .or .i64 (rd x334000_3 (ji69)) (ji74))))) := ⟨by repeat (first | (with_reducible first | exact HB.out | apply below_alloc | apply pw_below_drewN | apply below_drew1 | refine below_set ?_ GB75.out | refine below_set ?_ GE322.out | refine below_set ?_ GE333.out) | exact HB.out)⟩
                                (try clear HO_4)
                                (try clear HO_61)
                                (try clear HO_334000)
                                (try clear BK322)
                                (try clear BK333)
                                (try clear HB)
                                generalize (w81.setCell ⟨go75, ((ji69) : Int).toNat, none⟩ (.int .i64 (Go.bits .or .i64 (rd x334000_3 (ji69)) (ji74)))) = w84 at n0_ n1_ n2_ n3_ n4_ n5_ ⊢
                                have HO_4 := n0_
                                have HO_61 := n1_
                                have HO_334000 := n2_
                                have BK322 := n3_
                                have BK333 := n4_
                                have HB := n5_
                                clear n0_ n1_ n2_ n3_ n4_ n5_
                                have n0_ := Aside0.mk (Kd.R_drew HO_4.out)
                                have n1_ := Aside0.mk (Kd.R_drew HO_61.out)
                                have n2_ := Aside0.mk (Kd.R_drew HO_334000.out)
                                have n3_ := Aside0.mk (blk_drew BK322.out)
                                have n4_ := Aside0.mk (blk_drew BK333.out)
                                have n5_ := Aside0.mk (below_drew1 HB.out)
                                clear HO_4
                                clear HO_61
                                clear HO_334000
                                clear BK322
                                clear BK333
                                clear HB
                                have HO_4 := n0_
                                have HO_61 := n1_
                                have HO_334000 := n2_
                                have BK322 := n3_
                                have BK333 := n4_
                                have HB := n5_
                                clear n0_ n1_ n2_ n3_ n4_ n5_
                                have p342 : 0 ≤ ((ji72) : Int) := of_decide_eq_true (by first | (with_reducible assumption) | assumption)
                                have q342 : (ji72) < (y341.length : Int) := (by have h_ : ((ji72) : Int) < ((x334000_3.length : Int) : Int) := of_decide_eq_true (by first | (with_reducible assumption) | assumption); first | (have e_ := (Kd.R_reads' HO_334000.out).1; omega) | simpa only [Ny341.out, List.length_set] using h_)
                                have ql342 : (((ji72) : Int) < ((x334000_3.length : Int) : Int)) = True := eq_true (of_decide_eq_true (by first | (with_reducible assumption) | assumption))
                                obtain ⟨ad342, e342, hx342_0⟩ := Kd.at_int (Kd.R_reads' HO_334000.out).2.2 (ji72) p342 q342
                                obtain rfl : (⟨go75, 0, none⟩ : Addr) = ad342 := (by injection e342)
                                (first | simp only [add_plain] at hx342_0 | simp only [add_at] at hx342_0 | simp only [Addr.add, Nat.zero_add] at hx342_0 | skip)
                                replace p342 := eq_true p342
                                replace q342 := eq_true q342
                                have p79 : 0 ≤ ((ji72) : Int) := of_decide_eq_true (by first | (with_reducible assumption) | assumption)
                                have q79 : ((ji72) : Int) < ((x334000_3.length : Int) : Int) := of_decide_eq_true (by first | (with_reducible assumption) | assumption)
                                obtain ⟨hx79_0, hf79_0⟩ := Kd.R_celln 0 HO_334000.out ((ji72) : Int) p79 q79
                                replace p79 := eq_true p79
                                replace q79 := eq_true q79
                                obtain ⟨gz_, cz_, ez_, _, _, clz_, hz_⟩ := Kd.R_form HO_334000.out (by have h1_ : 0 ≤ (ji72 : Int) := of_decide_eq_true (by first | (with_reducible assumption) | assumption); have h2_ : (ji72 : Int) < ((x334000_3.length : Int) : Int) := of_decide_eq_true (by first | (with_reducible assumption) | assumption); have e2_ := (Kd.R_reads' HO_334000.out).1; omega)
                                injection ez_ with ea_ _ _
                                injection ea_ with ea_
                                injection ea_ with ea_ _ _
                                subst ea_
                                clear GG75
                                have GG75 := Aside0.mk hz_
                                clear hz_
                                have HP86 := Kd.R_putn HO_334000.out ((ji72) : Int) (Go.bits .or .i64 (rd y341 (ji72)) (ji78))
                                rw [← Ny343.out] at HP86
                                have HQ86 := Aside0.mk HP86
                                clear HP86
                                refine start_ (n := 10) (S := fun w' => w'.cell? ⟨gb333, 0, none⟩ = some (.slice (some ⟨go75, 0, none⟩) x334000_3.length co82) ∧ w'.cell? ⟨gb333, 1, none⟩ = some (.int .i64 (wrap64 ((wrap64 (bt (rdOf ByteArray.empty t323 2) 0)) - 48))) ∧ w'.cell? ⟨gb333, 2, none⟩ = some (.slice none 0 0) ∧ w'.cell? ⟨go75, ((ji72)).toNat, none⟩ = some (.int .i64 (rd y341 (ji72)))) (ds := [9]) #[false, false, false, false, false, false, false, false, false, false] (by kernel_rfl) rfl rfl ⟨(blk_cell BK333.out 0).trans rfl, (blk_cell BK333.out 1).trans rfl, (blk_cell BK333.out 2).trans rfl, hx342_0⟩ (fun hHeld => ?_); refine with_tabW impl_ReadPlace.tab18 impl_ReadPlace.bits18 (fun HT_ HW_ => ?_)
                                generalize w84.drew = w85 at GG75 HO_4 HO_61 HO_334000 BK322 BK333 HB HQ83 HQ86 hf79_0 hx342_0 hx79_0 hHeld ⊢
                                refine pure_ (i := 0) (N := some 105) (v := ?_) (a' := ?_) #[true, false, false, false, false, false, false, false, false, false] rfl rfl (any_of HT_.out (by kernel_rfl)) (fun _ _ _ h => h) (Or.inl ⟨by rfl, ?_⟩) ?_ ?_
                                rotate_left
                                ·intro w'
                                 go_simp
                                 with_reducible rfl
                                rotate_left
                                ·simp only [Act.put, List.setIfInBounds_toArray, List.set_cons_zero, List.set_cons_succ, i64_w, i32_w]
                                 rfl
                                refine pure_ (i := 2) (N := some 107) (v := ?_) (a' := ?_) #[true, false, true, false, false, false, false, false, false, false] rfl rfl (any_of HT_.out (by kernel_rfl)) (fun _ _ _ h => h) (Or.inl ⟨by rfl, ?_⟩) ?_ ?_
                                rotate_left
                                ·intro w'
                                 go_simp
                                 with_reducible rfl
                                rotate_left
                                ·simp only [Act.put, List.setIfInBounds_toArray, List.set_cons_zero, List.set_cons_succ, i64_w, i32_w]
                                 rfl
                                refine pure_ (i := 5) (N := some 110) (v := ?_) (a' := ?_) #[true, false, true, false, false, true, false, false, false, false] rfl rfl (any_of HT_.out (by kernel_rfl)) (fun _ _ _ h => h) (Or.inl ⟨by rfl, ?_⟩) ?_ ?_
                                rotate_left
                                ·intro w'
                                 go_simp
                                 with_reducible rfl
                                rotate_left
                                ·simp only [Act.put, List.setIfInBounds_toArray, List.set_cons_zero, List.set_cons_succ, i64_w, i32_w]
                                 rfl
                                refine pure_ (i := 6) (N := some 111) (v := ?_) (a' := ?_) #[true, false, true, false, false, true, true, false, false, false] rfl rfl (any_of HT_.out (by kernel_rfl)) (fun _ _ _ h => h) (Or.inl ⟨by rfl, ?_⟩) ?_ ?_
                                rotate_left
                                ·intro w'
                                 go_simp
                                 with_reducible rfl
                                rotate_left
                                ·simp only [Act.put, List.setIfInBounds_toArray, List.set_cons_zero, List.set_cons_succ, i64_w, i32_w]
                                 rfl
                                refine take_ (i := 1) (N := some 106) (v := ?_) (a' := ?_) #[true, true, true, false, false, true, true, false, false, false] rfl rfl (take_ofW HT_.out HW_.out (by kernel_rfl)) (fun _ _ _ h => h) (Or.inl ⟨by rfl, ?_⟩) hHeld ?_ ?_
                                rotate_left
                                ·rintro w' ⟨s0, s1, s2, s3⟩
                                 go_simp
                                 with_reducible rfl
                                rotate_left
                                ·simp only [Act.put, List.setIfInBounds_toArray, List.set_cons_zero, List.set_cons_succ, i64_w, i32_w]
                                 rfl
                                refine pure_ (i := 3) (N := some 108) (v := ?_) (a' := ?_) #[true, true, true, true, false, true, true, false, false, false] rfl rfl (any_of HT_.out (by kernel_rfl)) (fun _ _ _ h => h) (Or.inl ⟨by rfl, ?_⟩) ?_ ?_
                                rotate_left
                                ·intro w'
                                 go_simp
                                 with_reducible rfl
                                rotate_left
                                ·simp only [Act.put, List.setIfInBounds_toArray, List.set_cons_zero, List.set_cons_succ, i64_w, i32_w]
                                 rfl
                                refine take_ (i := 4) (N := some 109) (v := ?_) (a' := ?_) #[true, true, true, true, true, true, true, false, false, false] rfl rfl (take_ofW HT_.out HW_.out (by kernel_rfl)) (fun _ _ _ h => h) (Or.inl ⟨by rfl, ?_⟩) hHeld ?_ ?_
                                rotate_left
                                ·rintro w' ⟨s0, s1, s2, s3⟩
                                 go_simp
                                 with_reducible rfl
                                rotate_left
                                ·simp only [Act.put, List.setIfInBounds_toArray, List.set_cons_zero, List.set_cons_succ, i64_w, i32_w]
                                 rfl
                                refine pure_ (i := 7) (N := some 112) (v := ?_) (a' := ?_) #[true, true, true, true, true, true, true, true, false, false] rfl rfl (any_of HT_.out (by kernel_rfl)) (fun _ _ _ h => h) (Or.inl ⟨by rfl, ?_⟩) ?_ ?_
                                rotate_left
                                ·intro w'
                                 go_simp
                                 with_reducible rfl
                                rotate_left
                                ·simp only [Act.put, List.setIfInBounds_toArray, List.set_cons_zero, List.set_cons_succ, i64_w, i32_w]
                                 rfl
                                refine pure_ (i := 8) (N := some 113) (v := ?_) (a' := ?_) #[true, true, true, true, true, true, true, true, true, false] rfl rfl (any_of HT_.out (by kernel_rfl)) (fun _ _ _ h => h) (Or.inl ⟨by rfl, ?_⟩) ?_ ?_
                                rotate_left
                                ·intro w'
                                 go_simp
                                 with_reducible rfl
                                rotate_left
                                ·simp only [Act.put, List.setIfInBounds_toArray, List.set_cons_zero, List.set_cons_succ, i64_w, i32_w]
                                 rfl
                                refine last_ (i := 9) (N := none) #[true, true, true, true, true, true, true, true, true, true] rfl rfl (one_of HT_.out (by kernel_rfl)) (by decide) (fun K hK => ?_)
                                refine skip_ (w1 := ?_) (by rfl) rfl ?_ ?_
                                rotate_left
                                ·go_simp
                                 rfl
                                refine hK.out _ _ ?_
                                clear hK K
                                refine done_ (done_of HT_.out (by kernel_rfl)) ?_
                                try go_wp2
                                go_roundg k3
                                case measure => have := HJ2.out; have := HJ17.out; have := HK3.out; omega
                                case rel => exact ⟨(wrap64 (x63_3 + 1)), (x323001_3), (y343), (.slice (some ⟨go75, 0, none⟩) x334000_3.length co82), (by first | rfl | (simp; done) | (simp [*]; done)), H', ⟨by have := HJ2.out; have := HJ17.out; have := HK3.out; omega⟩, ⟨by (with_reducible repeat (first | apply Kd.R_alloc | apply Kd.R_drewN | apply Kd.R_drew)); exact Kd.R_mono (Kd.R_far (p := ⟨go75, ((ji72) : Int).toNat, none⟩) (Kd.R_types HO_4.out GG75.out (by decide)) (fun _ hk => hk.2) (.int .i64 (Go.bits .or .i64 (rd y341 (ji72)) (ji78)))) (fun _ hk => hk.1)⟩, ⟨by (with_reducible repeat (first | apply Kd.R_alloc | apply Kd.R_drewN | apply Kd.R_drew)); exact Kd.R_mono (Kd.R_far (p := ⟨go75, ((ji72) : Int).toNat, none⟩) (Kd.R_types HO_61.out GG75.out (by decide)) (fun _ hk => hk.2) (.int .i64 (Go.bits .or .i64 (rd y341 (ji72)) (ji78)))) (fun _ hk => hk.1)⟩, ⟨by (with_reducible repeat (first | apply Kd.R_alloc | apply Kd.R_drewN | apply Kd.R_drew)); exact HQ86.out⟩, ⟨by (with_reducible repeat (first | refine blk_drewN ?_ _ | refine blk_drew ?_ | refine blk_alloc ?_ _)); refine blk_far ?_ (by have h_ := Kd.R_ne HO_334000.out BK322.out (by decide); intro e_; exact h_ (by rw [e_]; rfl)) _; (with_reducible repeat (first | refine blk_drewN ?_ _ | refine blk_drew ?_ | refine blk_alloc ?_ _)); exact BK322.out⟩, ⟨by (with_reducible repeat (first | refine blk_drewN ?_ _ | refine blk_drew ?_ | refine blk_alloc ?_ _)); refine blk_far ?_ (by have h_ := Kd.R_ne HO_334000.out BK333.out (by decide); intro e_; exact h_ (by rw [e_]; rfl)) _; (with_reducible repeat (first | refine blk_drewN ?_ _ | refine blk_drew ?_ | refine blk_alloc ?_ _)); exact BK333.out⟩, ⟨by repeat (first | (with_reducible first | exact HB.out | apply below_alloc | apply pw_below_drewN | apply below_drew1 | refine below_set ?_ GB75.out | refine below_set ?_ GE322.out | refine below_set ?_ GE333.out) | exact HB.out)⟩⟩
                               ·rw [if_neg c76] at H
                                exact absurd H (by simp)
                              ·rw [if_neg c73] at H
                               exact absurd H (by simp)
                             ·rw [if_neg c71] at H
                              exact absurd H (by simp)
                            ·rw [if_neg c70] at H
                             exact absurd H (by simp)
                       ·rw [if_neg c51] at H
                        exact absurd H (by simp)
                      ·rw [if_neg c49] at H
                       exact absurd H (by simp)
                     ·rw [if_neg c48] at H
                      have c48b0 : (((rdOf ByteArray.empty t336 x63_3).size : Int) == 2) = false := beq_eq_false_iff_ne.mpr c48
                      have c48b1 : (((rdOf ByteArray.empty t336 x63_3).size : Int) != 2) = true := bne_iff_ne.mpr c48
                      simp only [Option.some.injEq, Prod.mk.injEq] at H
                      obtain ⟨rfl, rfl, rfl, rfl⟩ := H
                      have p339 : 0 ≤ (x63_3 : Int) := of_decide_eq_true (by first | (with_reducible assumption) | assumption)
                      have q339 : x63_3 < (t336.length : Int) := of_decide_eq_true (by first | (with_reducible assumption) | assumption)
                      obtain ⟨ad339, e339, hx339_0⟩ := Kd.at_string (Kd.R_reads' HO_61.out).2.2 x63_3 p339 q339
                      cases e339
                      replace p339 := eq_true p339
                      replace q339 := eq_true q339
                      have hnb87 := NB322_333.out
                      have hnc87 := NB333_322.out
                      have hcz88_0 : wr.cell? ⟨gb322, 0, none⟩ = some (.slice none 0 0) := (blk_cell BK322.out 0).trans rfl
                      have hcz88_1 : wr.cell? ⟨gb322, 1, none⟩ = some (.int .i64 x323001_3) := (blk_cell BK322.out 1).trans rfl
                      have hcz88_2 : wr.cell? ⟨gb322, 2, none⟩ = some (.slice none 0 0) := (blk_cell BK322.out 2).trans rfl
                      have hfz88_0 := blk_frozen BK322.out 0
                      have hfz88_1 := blk_frozen BK322.out 1
                      have hfz88_2 := blk_frozen BK322.out 2
                      go_wp2
                      refine bodyPost_ret (results_ct rfl _ _ gb322 31 #[.slice none 0 0, .int .i64 0, .slice none 0 0] (0, 0) _ rfl (by (with_reducible repeat (first | refine blk_drewN ?_ _ | refine blk_drew ?_ | refine blk_alloc ?_ _)); refine blk_put (cs := #[.slice none 0 0, .int .i64 0, .slice none 0 0]) ?_ 2 _ rfl; (with_reducible repeat (first | refine blk_drewN ?_ _ | refine blk_drew ?_ | refine blk_alloc ?_ _)); refine blk_put (cs := #[.slice none 0 0, .int .i64 x323001_3, .slice none 0 0]) ?_ 1 _ rfl; (with_reducible repeat (first | refine blk_drewN ?_ _ | refine blk_drew ?_ | refine blk_alloc ?_ _)); refine blk_put (cs := #[.slice none 0 0, .int .i64 x323001_3, .slice none 0 0]) ?_ 0 _ rfl; (with_reducible repeat (first | refine blk_drewN ?_ _ | refine blk_drew ?_ | refine blk_alloc ?_ _)); exact BK322.out) Tryd.underlying31 rfl (by kernel_rfl)) rfl ?_
                      exact ⟨_, _, by first | rfl | (simp [errW_none, errW_some] <;> rfl) | (simp only [← hji23]; first | rfl | (simp [errW_none, errW_some] <;> rfl)) | (simp [*, errW_none, errW_some] <;> rfl), by first | exact Kd.R_nil _ _ _ _ _ | exact Kd.N_nil _ _ _ _ _ | exact Kd.V_nil _ _ _ _ _ | exact Kd.Q_nil _ _ _ _ _ | exact Kd.S_nil _ _ _ _ _, by first | exact Kd.R_nil _ _ _ _ _ | exact Kd.N_nil _ _ _ _ _ | exact Kd.V_nil _ _ _ _ _ | exact Kd.Q_nil _ _ _ _ _ | exact Kd.S_nil _ _ _ _ _, by repeat (first | (with_reducible first | exact HB.out | apply below_alloc | apply pw_below_drewN | apply below_drew1 | refine below_set ?_ GE322.out | refine below_set ?_ GE333.out) | exact HB.out)⟩
                    ·rw [if_neg c47] at H
                     exact absurd H (by simp)
                   ·rw [if_neg c46] at H
                    exact absurd H (by simp)
                  ·rw [if_neg c45] at H
                   have c45b0 : decide (x63_3 < (t336.length : Int)) = false := decide_eq_false c45
                   clear c45
                   have H' := Aside0.mk H
                   clear H
                   go_wp2
                   subst hji23
                   go_meet
                   case rel => exact ⟨_, (x323001_3), (x334000_3), (u334000), H', ⟨by have := HJ2.out; have := HJ17.out; have := HK3.out; first | omega | exact Nat.le_refl _⟩, ⟨by (with_reducible repeat (first | apply Kd.R_alloc | apply Kd.R_drewN | apply Kd.R_drew)); exact Kd.R_mono HO_4.out (fun _ hk => trivial)⟩, ⟨by (with_reducible repeat (first | apply Kd.R_alloc | apply Kd.R_drewN | apply Kd.R_drew)); exact HO_334000.out⟩, ⟨by (with_reducible repeat (first | refine blk_drewN ?_ _ | refine blk_drew ?_ | refine blk_alloc ?_ _)); exact BK322.out⟩, ⟨by (with_reducible repeat (first | refine blk_drewN ?_ _ | refine blk_drew ?_ | refine blk_alloc ?_ _)); exact BK333.out⟩, ⟨by repeat (first | (with_reducible first | exact HB.out | apply below_alloc | apply pw_below_drewN | apply below_drew1 | refine below_set ?_ GE322.out | refine below_set ?_ GE333.out) | exact HB.out)⟩⟩
              case rest =>
               clear HC30
               try clear p2
               try clear p3
               try clear q3
               try clear hx3
               try clear c4
               try clear c5
               try clear p5
               try clear q5
               try clear hx5
               try clear qi5
               try clear c6
               try clear p6
               try clear c7
               try clear p7
               try clear q7
               try clear hx7
               try clear hf7
               try clear c8
               try clear p33
               try clear q33
               try clear hx33
               try clear p34
               try clear q34
               try clear hx34
               try clear c45
               try clear c45b0
               try clear c46
               try clear c47
               try clear c48
               try clear c48b0
               try clear c48b1
               try clear c49
               try clear p50
               try clear q50
               try clear hx50
               try clear qi50
               try clear c51
               try clear p52
               try clear q52
               try clear hx52
               try clear qi52
               try clear c53
               try clear c53b0
               try clear c57
               try clear c57b0
               try clear c61
               try clear c61b0
               try clear p64
               try clear c65
               try clear c65b0
               try clear c67
               try clear c70
               try clear c70b0
               try clear c71
               try clear c71b0
               try clear c73
               try clear c73b0
               try clear c73b1
               try clear p75
               try clear q75
               try clear hx75
               try clear hf75
               try clear c76
               try clear c76b0
               try clear c77
               try clear c77b0
               try clear p79
               try clear q79
               try clear hx79
               try clear hf79
               try clear c87
               try clear hcz68_0
               try clear hcz68_1
               try clear hcz68_2
               try clear hcz88_0
               try clear hcz88_1
               try clear hcz88_2
               try clear hfz68_0
               try clear hfz68_1
               try clear hfz68_2
               try clear hfz88_0
               try clear hfz88_1
               try clear hfz88_2
               try clear hx339_0
               try clear hx340_0
               try clear hx342_0
               try clear hx75_0
               try clear hx79_0
               try clear p339
               try clear p340
               try clear p342
               try clear p50
               try clear p52
               try clear p75
               try clear p79
               try clear q339
               try clear q340
               try clear q342
               try clear q50
               try clear q52
               try clear q75
               try clear q79
               obtain ⟨kq, x323001_29, x334000_29, u334000, HA, HJ29, HO_4, HO_334000, BK322, BK333, HB⟩ := hcut
               cases kq with
               | zero => exact absurd HA.out (by simp [impl_ReadPlace.j3])
               | succ kj29 =>
                have H := HA.out
                clear HA
                simp only [impl_ReadPlace.j3] at H
                by_cases c89 : 3 < (t323.length : Int)
                ·rw [if_pos c89] at H
                 have c89b0 : decide (3 < (t323.length : Int)) = true := decide_eq_true c89
                 have c89b1 : decide (3 < t323.length) = true := decide_eq_true (by omega)
                 clear c89
                 have H' := Aside0.mk H
                 clear H
                 have p344 : 0 ≤ (3 : Int) := (by omega)
                 have q344 : 3 < (t323.length : Int) := of_decide_eq_true (by first | (with_reducible assumption) | assumption)
                 obtain ⟨ad344, e344, hx344_0⟩ := Kd.at_string (Kd.R_reads' HO_4.out).2.2 3 p344 q344
                 obtain rfl : ad328 = ad344 := (by injection e344)
                 (try simp only [show (3 : Int).toNat = 3 from rfl, Nat.reduceMul, Nat.reduceEqDiff, Go.Addr.add, ↓reduceIte] at hx344_0)
                 have qi344 : (3 < t323.length) = True := eq_true (by omega)
                 (try rw [show ((3 : Int)).toNat = 3 from rfl] at hx344_0)
                 replace p344 := eq_true p344
                 replace q344 := eq_true q344
                 go_wp2
                 go_loopg [119] kj29 (fun kq v119 w' => ∃ (x119_4 : Int) (x334002_4 : List Int) (u334002 : Value), v119 = .int .i64 x119_4 ∧ Aside0 (impl_ReadPlace.l1 kq a0 t323 ((rdOf ByteArray.empty t323 3).size : Int) x119_4 x334000_29 (wrap64 ((wrap64 (bt (rdOf ByteArray.empty t323 2) 0)) - 48)) x334002_4 = some (r1, r2, r3, r4)) ∧ Aside0 (kq ≤ kj29) ∧ Aside0 (Kd.R Kd.string 9 w' w.heap.size (fun _ => True) (.slice (some ad328) t323.length co19) t323) ∧ Aside0 (Kd.R (Kd.int .i64) 3 w' w.heap.size (fun k_ => some k_ ≠ (u334002 : Value).ownBlock) u334000 x334000_29) ∧ Aside0 (Kd.R (Kd.int .i64) 3 w' w.heap.size (fun k_ => some k_ ≠ (u334000 : Value).ownBlock) u334002 x334002_4) ∧ Aside0 (w'.heap[gb322]? = some (.cells #[(.slice none 0 0), .int .i64 x323001_29, (.slice none 0 0)] 31 (0, 0))) ∧ Aside0 (w'.heap[gb333]? = some (.cells #[u334000, .int .i64 (wrap64 ((wrap64 (bt (rdOf ByteArray.empty t323 2) 0)) - 48)), u334002] 31 (0, 0))) ∧ Aside0 (Below w.heap.size w w'))
                 case atStart => exact ⟨(0), (([] : List Int)), (.slice none 0 0), (by first | rfl | (simp; done) | (simp [*]; done)), H', ⟨Nat.le_refl _⟩, ⟨by (with_reducible repeat (first | apply Kd.R_alloc | apply Kd.R_drewN | apply Kd.R_drew)); exact HO_4.out⟩, ⟨by (with_reducible repeat (first | apply Kd.R_alloc | apply Kd.R_drewN | apply Kd.R_drew)); exact Kd.R_mono HO_334000.out (fun _ hk => (by simp [Value.ownBlock]))⟩, ⟨by first | exact Kd.R_nil _ _ _ _ _ | exact Kd.N_nil _ _ _ _ _ | exact Kd.V_nil _ _ _ _ _ | exact Kd.Q_nil _ _ _ _ _ | exact Kd.S_nil _ _ _ _ _⟩, ⟨by (with_reducible repeat (first | refine blk_drewN ?_ _ | refine blk_drew ?_ | refine blk_alloc ?_ _)); exact BK322.out⟩, ⟨by (with_reducible repeat (first | refine blk_drewN ?_ _ | refine blk_drew ?_ | refine blk_alloc ?_ _)); exact BK333.out⟩, ⟨by repeat (first | (with_reducible first | exact HB.out | apply below_alloc | apply pw_below_drewN | apply below_drew1 | refine below_set ?_ GE322.out | refine below_set ?_ GE333.out) | exact HB.out)⟩⟩
                 case round =>
                  clear H'
                  try clear p2
                  try clear p3
                  try clear q3
                  try clear hx3
                  try clear qi3
                  try clear c4
                  try clear c5
                  try clear p5
                  try clear q5
                  try clear hx5
                  try clear qi5
                  try clear c6
                  try clear p6
                  try clear c7
                  try clear p7
                  try clear q7
                  try clear hx7
                  try clear hf7
                  try clear c8
                  try clear p33
                  try clear q33
                  try clear hx33
                  try clear p34
                  try clear q34
                  try clear hx34
                  try clear qi34
                  try clear c45
                  try clear c45b0
                  try clear c46
                  try clear c47
                  try clear c48
                  try clear c48b0
                  try clear c48b1
                  try clear c49
                  try clear p50
                  try clear q50
                  try clear hx50
                  try clear qi50
                  try clear c51
                  try clear p52
                  try clear q52
                  try clear hx52
                  try clear qi52
                  try clear c53
                  try clear c53b0
                  try clear c57
                  try clear c57b0
                  try clear c61
                  try clear c61b0
                  try clear p64
                  try clear c65
                  try clear c65b0
                  try clear c67
                  try clear c70
                  try clear c70b0
                  try clear c71
                  try clear c71b0
                  try clear c73
                  try clear c73b0
                  try clear c73b1
                  try clear p75
                  try clear q75
                  try clear hx75
                  try clear hf75
                  try clear c76
                  try clear c76b0
                  try clear c77
                  try clear c77b0
                  try clear p79
                  try clear q79
                  try clear hx79
                  try clear hf79
                  try clear c87
                  try clear c89
                  try clear c89b0
                  try clear c89b1
                  try clear hcz68_0
                  try clear hcz68_1
                  try clear hcz68_2
                  try clear hcz88_0
                  try clear hcz88_1
                  try clear hcz88_2
                  try clear hfz68_0
                  try clear hfz68_1
                  try clear hfz68_2
                  try clear hfz88_0
                  try clear hfz88_1
                  try clear hfz88_2
                  try clear hx339_0
                  try clear hx340_0
                  try clear hx342_0
                  try clear hx344_0
                  try clear hx75_0
                  try clear hx79_0
                  try clear p2
                  try clear p3
                  try clear p33
                  try clear p339
                  try clear p34
                  try clear p340
                  try clear p342
                  try clear p344
                  try clear p5
                  try clear p50
                  try clear p52
                  try clear p6
                  try clear p64
                  try clear p7
                  try clear p75
                  try clear p79
                  try clear q3
                  try clear q33
                  try clear q339
                  try clear q34
                  try clear q340
                  try clear q342
                  try clear q344
                  try clear q5
                  try clear q50
                  try clear q52
                  try clear q7
                  try clear q75
                  try clear q79
                  obtain ⟨x119_4, x334002_4, u334002, rfl, HA, HK4, HO_4, HO_334000, HO_334002, BK322, BK333, HB⟩ := hrel
                  cases gk with
                  | zero => exact absurd HA.out (by simp [impl_ReadPlace.l1])
                  | succ k4 =>
                   have H := HA.out
                   clear HA
                   simp only [impl_ReadPlace.l1] at H
                   by_cases c90 : x119_4 < ((rdOf ByteArray.empty t323 3).size : Int)
                   ·rw [if_pos c90] at H
                    have c90b0 : decide (x119_4 < ((rdOf ByteArray.empty t323 3).size : Int)) = true := decide_eq_true c90
                    clear c90
                    by_cases c91 : 3 < (t323.length : Int)
                    ·rw [if_pos c91] at H
                     have c91b0 : decide (3 < (t323.length : Int)) = true := decide_eq_true c91
                     have c91b1 : decide (3 < t323.length) = true := decide_eq_true (by omega)
                     clear c91
                     by_cases c92 : 0 ≤ x119_4
                     ·rw [if_pos c92] at H
                      have c92b0 : decide (0 ≤ x119_4) = true := decide_eq_true c92
                      clear c92
                      by_cases c93 : x119_4 < ((rdOf ByteArray.empty t323 3).size : Int)
                      ·rw [if_pos c93] at H
                       have c93b0 : decide (x119_4 < ((rdOf ByteArray.empty t323 3).size : Int)) = true := decide_eq_true c93
                       clear c93
                       by_cases c95 : x334002_4.length < 17592186044416
                       ·rw [if_pos c95] at H
                        have LMc95 := Aside0.mk c95
                        clear c95
                        obtain ⟨y346, hy346⟩ : ∃ y_ : List Int, y_ = (x334002_4 ++ [wrap64 ((wrap64 (bt (rdOf ByteArray.empty t323 3) x119_4)) - 48)]) := ⟨_, rfl⟩
                        replace H : (impl_ReadPlace.l1 k4 a0 t323 ((rdOf ByteArray.empty t323 3).size : Int) (wrap64 (x119_4 + 1)) x334000_29 (wrap64 ((wrap64 (bt (rdOf ByteArray.empty t323 2) 0)) - 48)) y346) = some (r1, r2, r3, r4) := by first | (rw [hy346]; with_reducible exact H) | (have H2_ := (Option.bind_some _ _).symm.trans H; rw [hy346]; with_reducible exact H2_) | (have H2_ := (Option.bind_some _ _).symm.trans H; with_reducible exact H2_) | with_reducible exact H | (rw [hy346]; exact H) | exact H
                        have Ny346 := Aside0.mk hy346
                        clear hy346
                        have H' := Aside0.mk H
                        clear H
                        try go_wp2
                        have n0_ := Aside0.mk (Kd.R_drew HO_4.out)
                        have n1_ := Aside0.mk (Kd.R_drew HO_334000.out)
                        have n2_ := Aside0.mk (Kd.R_drew HO_334002.out)
                        have n3_ := Aside0.mk (blk_drew BK322.out)
                        have n4_ := Aside0.mk (blk_drew BK333.out)
                        have n5_ := Aside0.mk (below_drew1 HB.out)
                        clear HO_4
                        clear HO_334000
                        clear HO_334002
                        clear BK322
                        clear BK333
                        clear HB
                        have HO_4 := n0_
                        have HO_334000 := n1_
                        have HO_334002 := n2_
                        have BK322 := n3_
                        have BK333 := n4_
                        have HB := n5_
                        clear n0_ n1_ n2_ n3_ n4_ n5_
                        have p345 : 0 ≤ (3 : Int) := (by omega)
                        have q345 : 3 < (t323.length : Int) := of_decide_eq_true (by first | (with_reducible assumption) | assumption)
                        obtain ⟨ad345, e345, hx345_0⟩ := Kd.at_string (Kd.R_reads' HO_4.out).2.2 3 p345 q345
                        obtain rfl : ad328 = ad345 := (by injection e345)
                        (try simp only [show (3 : Int).toNat = 3 from rfl, Nat.reduceMul, Nat.reduceEqDiff, Go.Addr.add, ↓reduceIte] at hx345_0)
                        have qi345 : (3 < t323.length) = True := eq_true (by omega)
                        (try rw [show ((3 : Int)).toNat = 3 from rfl] at hx345_0)
                        replace p345 := eq_true p345
                        replace q345 := eq_true q345
                        have p94 : 0 ≤ (x119_4 : Int) := of_decide_eq_true (by first | (with_reducible assumption) | assumption)
                        have q94 : x119_4 < ((rdOf ByteArray.empty t323 3).size : Int) := of_decide_eq_true (by first | (with_reducible assumption) | assumption)
                        have hx94 := bt_at (rdOf ByteArray.empty t323 3) x119_4
                        replace p94 := eq_true p94
                        replace q94 := eq_true q94
                        refine start_ (n := 13) (S := fun w' => w'.cell? ⟨gb333, 0, none⟩ = some (u334000) ∧ w'.cell? ⟨gb333, 1, none⟩ = some (.int .i64 (wrap64 ((wrap64 (bt (rdOf ByteArray.empty t323 2) 0)) - 48))) ∧ w'.cell? ⟨gb333, 2, none⟩ = some (u334002) ∧ w'.cell? ⟨ad328.block, ad328.off + 3, none⟩ = some (.string (rdOf ByteArray.empty t323 3))) (ds := [10, 12]) #[false, false, false, false, false, false, false, false, false, false, false, false, false] (by kernel_rfl) rfl rfl ⟨(blk_cell BK333.out 0).trans rfl, (blk_cell BK333.out 1).trans rfl, (blk_cell BK333.out 2).trans rfl, hx345_0⟩ (fun hHeld => ?_); refine with_tabW impl_ReadPlace.tab23 impl_ReadPlace.bits23 (fun HT_ HW_ => ?_)
                        generalize wr.drew = w96 at HO_4 HO_334000 HO_334002 BK322 BK333 HB hx345_0 hHeld ⊢
                        refine pure_ (i := 0) (N := some 122) (v := ?_) (a' := ?_) #[true, false, false, false, false, false, false, false, false, false, false, false, false] rfl rfl (any_of HT_.out (by kernel_rfl)) (fun _ _ _ h => h) (Or.inl ⟨by rfl, ?_⟩) ?_ ?_
                        rotate_left
                        ·intro w'
                         go_simp
                         with_reducible rfl
                        rotate_left
                        ·simp only [Act.put, List.setIfInBounds_toArray, List.set_cons_zero, List.set_cons_succ, i64_w, i32_w]
                         rfl
                        refine pure_ (i := 2) (N := some 124) (v := ?_) (a' := ?_) #[true, false, true, false, false, false, false, false, false, false, false, false, false] rfl rfl (any_of HT_.out (by kernel_rfl)) (fun _ _ _ h => h) (Or.inl ⟨by rfl, ?_⟩) ?_ ?_
                        rotate_left
                        ·intro w'
                         go_simp
                         with_reducible rfl
                        rotate_left
                        ·simp only [Act.put, List.setIfInBounds_toArray, List.set_cons_zero, List.set_cons_succ, i64_w, i32_w]
                         rfl
                        refine pure_ (i := 3) (N := some 125) (v := ?_) (a' := ?_) #[true, false, true, true, false, false, false, false, false, false, false, false, false] rfl rfl (any_of HT_.out (by kernel_rfl)) (fun _ _ _ h => h) (Or.inl ⟨by rfl, ?_⟩) ?_ ?_
                        rotate_left
                        ·intro w'
                         go_simp
                         with_reducible rfl
                        rotate_left
                        ·simp only [Act.put, List.setIfInBounds_toArray, List.set_cons_zero, List.set_cons_succ, i64_w, i32_w]
                         rfl
                        refine pure_ (i := 5) (N := some 127) (v := ?_) (a' := ?_) #[true, false, true, true, false, true, false, false, false, false, false, false, false] rfl rfl (any_of HT_.out (by kernel_rfl)) (fun _ _ _ h => h) (Or.inl ⟨by rfl, ?_⟩) ?_ ?_
                        rotate_left
                        ·intro w'
                         go_simp
                         with_reducible rfl
                        rotate_left
                        ·simp only [Act.put, List.setIfInBounds_toArray, List.set_cons_zero, List.set_cons_succ, i64_w, i32_w]
                         rfl
                        refine take_ (i := 1) (N := some 123) (v := ?_) (a' := ?_) #[true, true, true, true, false, true, false, false, false, false, false, false, false] rfl rfl (take_ofW HT_.out HW_.out (by kernel_rfl)) (fun _ _ _ h => h) (Or.inl ⟨by rfl, ?_⟩) hHeld ?_ ?_
                        rotate_left
                        ·rintro w' ⟨s0, s1, s2, s3⟩
                         go_simp
                         with_reducible rfl
                        rotate_left
                        ·simp only [Act.put, List.setIfInBounds_toArray, List.set_cons_zero, List.set_cons_succ, i64_w, i32_w]
                         rfl
                        refine take_ (i := 4) (N := some 126) (v := ?_) (a' := ?_) #[true, true, true, true, true, true, false, false, false, false, false, false, false] rfl rfl (take_ofW HT_.out HW_.out (by kernel_rfl)) (fun _ _ _ h => h) (Or.inl ⟨by rfl, ?_⟩) hHeld ?_ ?_
                        rotate_left
                        ·rintro w' ⟨s0, s1, s2, s3⟩
                         go_simp
                         with_reducible rfl
                        rotate_left
                        ·simp only [Act.put, List.setIfInBounds_toArray, List.set_cons_zero, List.set_cons_succ, i64_w, i32_w]
                         rfl
                        refine take_ (i := 6) (N := some 128) (v := ?_) (a' := ?_) #[true, true, true, true, true, true, true, false, false, false, false, false, false] rfl rfl (take_ofW HT_.out HW_.out (by kernel_rfl)) (fun _ _ _ h => h) (Or.inl ⟨by rfl, ?_⟩) hHeld ?_ ?_
                        rotate_left
                        ·rintro w' ⟨s0, s1, s2, s3⟩
                         go_simp
                         with_reducible rfl
                        rotate_left
                        ·simp only [Act.put, List.setIfInBounds_toArray, List.set_cons_zero, List.set_cons_succ, i64_w, i32_w]
                         rfl
                        refine pure_ (i := 7) (N := some 129) (v := ?_) (a' := ?_) #[true, true, true, true, true, true, true, true, false, false, false, false, false] rfl rfl (any_of HT_.out (by kernel_rfl)) (fun _ _ _ h => h) (Or.inl ⟨by rfl, ?_⟩) ?_ ?_
                        rotate_left
                        ·intro w'
                         go_simp
                         with_reducible rfl
                        rotate_left
                        ·simp only [Act.put, List.setIfInBounds_toArray, List.set_cons_zero, List.set_cons_succ, i64_w, i32_w]
                         rfl
                        refine pure_ (i := 8) (N := some 130) (v := ?_) (a' := ?_) #[true, true, true, true, true, true, true, true, true, false, false, false, false] rfl rfl (any_of HT_.out (by kernel_rfl)) (fun _ _ _ h => h) (Or.inl ⟨by rfl, ?_⟩) ?_ ?_
                        rotate_left
                        ·intro w'
                         go_simp
                         with_reducible rfl
                        rotate_left
                        ·simp only [Act.put, List.setIfInBounds_toArray, List.set_cons_zero, List.set_cons_succ, i64_w, i32_w]
                         rfl
                        refine one_ (i := 9) (N := some 131) #[true, true, true, true, true, true, true, true, true, true, false, false, false] rfl rfl (one_of HT_.out (by kernel_rfl)) (by decide) (fun K hK => ?_)
                        refine value_ (w1 := ?_) (v := ?_) (by rfl) rfl ?_ ?_
                        rotate_left 2
                        ·go_simp
                         constructor
                         ·rfl
                         ·rfl
                        refine hK.out _ _ ⟨(blk_cell (blk_alloc BK333.out _) 0).trans rfl, (blk_cell (blk_alloc BK333.out _) 1).trans rfl, (blk_cell (blk_alloc BK333.out _) 2).trans rfl, (World.cell?_alloc_lt _ _ _ (World.block_lt_of_cell? _ _ (hHeld.2.2.2))).trans (hHeld.2.2.2)⟩ (fun hHeld => ?_)
                        clear hK K
                        refine norm_ (a' := ?_) ?_ ?_
                        rotate_left
                        ·show Act.put _ (some 131) _ = _
                         simp only [Act.put, List.setIfInBounds_toArray, List.set_cons_zero, List.set_cons_succ, i64_w, i32_w]
                         rfl
                        refine last_ (i := 10) (N := some 132) #[true, true, true, true, true, true, true, true, true, true, true, false, false] rfl rfl (one_of HT_.out (by kernel_rfl)) (by decide) (fun K hK => ?_)
                        refine Kd.R_append_step (Kd.int .i64) (w0 := w) w.heap.size (by rfl) (.tmp 123) (.tmp 131) 22 3 (.int .i64 0) 8 rfl Tryd.underlying22 info3 rfl (by decide) (by omega) u334002 x334002_4 (wrap64 ((wrap64 (bt (rdOf ByteArray.empty t323 3) x119_4)) - 48)) [.int .i64 (wrap64 ((wrap64 (bt (rdOf ByteArray.empty t323 3) x119_4)) - 48))] (fun k_ => some k_ ≠ (u334000 : Value).ownBlock) (fun _ => False) rfl rfl ?aP (fun _ hk => hk.elim) ?aF ?aO ?aB ?aS ?aL ?_
                        (case aP => exact rfl)
                        (case aB => exact (by repeat (first | (with_reducible first | exact HB.out | apply below_alloc | apply pw_below_drewN | apply below_drew1 | refine below_set ?_ GE322.out | refine below_set ?_ GE333.out) | exact HB.out)))
                        (case aF => exact (fun k_ hk => Kd.fresh' (Kd.R_lt (by (with_reducible repeat (first | apply Kd.R_alloc | apply Kd.R_drewN | apply Kd.R_drew)); exact HO_334000.out)) k_ hk))
                        (case aO => exact (by (with_reducible repeat (first | apply Kd.R_alloc | apply Kd.R_drewN | apply Kd.R_drew)); exact HO_334002.out))
                        (case aS => exact (below_size (by repeat (first | (with_reducible first | exact HB.out | apply below_alloc | apply pw_below_drewN | apply below_drew1 | refine below_set ?_ GE322.out | refine below_set ?_ GE333.out) | exact HB.out))))
                        (case aL => have := LMc95.out; omega)
                        intro v347 w97 ho hb hg hat
                        rw [← Ny346.out] at ho
                        have n0_ := Aside0.mk (Kd.R_over' (by (with_reducible repeat (first | apply Kd.R_alloc | apply Kd.R_drewN | apply Kd.R_drew)); exact HO_4.out) (Kd.R_typed (by (with_reducible repeat (first | apply Kd.R_alloc | apply Kd.R_drewN | apply Kd.R_drew)); exact HO_334002.out)) (by decide) hg)
                        have n1_ := Aside0.mk (Kd.R_after (ok := (fun _ => True)) (by (with_reducible repeat (first | apply Kd.R_alloc | apply Kd.R_drewN | apply Kd.R_drew)); exact Kd.R_mono HO_334000.out (fun _ hk => ⟨trivial, hk⟩)) hg hat)
                        have n2_ := Aside0.mk (blk_grown (g := gb322) (o := .cells #[.slice none 0 0, .int .i64 x323001_29, .slice none 0 0] 31 (0, 0)) (by (with_reducible repeat (first | refine blk_drewN ?_ _ | refine blk_drew ?_ | refine blk_alloc ?_ _)); exact BK322.out) hg (Kd.R_ne HO_334002.out BK322.out (by decide)))
                        have n3_ := Aside0.mk (blk_grown (g := gb333) (o := .cells #[u334000, .int .i64 (wrap64 ((wrap64 (bt (rdOf ByteArray.empty t323 2) 0)) - 48)), u334002] 31 (0, 0)) (by (with_reducible repeat (first | refine blk_drewN ?_ _ | refine blk_drew ?_ | refine blk_alloc ?_ _)); exact BK333.out) hg (Kd.R_ne HO_334002.out BK333.out (by decide)))
                        have n4_ := Aside0.mk (hb)
                        have n5_ := Aside0.mk (ho)
                        clear HO_4
                        clear HO_334000
                        clear BK322
                        clear BK333
                        clear HB
                        clear HO_334002
                        have HO_4 := n0_
                        have HO_334000 := n1_
                        have BK322 := n2_
                        have BK333 := n3_
                        have HB := n4_
                        have HO348 := n5_
                        clear n0_ n1_ n2_ n3_ n4_ n5_
                        clear ho hb hg hat
                        obtain ⟨Ao98, co98, eo98⟩ := Kd.R_slice HO348.out
                        (first | subst eo98 | (injection eo98 with f1_ f2_ f3_; have f4_ := f1_.symm; have f5_ := f3_.symm; clear f1_ f2_ f3_; subst f4_; subst f5_))
                        refine hK.out _ _ ?_
                        clear hK K
                        refine norm_ (a' := ?_) ?_ ?_
                        rotate_left
                        ·show Act.put _ (some 132) _ = _
                         simp only [Act.put, List.setIfInBounds_toArray, List.set_cons_zero, List.set_cons_succ, i64_w, i32_w]
                         rfl
                        refine pure_ (i := 11) (N := some 133) (v := ?_) (a' := ?_) #[true, true, true, true, true, true, true, true, true, true, true, true, false] rfl rfl (any_of HT_.out (by kernel_rfl)) (fun _ _ _ h => h) (Or.inl ⟨by rfl, ?_⟩) ?_ ?_
                        rotate_left
                        ·intro w'
                         go_simp
                         with_reducible rfl
                        rotate_left
                        ·simp only [Act.put, List.setIfInBounds_toArray, List.set_cons_zero, List.set_cons_succ, i64_w, i32_w]
                         rfl
                        refine last_ (i := 12) (N := none) #[true, true, true, true, true, true, true, true, true, true, true, true, true] rfl rfl (one_of HT_.out (by kernel_rfl)) (by decide) (fun K hK => ?_)
                        have hs99 : w97.cell? ⟨gb333, 2, none⟩ = some (u334002) := (blk_cell BK333.out 2).trans rfl
                        have hfs99 := blk_frozen BK333.out 2
                        have hns99_0 := NB322_333.out
                        have hms99_0 := NB333_322.out
                        refine skip_ (w1 := ?_) (by rfl) rfl ?_ ?_
                        rotate_left
                        ·go_simp
                         rfl
                        refine hK.out _ _ ?_
                        clear hK K
                        refine done_ (done_of HT_.out (by kernel_rfl)) ?_
                        try go_wp2
                        go_roundg k4
                        case measure => have := HJ2.out; have := HJ17.out; have := HJ29.out; have := HK4.out; omega
                        case rel => exact ⟨(wrap64 (x119_4 + 1)), (y346), (.slice Ao98 y346.length co98), (by first | rfl | (simp; done) | (simp [*]; done)), H', ⟨by have := HJ2.out; have := HJ17.out; have := HJ29.out; have := HK4.out; omega⟩, ⟨by (with_reducible repeat (first | apply Kd.R_alloc | apply Kd.R_drewN | apply Kd.R_drew)); exact Kd.R_mono (Kd.R_far (p := ⟨gb333, 2, none⟩) (Kd.R_types HO_4.out BK333.out (by decide)) (fun _ hk => hk.2) (.slice Ao98 y346.length co98)) (fun _ hk => trivial)⟩, ⟨by (with_reducible repeat (first | apply Kd.R_alloc | apply Kd.R_drewN | apply Kd.R_drew)); exact Kd.R_mono (Kd.R_far (p := ⟨gb333, 2, none⟩) (Kd.R_types HO_334000.out BK333.out (by decide)) (fun _ hk => hk.2) (.slice Ao98 y346.length co98)) (fun _ hk => hk.1.2)⟩, ⟨by (with_reducible repeat (first | apply Kd.R_alloc | apply Kd.R_drewN | apply Kd.R_drew)); exact Kd.R_mono (Kd.R_far (p := ⟨gb333, 2, none⟩) (Kd.R_types HO348.out BK333.out (by decide)) (fun _ hk => hk.2) (.slice Ao98 y346.length co98)) (fun _ hk => hk.1)⟩, ⟨by (with_reducible repeat (first | refine blk_drewN ?_ _ | refine blk_drew ?_ | refine blk_alloc ?_ _)); refine blk_far ?_ NB322_333.out _; (with_reducible repeat (first | refine blk_drewN ?_ _ | refine blk_drew ?_ | refine blk_alloc ?_ _)); exact BK322.out⟩, ⟨by (with_reducible repeat (first | refine blk_drewN ?_ _ | refine blk_drew ?_ | refine blk_alloc ?_ _)); refine blk_put (cs := #[u334000, .int .i64 (wrap64 ((wrap64 (bt (rdOf ByteArray.empty t323 2) 0)) - 48)), u334002]) ?_ 2 _ rfl; (with_reducible repeat (first | refine blk_drewN ?_ _ | refine blk_drew ?_ | refine blk_alloc ?_ _)); exact BK333.out⟩, ⟨by repeat (first | (with_reducible first | exact HB.out | apply below_alloc | apply pw_below_drewN | apply below_drew1 | refine below_set ?_ GE322.out | refine below_set ?_ GE333.out) | exact HB.out)⟩⟩
                       ·rw [if_neg c95] at H
                        exact absurd H (by simp)
                      ·rw [if_neg c93] at H
                       exact absurd H (by simp)
                     ·rw [if_neg c92] at H
                      exact absurd H (by simp)
                    ·rw [if_neg c91] at H
                     exact absurd H (by simp)
                   ·rw [if_neg c90] at H
                    have c90b0 : decide (x119_4 < ((rdOf ByteArray.empty t323 3).size : Int)) = false := decide_eq_false c90
                    clear c90
                    replace H := Option.bind_eq_some_iff.mp H
                    obtain ⟨t349, A1000, H⟩ := H
                    replace H : (if t349.toList = a0.toList then (some (x334000_29, (wrap64 ((wrap64 (bt (rdOf ByteArray.empty t323 2) 0)) - 48)), x334002_4, true)) else (some (([] : List Int), 0, ([] : List Int), false))) = some (r1, r2, r3, r4) := H
                    have A100 := Aside0.mk A1000
                    clear A1000
                    by_cases c101 : t349.toList = a0.toList
                    ·rw [if_pos c101] at H
                     have c101b0 : (t349.toList == a0.toList) = true := beq_iff_eq.mpr c101
                     have c101b1 : (t349.toList != a0.toList) = false := bne_eq_false_iff_eq.mpr c101
                     clear c101
                     simp only [Option.some.injEq, Prod.mk.injEq] at H
                     obtain ⟨rfl, rfl, rfl, rfl⟩ := H
                     have hnb102 := NB333_322.out
                     have hnc102 := NB322_333.out
                     have hcz103_0 : wr.cell? ⟨gb333, 0, none⟩ = some (u334000) := (blk_cell BK333.out 0).trans rfl
                     have hcz103_1 : wr.cell? ⟨gb333, 1, none⟩ = some (.int .i64 (wrap64 ((wrap64 (bt (rdOf ByteArray.empty t323 2) 0)) - 48))) := (blk_cell BK333.out 1).trans rfl
                     have hcz103_2 : wr.cell? ⟨gb333, 2, none⟩ = some (u334002) := (blk_cell BK333.out 2).trans rfl
                     have hfz103_0 := blk_frozen BK333.out 0
                     have hfz103_1 := blk_frozen BK333.out 1
                     have hfz103_2 := blk_frozen BK333.out 2
                     obtain ⟨Ao104, co104, eo104⟩ := Kd.R_slice HO_334000.out
                     subst eo104
                     obtain ⟨Ao105, co105, eo105⟩ := Kd.R_slice HO_334002.out
                     subst eo105
                     go_wp2_with (first | ((with_reducible refine gate_callee (f := 15) rfl ?_); refine goesL_ (some 136) rfl rfl Tryd.func15 (by kernel_rfl) rfl #[.agg #[.slice Ao104 x334000_29.length co104, .int .i64 (wrap64 ((wrap64 (bt (rdOf ByteArray.empty t323 2) 0)) - 48)), .slice Ao105 x334002_4.length co105]] rfl (by (try simp only [List.map_toArray, List.map_cons, List.map_nil]); first | done | rfl | (simp only [List.length_drop, List.length_take]; rfl)) ?_; (with_reducible refine (impl_PlaceText.calls k4 _ _ x334000_29 (wrap64 ((wrap64 (bt (rdOf ByteArray.empty t323 2) 0)) - 48)) _ _ x334002_4 t349 _ ?side1 ?side2 ?side3 ?side4 A100.out).mono ?_); (case side1 => repeat (first | exact (Kd.R_reads' HO_334000.out).2.2 | (with_reducible refine Kd.C_alloc ?_ _) | (with_reducible refine Kd.C_drewN ?_ _) | (with_reducible refine Kd.C_drew ?_))); (case side2 => exact (Kd.R_reads' HO_334000.out).2.1); (case side3 => repeat (first | exact (Kd.R_reads' HO_334002.out).2.2 | (with_reducible refine Kd.C_alloc ?_ _) | (with_reducible refine Kd.C_drewN ?_ _) | (with_reducible refine Kd.C_drew ?_))); (case side4 => exact (Kd.R_reads' HO_334002.out).2.1); rintro e w106 ⟨rfl, hb⟩; refine ⟨_, rfl, ?_⟩; have n0_ := Aside0.mk (Kd.R_below (by (with_reducible repeat (first | apply Kd.R_alloc | apply Kd.R_drewN | apply Kd.R_drew)); exact HO_4.out) hb); have n1_ := Aside0.mk (Kd.R_below (by (with_reducible repeat (first | apply Kd.R_alloc | apply Kd.R_drewN | apply Kd.R_drew)); exact HO_334000.out) hb); have n2_ := Aside0.mk (Kd.R_below (by (with_reducible repeat (first | apply Kd.R_alloc | apply Kd.R_drewN | apply Kd.R_drew)); exact HO_334002.out) hb); have n3_ := Aside0.mk (blk_below (g := gb322) (o := .cells #[.slice none 0 0, .int .i64 x323001_29, .slice none 0 0] 31 (0, 0)) (by (with_reducible repeat (first | refine blk_drewN ?_ _ | refine blk_drew ?_ | refine blk_alloc ?_ _)); exact BK322.out) hb); have n4_ := Aside0.mk (blk_below (g := gb333) (o := .cells #[.slice Ao104 x334000_29.length co104, .int .i64 (wrap64 ((wrap64 (bt (rdOf ByteArray.empty t323 2) 0)) - 48)), .slice Ao105 x334002_4.length co105] 31 (0, 0)) (by (with_reducible repeat (first | refine blk_drewN ?_ _ | refine blk_drew ?_ | refine blk_alloc ?_ _)); exact BK333.out) hb); have n5_ := Aside0.mk (below_step (by repeat (first | (with_reducible first | exact HB.out | apply below_alloc | apply pw_below_drewN | apply below_drew1 | refine below_set ?_ GE322.out | refine below_set ?_ GE333.out) | exact HB.out)) hb); clear HO_4; clear HO_334000; clear HO_334002; clear BK322; clear BK333; clear HB; have HO_4 := n0_; have HO_334000 := n1_; have HO_334002 := n2_; have BK322 := n3_; have BK333 := n4_; have HB := n5_; clear n0_ n1_ n2_ n3_ n4_ n5_; (try clear hb); (try clear hb2); (try clear hk); (try clear hi); have hcz107_0 : w106.cell? ⟨gb333, 0, none⟩ = some (.slice Ao104 x334000_29.length co104) := (blk_cell BK333.out 0).trans rfl; have hcz107_1 : w106.cell? ⟨gb333, 1, none⟩ = some (.int .i64 (wrap64 ((wrap64 (bt (rdOf ByteArray.empty t323 2) 0)) - 48))) := (blk_cell BK333.out 1).trans rfl; have hcz107_2 : w106.cell? ⟨gb333, 2, none⟩ = some (.slice Ao105 x334002_4.length co105) := (blk_cell BK333.out 2).trans rfl; have hfz107_0 := blk_frozen BK333.out 0; have hfz107_1 := blk_frozen BK333.out 1; have hfz107_2 := blk_frozen BK333.out 2; have hcz108_0 : w106.cell? ⟨gb322, 0, none⟩ = some (.slice none 0 0) := (blk_cell BK322.out 0).trans rfl; have hcz108_1 : w106.cell? ⟨gb322, 1, none⟩ = some (.int .i64 x323001_29) := (blk_cell BK322.out 1).trans rfl; have hcz108_2 : w106.cell? ⟨gb322, 2, none⟩ = some (.slice none 0 0) := (blk_cell BK322.out 2).trans rfl; have hfz108_0 := blk_frozen BK322.out 0; have hfz108_1 := blk_frozen BK322.out 1; have hfz108_2 := blk_frozen BK322.out 2))
                     refine bodyPost_ret (results_ct rfl _ _ gb322 31 #[.slice Ao104 x334000_29.length co104, .int .i64 (wrap64 ((wrap64 (bt (rdOf ByteArray.empty t323 2) 0)) - 48)), .slice Ao105 x334002_4.length co105] (0, 0) _ rfl (by (with_reducible repeat (first | refine blk_drewN ?_ _ | refine blk_drew ?_ | refine blk_alloc ?_ _)); refine blk_put (cs := #[.slice Ao104 x334000_29.length co104, .int .i64 (wrap64 ((wrap64 (bt (rdOf ByteArray.empty t323 2) 0)) - 48)), .slice none 0 0]) ?_ 2 _ rfl; (with_reducible repeat (first | refine blk_drewN ?_ _ | refine blk_drew ?_ | refine blk_alloc ?_ _)); refine blk_put (cs := #[.slice Ao104 x334000_29.length co104, .int .i64 x323001_29, .slice none 0 0]) ?_ 1 _ rfl; (with_reducible repeat (first | refine blk_drewN ?_ _ | refine blk_drew ?_ | refine blk_alloc ?_ _)); refine blk_put (cs := #[.slice none 0 0, .int .i64 x323001_29, .slice none 0 0]) ?_ 0 _ rfl; (with_reducible repeat (first | refine blk_drewN ?_ _ | refine blk_drew ?_ | refine blk_alloc ?_ _)); exact BK322.out) Tryd.underlying31 rfl (by kernel_rfl)) rfl ?_
                     exact ⟨_, _, by first | rfl | (simp [errW_none, errW_some] <;> rfl) | (simp only [← hji23]; first | rfl | (simp [errW_none, errW_some] <;> rfl)) | (simp [*, errW_none, errW_some] <;> rfl), by (with_reducible repeat (first | apply Kd.R_alloc | apply Kd.R_drewN | apply Kd.R_drew)); exact Kd.R_mono (Kd.R_far (p := ⟨gb322, 2, none⟩) (Kd.R_far (p := ⟨gb322, 1, none⟩) (Kd.R_far (p := ⟨gb322, 0, none⟩) (Kd.R_types HO_334000.out BK322.out (by decide)) (fun _ hk => hk.2) (.slice Ao104 x334000_29.length co104)) (fun _ hk => hk.2) (.int .i64 (wrap64 ((wrap64 (bt (rdOf ByteArray.empty t323 2) 0)) - 48)))) (fun _ hk => hk.2) (.slice Ao105 x334002_4.length co105)) (fun _ hk => hk.1), by (with_reducible repeat (first | apply Kd.R_alloc | apply Kd.R_drewN | apply Kd.R_drew)); exact Kd.R_mono (Kd.R_far (p := ⟨gb322, 2, none⟩) (Kd.R_far (p := ⟨gb322, 1, none⟩) (Kd.R_far (p := ⟨gb322, 0, none⟩) (Kd.R_types HO_334002.out BK322.out (by decide)) (fun _ hk => hk.2) (.slice Ao104 x334000_29.length co104)) (fun _ hk => hk.2) (.int .i64 (wrap64 ((wrap64 (bt (rdOf ByteArray.empty t323 2) 0)) - 48)))) (fun _ hk => hk.2) (.slice Ao105 x334002_4.length co105)) (fun _ hk => hk.1), by repeat (first | (with_reducible first | exact HB.out | apply below_alloc | apply pw_below_drewN | apply below_drew1 | refine below_set ?_ GE322.out | refine below_set ?_ GE333.out) | exact HB.out)⟩
                    ·rw [if_neg c101] at H
                     have c101b0 : (t349.toList == a0.toList) = false := beq_eq_false_iff_ne.mpr c101
                     have c101b1 : (t349.toList != a0.toList) = true := bne_iff_ne.mpr c101
                     simp only [Option.some.injEq, Prod.mk.injEq] at H
                     obtain ⟨rfl, rfl, rfl, rfl⟩ := H
                     have hnb109 := NB333_322.out
                     have hnc109 := NB322_333.out
                     have hcz110_0 : wr.cell? ⟨gb333, 0, none⟩ = some (u334000) := (blk_cell BK333.out 0).trans rfl
                     have hcz110_1 : wr.cell? ⟨gb333, 1, none⟩ = some (.int .i64 (wrap64 ((wrap64 (bt (rdOf ByteArray.empty t323 2) 0)) - 48))) := (blk_cell BK333.out 1).trans rfl
                     have hcz110_2 : wr.cell? ⟨gb333, 2, none⟩ = some (u334002) := (blk_cell BK333.out 2).trans rfl
                     have hfz110_0 := blk_frozen BK333.out 0
                     have hfz110_1 := blk_frozen BK333.out 1
                     have hfz110_2 := blk_frozen BK333.out 2
                     obtain ⟨Ao111, co111, eo111⟩ := Kd.R_slice HO_334000.out
                     subst eo111
                     obtain ⟨Ao112, co112, eo112⟩ := Kd.R_slice HO_334002.out
                     subst eo112
                     go_wp2_with (first | ((with_reducible refine gate_callee (f := 15) rfl ?_); refine goesL_ (some 136) rfl rfl Tryd.func15 (by kernel_rfl) rfl #[.agg #[.slice Ao111 x334000_29.length co111, .int .i64 (wrap64 ((wrap64 (bt (rdOf ByteArray.empty t323 2) 0)) - 48)), .slice Ao112 x334002_4.length co112]] rfl (by (try simp only [List.map_toArray, List.map_cons, List.map_nil]); first | done | rfl | (simp only [List.length_drop, List.length_take]; rfl)) ?_; (with_reducible refine (impl_PlaceText.calls k4 _ _ x334000_29 (wrap64 ((wrap64 (bt (rdOf ByteArray.empty t323 2) 0)) - 48)) _ _ x334002_4 t349 _ ?side1 ?side2 ?side3 ?side4 A100.out).mono ?_); (case side1 => repeat (first | exact (Kd.R_reads' HO_334000.out).2.2 | (with_reducible refine Kd.C_alloc ?_ _) | (with_reducible refine Kd.C_drewN ?_ _) | (with_reducible refine Kd.C_drew ?_))); (case side2 => exact (Kd.R_reads' HO_334000.out).2.1); (case side3 => repeat (first | exact (Kd.R_reads' HO_334002.out).2.2 | (with_reducible refine Kd.C_alloc ?_ _) | (with_reducible refine Kd.C_drewN ?_ _) | (with_reducible refine Kd.C_drew ?_))); (case side4 => exact (Kd.R_reads' HO_334002.out).2.1); rintro e w113 ⟨rfl, hb⟩; refine ⟨_, rfl, ?_⟩; have n0_ := Aside0.mk (Kd.R_below (by (with_reducible repeat (first | apply Kd.R_alloc | apply Kd.R_drewN | apply Kd.R_drew)); exact HO_4.out) hb); have n1_ := Aside0.mk (Kd.R_below (by (with_reducible repeat (first | apply Kd.R_alloc | apply Kd.R_drewN | apply Kd.R_drew)); exact HO_334000.out) hb); have n2_ := Aside0.mk (Kd.R_below (by (with_reducible repeat (first | apply Kd.R_alloc | apply Kd.R_drewN | apply Kd.R_drew)); exact HO_334002.out) hb); have n3_ := Aside0.mk (blk_below (g := gb322) (o := .cells #[.slice none 0 0, .int .i64 x323001_29, .slice none 0 0] 31 (0, 0)) (by (with_reducible repeat (first | refine blk_drewN ?_ _ | refine blk_drew ?_ | refine blk_alloc ?_ _)); exact BK322.out) hb); have n4_ := Aside0.mk (blk_below (g := gb333) (o := .cells #[.slice Ao111 x334000_29.length co111, .int .i64 (wrap64 ((wrap64 (bt (rdOf ByteArray.empty t323 2) 0)) - 48)), .slice Ao112 x334002_4.length co112] 31 (0, 0)) (by (with_reducible repeat (first | refine blk_drewN ?_ _ | refine blk_drew ?_ | refine blk_alloc ?_ _)); exact BK333.out) hb); have n5_ := Aside0.mk (below_step (by repeat (first | (with_reducible first | exact HB.out | apply below_alloc | apply pw_below_drewN | apply below_drew1 | refine below_set ?_ GE322.out | refine below_set ?_ GE333.out) | exact HB.out)) hb); clear HO_4; clear HO_334000; clear HO_334002; clear BK322; clear BK333; clear HB; have HO_4 := n0_; have HO_334000 := n1_; have HO_334002 := n2_; have BK322 := n3_; have BK333 := n4_; have HB := n5_; clear n0_ n1_ n2_ n3_ n4_ n5_; (try clear hb); (try clear hb2); (try clear hk); (try clear hi); have hcz114_0 : w113.cell? ⟨gb322, 0, none⟩ = some (.slice none 0 0) := (blk_cell BK322.out 0).trans rfl; have hcz114_1 : w113.cell? ⟨gb322, 1, none⟩ = some (.int .i64 x323001_29) := (blk_cell BK322.out 1).trans rfl; have hcz114_2 : w113.cell? ⟨gb322, 2, none⟩ = some (.slice none 0 0) := (blk_cell BK322.out 2).trans rfl; have hfz114_0 := blk_frozen BK322.out 0; have hfz114_1 := blk_frozen BK322.out 1; have hfz114_2 := blk_frozen BK322.out 2))
                     refine bodyPost_ret (results_ct rfl _ _ gb322 31 #[.slice none 0 0, .int .i64 0, .slice none 0 0] (0, 0) _ rfl (by (with_reducible repeat (first | refine blk_drewN ?_ _ | refine blk_drew ?_ | refine blk_alloc ?_ _)); refine blk_put (cs := #[.slice none 0 0, .int .i64 0, .slice none 0 0]) ?_ 2 _ rfl; (with_reducible repeat (first | refine blk_drewN ?_ _ | refine blk_drew ?_ | refine blk_alloc ?_ _)); refine blk_put (cs := #[.slice none 0 0, .int .i64 x323001_29, .slice none 0 0]) ?_ 1 _ rfl; (with_reducible repeat (first | refine blk_drewN ?_ _ | refine blk_drew ?_ | refine blk_alloc ?_ _)); refine blk_put (cs := #[.slice none 0 0, .int .i64 x323001_29, .slice none 0 0]) ?_ 0 _ rfl; (with_reducible repeat (first | refine blk_drewN ?_ _ | refine blk_drew ?_ | refine blk_alloc ?_ _)); exact BK322.out) Tryd.underlying31 rfl (by kernel_rfl)) rfl ?_
                     exact ⟨_, _, by first | rfl | (simp [errW_none, errW_some] <;> rfl) | (simp only [← hji23]; first | rfl | (simp [errW_none, errW_some] <;> rfl)) | (simp [*, errW_none, errW_some] <;> rfl), by first | exact Kd.R_nil _ _ _ _ _ | exact Kd.N_nil _ _ _ _ _ | exact Kd.V_nil _ _ _ _ _ | exact Kd.Q_nil _ _ _ _ _ | exact Kd.S_nil _ _ _ _ _, by first | exact Kd.R_nil _ _ _ _ _ | exact Kd.N_nil _ _ _ _ _ | exact Kd.V_nil _ _ _ _ _ | exact Kd.Q_nil _ _ _ _ _ | exact Kd.S_nil _ _ _ _ _, by repeat (first | (with_reducible first | exact HB.out | apply below_alloc | apply pw_below_drewN | apply below_drew1 | refine below_set ?_ GE322.out | refine below_set ?_ GE333.out) | exact HB.out)⟩
                ·rw [if_neg c89] at H
                 exact absurd H (by simp)
             ·rw [if_neg c29] at H
              exact absurd H (by simp)
            ·rw [if_neg c27] at H
             exact absurd H (by simp)
           ·rw [if_neg c26] at H
            exact absurd H (by simp)
          ·rw [if_neg c25] at H
           exact absurd H (by simp)
         ·rw [if_neg c24] at H
          exact absurd H (by simp)
     ·rw [if_neg c16] at H
      exact absurd H (by simp)
    ·rw [if_neg c15] at H
     exact absurd H (by simp)

end Go.Proofs.YtkfnehgmgebcbaaDoor.PFnPlaceText
