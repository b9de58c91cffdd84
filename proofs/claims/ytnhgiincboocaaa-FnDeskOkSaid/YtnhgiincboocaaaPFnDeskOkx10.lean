-- written by wip/tools/pstub.py (my own program, over the kit's print)
import Derived.Test.YtnhgiincboocaaaPFnDeskOkx0
import Derived.Test.YtnhgiincboocaaaPFnDeskOkx3
import Derived.Test.YtnhgiincboocaaaPFnDeskOkx9
namespace Go.Proofs.Ytnhgiincboocaaa.PFnDeskOk
open Go.RowKit Go.Proofs.YtnhgiincboocaaaW.PrintWords Go.Proofs.YtnhgiincboocaaaW.PrintLast Go.Proofs.YtnhgiincboocaaaW.PrintMore
attribute [local go_sem] max2_int min2_int max_two min_two max_three min_three max_four min_four   -- for this text's walks alone
set_option linter.unusedVariables false
set_option linter.unusedSimpArgs false

/-! ### spec_PlaceText: function 75 -/
mutual
def spec_PlaceText.l0 : Nat → ByteArray → ByteArray → Int → List Int → Int → List Int → Option (ByteArray)
 | 0, _, _, _, _, _, _ => none
 | k + 1, x3, x4, x5, x341000, x341001, x341002 => if x5 < (x341000.length : Int) then (if 0 ≤ x5 then (if x5 < (x341002.length : Int) then ((spec_l1Number.f k (rd x341002 x5)).bind fun t343 => (if x4.size + t343.size ≤ 9223372036854775807 then (spec_PlaceText.l1 k x3 (x4 ++ t343) x5 (wrap64 (x5 + 1)) x341000 x341001 x341002) else (none))) else (none)) else (none)) else (if x3.toList = ([] : List UInt8) then ((spec_l1Number.f k (x341000.length : Int)).bind fun t349 => (if t349.size + 1 ≤ 9223372036854775807 then (if (t349 ++ (⟨#[32]⟩ : ByteArray)).size + 1 ≤ 9223372036854775807 then (if ((t349 ++ (⟨#[32]⟩ : ByteArray)) ++ (⟨#[46]⟩ : ByteArray)).size + 1 ≤ 9223372036854775807 then ((spec_l1Number.f k x341001).bind fun t350 => (if (((t349 ++ (⟨#[32]⟩ : ByteArray)) ++ (⟨#[46]⟩ : ByteArray)) ++ (⟨#[32]⟩ : ByteArray)).size + t350.size ≤ 9223372036854775807 then (if ((((t349 ++ (⟨#[32]⟩ : ByteArray)) ++ (⟨#[46]⟩ : ByteArray)) ++ (⟨#[32]⟩ : ByteArray)) ++ t350).size + 1 ≤ 9223372036854775807 then (if (((((t349 ++ (⟨#[32]⟩ : ByteArray)) ++ (⟨#[46]⟩ : ByteArray)) ++ (⟨#[32]⟩ : ByteArray)) ++ t350) ++ (⟨#[32]⟩ : ByteArray)).size + x4.size ≤ 9223372036854775807 then (some ((((((t349 ++ (⟨#[32]⟩ : ByteArray)) ++ (⟨#[46]⟩ : ByteArray)) ++ (⟨#[32]⟩ : ByteArray)) ++ t350) ++ (⟨#[32]⟩ : ByteArray)) ++ x4)) else (none)) else (none)) else (none))) else (none)) else (none)) else (none))) else ((spec_l1Number.f k (x341000.length : Int)).bind fun t351 => (if t351.size + 1 ≤ 9223372036854775807 then (if (t351 ++ (⟨#[32]⟩ : ByteArray)).size + x3.size ≤ 9223372036854775807 then (if ((t351 ++ (⟨#[32]⟩ : ByteArray)) ++ x3).size + 1 ≤ 9223372036854775807 then ((spec_l1Number.f k x341001).bind fun t352 => (if (((t351 ++ (⟨#[32]⟩ : ByteArray)) ++ x3) ++ (⟨#[32]⟩ : ByteArray)).size + t352.size ≤ 9223372036854775807 then (if ((((t351 ++ (⟨#[32]⟩ : ByteArray)) ++ x3) ++ (⟨#[32]⟩ : ByteArray)) ++ t352).size + 1 ≤ 9223372036854775807 then (if (((((t351 ++ (⟨#[32]⟩ : ByteArray)) ++ x3) ++ (⟨#[32]⟩ : ByteArray)) ++ t352) ++ (⟨#[32]⟩ : ByteArray)).size + x4.size ≤ 9223372036854775807 then (some ((((((t351 ++ (⟨#[32]⟩ : ByteArray)) ++ x3) ++ (⟨#[32]⟩ : ByteArray)) ++ t352) ++ (⟨#[32]⟩ : ByteArray)) ++ x4)) else (none)) else (none)) else (none))) else (none)) else (none)) else (none))))
def spec_PlaceText.l1 : Nat → ByteArray → ByteArray → Int → Int → List Int → Int → List Int → Option (ByteArray)
 | 0, _, _, _, _, _, _, _ => none
 | k + 1, x3, x4, x5, x6, x341000, x341001, x341002 => if x6 < (x341000.length : Int) then (if 0 ≤ x5 then (if x5 < (x341000.length : Int) then (if 0 ≤ x6 then (if (Int.tmod (shr .i64 (rd x341000 x5) x6) 2) = 0 then (spec_PlaceText.l1 k x3 x4 x5 (wrap64 (x6 + 1)) x341000 x341001 x341002) else (if x3.toList = ([] : List UInt8) then ((spec_l1Number.f k x5).bind fun t345 => (if x3.size + t345.size ≤ 9223372036854775807 then ((spec_l1Number.f k x6).bind fun t346 => (if (x3 ++ t345).size + t346.size ≤ 9223372036854775807 then (spec_PlaceText.l1 k ((x3 ++ t345) ++ t346) x4 x5 (wrap64 (x6 + 1)) x341000 x341001 x341002) else (none))) else (none))) else (if x3.size + 1 ≤ 9223372036854775807 then ((spec_l1Number.f k x5).bind fun t347 => (if (x3 ++ (⟨#[44]⟩ : ByteArray)).size + t347.size ≤ 9223372036854775807 then ((spec_l1Number.f k x6).bind fun t348 => (if ((x3 ++ (⟨#[44]⟩ : ByteArray)) ++ t347).size + t348.size ≤ 9223372036854775807 then (spec_PlaceText.l1 k (((x3 ++ (⟨#[44]⟩ : ByteArray)) ++ t347) ++ t348) x4 x5 (wrap64 (x6 + 1)) x341000 x341001 x341002) else (none))) else (none))) else (none)))) else (none)) else (none)) else (none)) else (spec_PlaceText.l0 k x3 x4 (wrap64 (x5 + 1)) x341000 x341001 x341002)
end
def spec_PlaceText.f (k : Nat) (l0_0 : List Int) (a0_1 : Int) (l0_2 : List Int) : Option (ByteArray) := (spec_PlaceOk.f k l0_0 a0_1 l0_2).bind fun t341 => (if t341 = true then (spec_PlaceText.l0 k (⟨#[]⟩ : ByteArray) (⟨#[]⟩ : ByteArray) 0 l0_0 a0_1 l0_2) else (some (⟨#[]⟩ : ByteArray)))
theorem spec_PlaceText.mono_l : ∀ k, (∀ y0 y1 y2 y3 y4 y5, LeO (spec_PlaceText.l0 k y0 y1 y2 y3 y4 y5) (spec_PlaceText.l0 (k + 1) y0 y1 y2 y3 y4 y5)) ∧ (∀ y0 y1 y2 y3 y4 y5 y6, LeO (spec_PlaceText.l1 k y0 y1 y2 y3 y4 y5 y6) (spec_PlaceText.l1 (k + 1) y0 y1 y2 y3 y4 y5 y6))
 | 0 => ⟨fun _ _ _ _ _ _ r h => by simp [spec_PlaceText.l0] at h, fun _ _ _ _ _ _ _ r h => by simp [spec_PlaceText.l1] at h⟩
 | k + 1 => by
  obtain ⟨ih0, ih1⟩ := spec_PlaceText.mono_l k
  refine ⟨?_, ?_⟩
  ·intro y0 y1 y2 y3 y4 y5
   unfold spec_PlaceText.l0
   repeat' first | (with_reducible first | exact ih0 _ _ _ _ _ _ | exact ih1 _ _ _ _ _ _ _ | exact spec_PlaceOk.mono _ _ _ _ | exact spec_l1Number.mono _ _ | exact LeO.refl _ | exact LeO.none _ | refine LeO.ite ?_ ?_ | refine LeO.bind ?_ (fun _ => ?_)) | exact LeO.none _ | refine LeO.ite ?_ ?_ | refine LeO.bind ?_ (fun _ => ?_)
  ·intro y0 y1 y2 y3 y4 y5 y6
   unfold spec_PlaceText.l1
   repeat' first | (with_reducible first | exact ih0 _ _ _ _ _ _ | exact ih1 _ _ _ _ _ _ _ | exact spec_PlaceOk.mono _ _ _ _ | exact spec_l1Number.mono _ _ | exact LeO.refl _ | exact LeO.none _ | refine LeO.ite ?_ ?_ | refine LeO.bind ?_ (fun _ => ?_)) | exact LeO.none _ | refine LeO.ite ?_ ?_ | refine LeO.bind ?_ (fun _ => ?_)
theorem spec_PlaceText.mono : ∀ a0 a1 a2 k, LeO (spec_PlaceText.f k a0 a1 a2) (spec_PlaceText.f (k + 1) a0 a1 a2) := by
 intro a0 a1 a2 k
 obtain ⟨ih0, ih1⟩ := spec_PlaceText.mono_l k
 unfold spec_PlaceText.f
 repeat' first
   | (with_reducible exact ih0 _ _ _ _ _ _)
   | (with_reducible exact ih1 _ _ _ _ _ _ _)
   | (with_reducible exact spec_PlaceOk.mono _ _ _ _)
   | (with_reducible exact spec_l1Number.mono _ _)
   | (with_reducible exact LeO.refl _)
   | (with_reducible exact LeO.none _)
   | (with_reducible refine LeO.ite ?_ ?_)
   | (with_reducible refine LeO.bind ?_ (fun _ => ?_))
   | exact ih0 _ _ _ _ _ _
   | exact ih1 _ _ _ _ _ _ _
   | exact spec_PlaceOk.mono _ _ _ _
   | exact spec_l1Number.mono _ _
   | exact LeO.none _
   | refine LeO.ite ?_ ?_
   | refine LeO.bind ?_ (fun _ => ?_)
def spec_PlaceText.T18 : Bool × List (List Nat × List Nat) := (true, [([], []), ([0], [0]), ([1], [1]), ([2], [2]), ([3], [3]), ([], []), ([4, 5], [4, 5]), ([6], [6]), ([], []), ([8], [8]), ([9, 3], [9]), ([7, 10], [7, 10]), ([11], [11]), ([], []), ([12, 13], [12, 13]), ([14, 10, 0, 1, 2, 3, 4, 5, 6, 7, 8, 9, 10, 11, 12, 13, 14], [14])])
def spec_PlaceText.B18 : List Nat := [0, 1, 3, 7, 15, 0, 63, 127, 0, 256, 783, 2047, 4095, 0, 16383, 32767]
theorem spec_PlaceText.tab18 : rtab .any (opsOf Try.f75 18) = spec_PlaceText.T18 := by kernel_rfl
theorem spec_PlaceText.bits18 : waitsOk spec_PlaceText.T18.2 spec_PlaceText.B18 = true := by kernel_rfl
set_option maxHeartbeats 8000000 in
set_option maxRecDepth 100000 in
theorem spec_PlaceText.calls (k : Nat) (A0_0 : Option Addr) (c0_0 : Nat) (l0_0 : List Int) (a0_1 : Int) (A0_2 : Option Addr) (c0_2 : Nat) (l0_2 : List Int) (r : ByteArray) (w : World) (hr0_0 : Kd.C (Kd.int .i64) w A0_0 l0_0.length l0_0) (hc0_0 : l0_0.length ≤ c0_0) (hr0_2 : Kd.C (Kd.int .i64) w A0_2 l0_2.length l0_2) (hc0_2 : l0_2.length ≤ c0_2) (h : spec_PlaceText.f k l0_0 a0_1 l0_2 = some r) :
  Calls Try.prog 75 #[.agg #[.slice A0_0 l0_0.length c0_0, .int .i64 a0_1, .slice A0_2 l0_2.length c0_2]] w fun e w' => e = .returned (.string r) ∧ Below w.heap.size w w' := by
 have hu26 := Try.underlying26
 have HR0_0 := Aside0.mk hr0_0
 have HC0_0 := Aside0.mk hc0_0
 clear hr0_0 hc0_0
 have HR0_2 := Aside0.mk hr0_2
 have HC0_2 := Aside0.mk hc0_2
 clear hr0_2 hc0_2
 have HB := Aside0.mk (Below.refl w.heap.size w)
 have H : ((spec_PlaceOk.f k l0_0 a0_1 l0_2).bind fun t341 => (if t341 = true then (spec_PlaceText.l0 k (⟨#[]⟩ : ByteArray) (⟨#[]⟩ : ByteArray) 0 l0_0 a0_1 l0_2) else (some (⟨#[]⟩ : ByteArray)))) = some r := h
 clear h
 replace H := Option.bind_eq_some_iff.mp H
 obtain ⟨t341, A20, H⟩ := H
 replace H : (if t341 = true then (spec_PlaceText.l0 k (⟨#[]⟩ : ByteArray) (⟨#[]⟩ : ByteArray) 0 l0_0 a0_1 l0_2) else (some (⟨#[]⟩ : ByteArray))) = some r := H
 have A2 := Aside0.mk A20
 clear A20
 by_cases c3 : t341 = true
 ·subst c3
  have H1 : (spec_PlaceText.l0 k (⟨#[]⟩ : ByteArray) (⟨#[]⟩ : ByteArray) 0 l0_0 a0_1 l0_2) = some r := by rw [if_pos rfl] at H; exact H
  clear H
  have H := H1
  clear H1
  have H' := Aside0.mk H
  clear H
  go_enter Try.func75, Try.ntmps75
  go_wp2_with (first | ((with_reducible refine gate_dst (N := 1) rfl ?_); refine box_event ?hg (N := 1) ?hd (cs := #[.slice A0_0 l0_0.length c0_0, .int .i64 a0_1, .slice A0_2 l0_2.length c0_2]) (t := 26) ?hr ?_; (case hd => rfl); (case hg => rfl); (case hr => first | (go_simp; done) | (go_simp; rfl)); intro gb340 hg w4 hbox hb; have n0_ := Aside0.mk (below_step (hbq HB.out) hb); have n1_ := Aside0.mk (hbox); have n2_ := Aside0.mk ((by rw [hg]; exact (below_size (hbq HB.out)) : w.heap.size ≤ gb340)); have n3_ := Aside0.mk ((by rw [hg]; exact (below_size (hbq HB.out)) : w.heap.size ≤ gb340)); clear HB; revert n0_ n1_ n2_ n3_; intro HB BK340 GW340 GE340; clear hb hbox hg; have hcz5_0 : w4.cell? ⟨gb340, 0, none⟩ = some (.slice A0_0 l0_0.length c0_0) := (blk_cell BK340.out 0).trans rfl; have hcz5_1 : w4.cell? ⟨gb340, 1, none⟩ = some (.int .i64 a0_1) := (blk_cell BK340.out 1).trans rfl; have hcz5_2 : w4.cell? ⟨gb340, 2, none⟩ = some (.slice A0_2 l0_2.length c0_2) := (blk_cell BK340.out 2).trans rfl; have hfz5_0 := blk_frozen BK340.out 0; have hfz5_1 := blk_frozen BK340.out 1; have hfz5_2 := blk_frozen BK340.out 2) | ((with_reducible refine gate_callee (f := 33) rfl ?_); refine goesL_ (some 8) rfl rfl Try.func33 (by kernel_rfl) rfl #[.agg #[.slice A0_0 l0_0.length c0_0, .int .i64 a0_1, .slice A0_2 l0_2.length c0_2]] rfl mpq ?_; (with_reducible refine (spec_PlaceOk.calls k _ _ l0_0 a0_1 _ _ l0_2 true _ ?side1 ?side2 ?side3 ?side4 A2.out).mono ?_); (case side1 => exact coq (Kd.C_below HR0_0.out HB.out)); (case side2 => exact HC0_0.out); (case side3 => exact coq (Kd.C_below HR0_2.out HB.out)); (case side4 => exact HC0_2.out); rintro e w6 ⟨rfl, hb⟩; refine ⟨_, rfl, ?_⟩; have n0_ := Aside0.mk (blk_below (bkq BK340.out) hb); have n1_ := Aside0.mk (below_step (hbqa HB.out) hb); clear BK340 HB; revert n0_ n1_; intro BK340 HB; (try clear hb); (try clear hb2); (try clear hk); (try clear hi)))
  go_loopg [3, 4, 5] k (fun kq v3 v4 v5 w' => ∃ (x3_1 : ByteArray) (x4_1 : ByteArray) (x5_1 : Int), v3 = .string x3_1 ∧ v4 = .string x4_1 ∧ v5 = .int .i64 x5_1 ∧ Aside0 (spec_PlaceText.l0 kq x3_1 x4_1 x5_1 l0_0 a0_1 l0_2 = some r) ∧ Aside0 (kq ≤ k) ∧ Aside0 (w'.heap[gb340]? = some (.cells #[(.slice A0_0 l0_0.length c0_0), .int .i64 a0_1, (.slice A0_2 l0_2.length c0_2)] 26 (0, 0))) ∧ Aside0 (Below w.heap.size w w'))
  case atStart => exact ⟨((⟨#[]⟩ : ByteArray)), ((⟨#[]⟩ : ByteArray)), (0), rfq, rfq, rfq, H', ⟨Nat.le_refl _⟩, ⟨by refine bkq ?_; exact BK340.out⟩, ⟨hbqa HB.out⟩⟩
  case round =>
   clear H'
   try clear p2
   try clear c3
   try clear hcz5_0
   try clear hcz5_1
   try clear hcz5_2
   try clear hfz5_0
   try clear hfz5_1
   try clear hfz5_2
   obtain ⟨x3_1, x4_1, x5_1, rfl, rfl, rfl, HA, HK1, BK340, HB⟩ := hrel
   cases gk with
   | zero => exact absurd HA.out (by simp [spec_PlaceText.l0])
   | succ k1 =>
    have H := HA.out
    clear HA
    simp only [spec_PlaceText.l0] at H
    by_cases c7 : x5_1 < (l0_0.length : Int)
    ·rw [if_pos c7] at H
     have c7b0 : decide (x5_1 < (l0_0.length : Int)) = true := decide_eq_true c7
     clear c7
     by_cases c8 : 0 ≤ x5_1
     ·rw [if_pos c8] at H
      have c8b0 : decide (0 ≤ x5_1) = true := decide_eq_true c8
      clear c8
      by_cases c9 : x5_1 < (l0_2.length : Int)
      ·rw [if_pos c9] at H
       have c9b0 : decide (x5_1 < (l0_2.length : Int)) = true := decide_eq_true c9
       clear c9
       replace H := Option.bind_eq_some_iff.mp H
       obtain ⟨t343, A100, H⟩ := H
       replace H : (if x4_1.size + t343.size ≤ 9223372036854775807 then (spec_PlaceText.l1 k1 x3_1 (x4_1 ++ t343) x5_1 (wrap64 (x5_1 + 1)) l0_0 a0_1 l0_2) else (none)) = some r := H
       have A10 := Aside0.mk A100
       clear A100
       by_cases c11 : x4_1.size + t343.size ≤ 9223372036854775807
       ·rw [if_pos c11] at H
        have c11b0 := eq_true c11
        have c11b1 : decide (x4_1.size + t343.size ≤ 9223372036854775807) = true := decide_eq_true c11
        try have c11b2 : (9223372036854775807 < x4_1.size + t343.size) = False := eq_false (Nat.not_lt.2 c11)
        have H' := Aside0.mk H
        clear H
        have hcz12_0 : wr.cell? ⟨gb340, 0, none⟩ = some (.slice A0_0 l0_0.length c0_0) := (blk_cell BK340.out 0).trans rfl
        have hcz12_1 : wr.cell? ⟨gb340, 1, none⟩ = some (.int .i64 a0_1) := (blk_cell BK340.out 1).trans rfl
        have hcz12_2 : wr.cell? ⟨gb340, 2, none⟩ = some (.slice A0_2 l0_2.length c0_2) := (blk_cell BK340.out 2).trans rfl
        have hfz12_0 := blk_frozen BK340.out 0
        have hfz12_1 := blk_frozen BK340.out 1
        have hfz12_2 := blk_frozen BK340.out 2
        have p342 : 0 ≤ (x5_1 : Int) := od
        have q342 : x5_1 < (l0_2.length : Int) := od
        obtain ⟨ad342, e342, hx342_0⟩ := Kd.at_int HR0_2.out x5_1 p342 q342
        cases e342
        replace hx342_0 := (HB.out.cell (World.block_lt_of_cell? w _ hx342_0)).trans hx342_0
        replace p342 := eq_true p342
        replace q342 := eq_true q342
        go_wp2_with (first | ((with_reducible refine gate_callee (f := 79) rfl ?_); refine goesL_ (some 23) rfl rfl Try.func79 (by kernel_rfl) rfl #[.int .i64 (rd l0_2 x5_1)] rfl mpq ?_; (with_reducible refine (spec_l1Number.calls k1 (rd l0_2 x5_1) t343 _ A10.out).mono ?_); rintro e w13 ⟨rfl, hb⟩; refine ⟨_, rfl, ?_⟩; have n0_ := Aside0.mk (blk_below (bkq BK340.out) hb); have n1_ := Aside0.mk (below_step (hbqa HB.out) hb); clear BK340 HB; revert n0_ n1_; intro BK340 HB; (try clear hb); (try clear hb2); (try clear hk); (try clear hi)))
        go_loopg [3, 6] k1 (fun kq v3 v6 w' => ∃ (x3_2 : ByteArray) (x6_2 : Int), v3 = .string x3_2 ∧ v6 = .int .i64 x6_2 ∧ Aside0 (spec_PlaceText.l1 kq x3_2 (x4_1 ++ t343) x5_1 x6_2 l0_0 a0_1 l0_2 = some r) ∧ Aside0 (kq ≤ k1) ∧ Aside0 (w'.heap[gb340]? = some (.cells #[(.slice A0_0 l0_0.length c0_0), .int .i64 a0_1, (.slice (some ad342) l0_2.length c0_2)] 26 (0, 0))) ∧ Aside0 (Below w.heap.size w w'))
        case atStart => exact ⟨(x3_1), (wrap64 (x5_1 + 1)), rfq, rfq, H', ⟨Nat.le_refl _⟩, ⟨by refine bkq ?_; exact BK340.out⟩, ⟨hbqa HB.out⟩⟩
        case round =>
         clear H'
         try clear c1
         try clear p2
         try clear c3
         try clear p3
         try clear q3
         try clear hx3
         try clear p6
         try clear c7
         try clear c7b0
         try clear c8
         try clear c8b0
         try clear c9
         try clear c9b0
         try clear c11
         try clear c11b0
         try clear c11b1
         try clear c11b2
         try clear hcz12_0
         try clear hcz12_1
         try clear hcz12_2
         try clear hcz5_0
         try clear hcz5_1
         try clear hcz5_2
         try clear hfz12_0
         try clear hfz12_1
         try clear hfz12_2
         try clear hfz5_0
         try clear hfz5_1
         try clear hfz5_2
         try clear hx342_0
         try clear p2
         try clear p342
         try clear q342
         obtain ⟨x3_2, x6_2, rfl, rfl, HA, HK2, BK340, HB⟩ := hrel
         cases gk with
         | zero => exact absurd HA.out (by simp [spec_PlaceText.l1])
         | succ k2 =>
          have H := HA.out
          clear HA
          simp only [spec_PlaceText.l1] at H
          by_cases c14 : x6_2 < (l0_0.length : Int)
          ·rw [if_pos c14] at H
           have c14b0 : decide (x6_2 < (l0_0.length : Int)) = true := decide_eq_true c14
           clear c14
           by_cases c15 : 0 ≤ x5_1
           ·rw [if_pos c15] at H
            have c15b0 : decide (0 ≤ x5_1) = true := decide_eq_true c15
            clear c15
            by_cases c16 : x5_1 < (l0_0.length : Int)
            ·rw [if_pos c16] at H
             have c16b0 : decide (x5_1 < (l0_0.length : Int)) = true := decide_eq_true c16
             clear c16
             by_cases c17 : 0 ≤ x6_2
             ·rw [if_pos c17] at H
              have c17b0 := eq_true c17
              have c17b1 : decide (0 ≤ x6_2) = true := decide_eq_true c17
              clear c17
              obtain ⟨ji18, hji18⟩ : ∃ j_ : Int, (shr .i64 (rd l0_0 x5_1) x6_2) = j_ := ⟨_, rfl⟩
              replace H : (if (Int.tmod (ji18) 2) = 0 then (spec_PlaceText.l1 k2 x3_2 (x4_1 ++ t343) x5_1 (wrap64 (x6_2 + 1)) l0_0 a0_1 l0_2) else (if x3_2.toList = ([] : List UInt8) then ((spec_l1Number.f k2 x5_1).bind fun t345 => (if x3_2.size + t345.size ≤ 9223372036854775807 then ((spec_l1Number.f k2 x6_2).bind fun t346 => (if (x3_2 ++ t345).size + t346.size ≤ 9223372036854775807 then (spec_PlaceText.l1 k2 ((x3_2 ++ t345) ++ t346) (x4_1 ++ t343) x5_1 (wrap64 (x6_2 + 1)) l0_0 a0_1 l0_2) else (none))) else (none))) else (if x3_2.size + 1 ≤ 9223372036854775807 then ((spec_l1Number.f k2 x5_1).bind fun t347 => (if (x3_2 ++ (⟨#[44]⟩ : ByteArray)).size + t347.size ≤ 9223372036854775807 then ((spec_l1Number.f k2 x6_2).bind fun t348 => (if ((x3_2 ++ (⟨#[44]⟩ : ByteArray)) ++ t347).size + t348.size ≤ 9223372036854775807 then (spec_PlaceText.l1 k2 (((x3_2 ++ (⟨#[44]⟩ : ByteArray)) ++ t347) ++ t348) (x4_1 ++ t343) x5_1 (wrap64 (x6_2 + 1)) l0_0 a0_1 l0_2) else (none))) else (none))) else (none)))) = some r := by first | (rw [hji18] at H; exact H) | (simp only [hji18] at H ⊢; exact H)
              have hji18_ : ((rd l0_0 x5_1) / 2 ^ min x6_2.toNat 64) = ji18 := hji18
              have hji18z : x6_2 ≤ 64 → ((rd l0_0 x5_1) / 2 ^ x6_2.toNat) = ji18 := shr_small hji18
              by_cases c19 : (Int.tmod (ji18) 2) = 0
              ·rw [if_pos c19] at H
               have c19b0 : ((Int.tmod (ji18) 2) == 0) = true := beq_iff_eq.mpr c19
               have c19b1 : ((Int.tmod (ji18) 2) != 0) = false := bne_eq_false_iff_eq.mpr c19
               clear c19
               have H' := Aside0.mk H
               clear H
               have hcz20_0 : wr.cell? ⟨gb340, 0, none⟩ = some (.slice A0_0 l0_0.length c0_0) := (blk_cell BK340.out 0).trans rfl
               have hcz20_1 : wr.cell? ⟨gb340, 1, none⟩ = some (.int .i64 a0_1) := (blk_cell BK340.out 1).trans rfl
               have hcz20_2 : wr.cell? ⟨gb340, 2, none⟩ = some (.slice (some ad342) l0_2.length c0_2) := (blk_cell BK340.out 2).trans rfl
               have hfz20_0 := blk_frozen BK340.out 0
               have hfz20_1 := blk_frozen BK340.out 1
               have hfz20_2 := blk_frozen BK340.out 2
               have p344 : 0 ≤ (x5_1 : Int) := od
               have q344 : x5_1 < (l0_0.length : Int) := od
               obtain ⟨ad344, e344, hx344_0⟩ := Kd.at_int HR0_0.out x5_1 p344 q344
               cases e344
               replace hx344_0 := (HB.out.cell (World.block_lt_of_cell? w _ hx344_0)).trans hx344_0
               replace p344 := eq_true p344
               replace q344 := eq_true q344
               go_wp2
               go_roundg k2
               case measure => have := HK1.out; have := HK2.out; omega
               case rel => exact ⟨(x3_2), (wrap64 (x6_2 + 1)), rfq, rfq, H', ⟨by have := HK1.out; have := HK2.out; omega⟩, ⟨by refine bkq ?_; exact BK340.out⟩, ⟨hbqa HB.out⟩⟩
              ·rw [if_neg c19] at H
               have c19b0 : ((Int.tmod (ji18) 2) == 0) = false := beq_eq_false_iff_ne.mpr c19
               have c19b1 : ((Int.tmod (ji18) 2) != 0) = true := bne_iff_ne.mpr c19
               by_cases c21 : x3_2.toList = ([] : List UInt8)
               ·rw [if_pos c21] at H
                have c21b0 : (x3_2.toList == ([] : List UInt8)) = true := beq_iff_eq.mpr c21
                have c21b1 : (x3_2.toList != ([] : List UInt8)) = false := bne_eq_false_iff_eq.mpr c21
                clear c21
                replace H := Option.bind_eq_some_iff.mp H
                obtain ⟨t345, A220, H⟩ := H
                replace H : (if x3_2.size + t345.size ≤ 9223372036854775807 then ((spec_l1Number.f k2 x6_2).bind fun t346 => (if (x3_2 ++ t345).size + t346.size ≤ 9223372036854775807 then (spec_PlaceText.l1 k2 ((x3_2 ++ t345) ++ t346) (x4_1 ++ t343) x5_1 (wrap64 (x6_2 + 1)) l0_0 a0_1 l0_2) else (none))) else (none)) = some r := H
                have A22 := Aside0.mk A220
                clear A220
                by_cases c23 : x3_2.size + t345.size ≤ 9223372036854775807
                ·rw [if_pos c23] at H
                 have c23b0 := eq_true c23
                 have c23b1 : decide (x3_2.size + t345.size ≤ 9223372036854775807) = true := decide_eq_true c23
                 try have c23b2 : (9223372036854775807 < x3_2.size + t345.size) = False := eq_false (Nat.not_lt.2 c23)
                 replace H := Option.bind_eq_some_iff.mp H
                 obtain ⟨t346, A240, H⟩ := H
                 replace H : (if (x3_2 ++ t345).size + t346.size ≤ 9223372036854775807 then (spec_PlaceText.l1 k2 ((x3_2 ++ t345) ++ t346) (x4_1 ++ t343) x5_1 (wrap64 (x6_2 + 1)) l0_0 a0_1 l0_2) else (none)) = some r := H
                 have A24 := Aside0.mk A240
                 clear A240
                 by_cases c25 : (x3_2 ++ t345).size + t346.size ≤ 9223372036854775807
                 ·rw [if_pos c25] at H
                  have c25b0 := eq_true c25
                  (try have c25n := c25)
                  (try simp only [ByteArray.size_append] at c25n)
                  (try have c25nb := eq_true c25n)
                  (try have c25nd := decide_eq_true c25n)
                  (try have c25nf := eq_false (Nat.not_lt.2 c25n))
                  (try clear c25n)
                  (try have c25m := c25)
                  (try simp only [ByteArray.size_append, show ∀ c_ : UInt8, (⟨#[c_]⟩ : ByteArray).size = 1 from fun _ => rfl] at c25m)
                  (try have c25mb := eq_true c25m)
                  (try have c25md := decide_eq_true c25m)
                  (try have c25mf := eq_false (Nat.not_lt.2 c25m))
                  (try clear c25m)
                  have c25b1 : decide ((x3_2 ++ t345).size + t346.size ≤ 9223372036854775807) = true := decide_eq_true c25
                  try have c25b2 : (9223372036854775807 < (x3_2 ++ t345).size + t346.size) = False := eq_false (Nat.not_lt.2 c25)
                  have H' := Aside0.mk H
                  clear H
                  have hcz26_0 : wr.cell? ⟨gb340, 0, none⟩ = some (.slice A0_0 l0_0.length c0_0) := (blk_cell BK340.out 0).trans rfl
                  have hcz26_1 : wr.cell? ⟨gb340, 1, none⟩ = some (.int .i64 a0_1) := (blk_cell BK340.out 1).trans rfl
                  have hcz26_2 : wr.cell? ⟨gb340, 2, none⟩ = some (.slice (some ad342) l0_2.length c0_2) := (blk_cell BK340.out 2).trans rfl
                  have hfz26_0 := blk_frozen BK340.out 0
                  have hfz26_1 := blk_frozen BK340.out 1
                  have hfz26_2 := blk_frozen BK340.out 2
                  have p344 : 0 ≤ (x5_1 : Int) := od
                  have q344 : x5_1 < (l0_0.length : Int) := od
                  obtain ⟨ad344, e344, hx344_0⟩ := Kd.at_int HR0_0.out x5_1 p344 q344
                  cases e344
                  replace hx344_0 := (HB.out.cell (World.block_lt_of_cell? w _ hx344_0)).trans hx344_0
                  replace p344 := eq_true p344
                  replace q344 := eq_true q344
                  go_wp2_with (first | ((with_reducible refine gate_callee (f := 79) rfl ?_); refine goesL_ (some 49) rfl rfl Try.func79 (by kernel_rfl) rfl #[.int .i64 x5_1] rfl mpq ?_; (with_reducible refine (spec_l1Number.calls k2 x5_1 t345 _ A22.out).mono ?_); rintro e w27 ⟨rfl, hb⟩; refine ⟨_, rfl, ?_⟩; have n0_ := Aside0.mk (blk_below (bkq BK340.out) hb); have n1_ := Aside0.mk (below_step (hbqa HB.out) hb); clear BK340 HB; revert n0_ n1_; intro BK340 HB; (try clear hb); (try clear hb2); (try clear hk); (try clear hi)) | ((with_reducible refine gate_callee (f := 79) rfl ?_); refine goesL_ (some 52) rfl rfl Try.func79 (by kernel_rfl) rfl #[.int .i64 x6_2] rfl mpq ?_; (with_reducible refine (spec_l1Number.calls k2 x6_2 t346 _ A24.out).mono ?_); rintro e w28 ⟨rfl, hb⟩; refine ⟨_, rfl, ?_⟩; have n0_ := Aside0.mk (blk_below (bkq BK340.out) hb); have n1_ := Aside0.mk (below_step (hbqa HB.out) hb); clear BK340 HB; revert n0_ n1_; intro BK340 HB; (try clear hb); (try clear hb2); (try clear hk); (try clear hi)))
                  go_roundg k2
                  case measure => have := HK1.out; have := HK2.out; omega
                  case rel => exact ⟨((x3_2 ++ t345) ++ t346), (wrap64 (x6_2 + 1)), rfq, rfq, H', ⟨by have := HK1.out; have := HK2.out; omega⟩, ⟨by refine bkq ?_; exact BK340.out⟩, ⟨hbqa HB.out⟩⟩
                 ·rw [if_neg c25] at H
                  exact absurd H (by simp)
                ·rw [if_neg c23] at H
                 exact absurd H (by simp)
               ·rw [if_neg c21] at H
                have c21b0 : (x3_2.toList == ([] : List UInt8)) = false := beq_eq_false_iff_ne.mpr c21
                have c21b1 : (x3_2.toList != ([] : List UInt8)) = true := bne_iff_ne.mpr c21
                by_cases c29 : x3_2.size + 1 ≤ 9223372036854775807
                ·rw [if_pos c29] at H
                 have c29b0 := eq_true c29
                 have c29b1 : decide (x3_2.size + 1 ≤ 9223372036854775807) = true := decide_eq_true c29
                 try have c29b2 : (9223372036854775807 < x3_2.size + 1) = False := eq_false (Nat.not_lt.2 c29)
                 replace H := Option.bind_eq_some_iff.mp H
                 obtain ⟨t347, A300, H⟩ := H
                 replace H : (if (x3_2 ++ (⟨#[44]⟩ : ByteArray)).size + t347.size ≤ 9223372036854775807 then ((spec_l1Number.f k2 x6_2).bind fun t348 => (if ((x3_2 ++ (⟨#[44]⟩ : ByteArray)) ++ t347).size + t348.size ≤ 9223372036854775807 then (spec_PlaceText.l1 k2 (((x3_2 ++ (⟨#[44]⟩ : ByteArray)) ++ t347) ++ t348) (x4_1 ++ t343) x5_1 (wrap64 (x6_2 + 1)) l0_0 a0_1 l0_2) else (none))) else (none)) = some r := H
                 have A30 := Aside0.mk A300
                 clear A300
                 by_cases c31 : (x3_2 ++ (⟨#[44]⟩ : ByteArray)).size + t347.size ≤ 9223372036854775807
                 ·rw [if_pos c31] at H
                  have c31b0 := eq_true c31
                  (try have c31n := c31)
                  (try simp only [ByteArray.size_append] at c31n)
                  (try have c31nb := eq_true c31n)
                  (try have c31nd := decide_eq_true c31n)
                  (try have c31nf := eq_false (Nat.not_lt.2 c31n))
                  (try clear c31n)
                  (try have c31m := c31)
                  (try simp only [ByteArray.size_append, show ∀ c_ : UInt8, (⟨#[c_]⟩ : ByteArray).size = 1 from fun _ => rfl] at c31m)
                  (try have c31mb := eq_true c31m)
                  (try have c31md := decide_eq_true c31m)
                  (try have c31mf := eq_false (Nat.not_lt.2 c31m))
                  (try clear c31m)
                  have c31b1 : decide ((x3_2 ++ (⟨#[44]⟩ : ByteArray)).size + t347.size ≤ 9223372036854775807) = true := decide_eq_true c31
                  try have c31b2 : (9223372036854775807 < (x3_2 ++ (⟨#[44]⟩ : ByteArray)).size + t347.size) = False := eq_false (Nat.not_lt.2 c31)
                  replace H := Option.bind_eq_some_iff.mp H
                  obtain ⟨t348, A320, H⟩ := H
                  replace H : (if ((x3_2 ++ (⟨#[44]⟩ : ByteArray)) ++ t347).size + t348.size ≤ 9223372036854775807 then (spec_PlaceText.l1 k2 (((x3_2 ++ (⟨#[44]⟩ : ByteArray)) ++ t347) ++ t348) (x4_1 ++ t343) x5_1 (wrap64 (x6_2 + 1)) l0_0 a0_1 l0_2) else (none)) = some r := H
                  have A32 := Aside0.mk A320
                  clear A320
                  by_cases c33 : ((x3_2 ++ (⟨#[44]⟩ : ByteArray)) ++ t347).size + t348.size ≤ 9223372036854775807
                  ·rw [if_pos c33] at H
                   have c33b0 := eq_true c33
                   (try have c33n := c33)
                   (try simp only [ByteArray.size_append] at c33n)
                   (try have c33nb := eq_true c33n)
                   (try have c33nd := decide_eq_true c33n)
                   (try have c33nf := eq_false (Nat.not_lt.2 c33n))
                   (try clear c33n)
                   (try have c33m := c33)
                   (try simp only [ByteArray.size_append, show ∀ c_ : UInt8, (⟨#[c_]⟩ : ByteArray).size = 1 from fun _ => rfl] at c33m)
                   (try have c33mb := eq_true c33m)
                   (try have c33md := decide_eq_true c33m)
                   (try have c33mf := eq_false (Nat.not_lt.2 c33m))
                   (try clear c33m)
                   have c33b1 : decide (((x3_2 ++ (⟨#[44]⟩ : ByteArray)) ++ t347).size + t348.size ≤ 9223372036854775807) = true := decide_eq_true c33
                   try have c33b2 : (9223372036854775807 < ((x3_2 ++ (⟨#[44]⟩ : ByteArray)) ++ t347).size + t348.size) = False := eq_false (Nat.not_lt.2 c33)
                   have H' := Aside0.mk H
                   clear H
                   have hcz34_0 : wr.cell? ⟨gb340, 0, none⟩ = some (.slice A0_0 l0_0.length c0_0) := (blk_cell BK340.out 0).trans rfl
                   have hcz34_1 : wr.cell? ⟨gb340, 1, none⟩ = some (.int .i64 a0_1) := (blk_cell BK340.out 1).trans rfl
                   have hcz34_2 : wr.cell? ⟨gb340, 2, none⟩ = some (.slice (some ad342) l0_2.length c0_2) := (blk_cell BK340.out 2).trans rfl
                   have hfz34_0 := blk_frozen BK340.out 0
                   have hfz34_1 := blk_frozen BK340.out 1
                   have hfz34_2 := blk_frozen BK340.out 2
                   have p344 : 0 ≤ (x5_1 : Int) := od
                   have q344 : x5_1 < (l0_0.length : Int) := od
                   obtain ⟨ad344, e344, hx344_0⟩ := Kd.at_int HR0_0.out x5_1 p344 q344
                   cases e344
                   replace hx344_0 := (HB.out.cell (World.block_lt_of_cell? w _ hx344_0)).trans hx344_0
                   replace p344 := eq_true p344
                   replace q344 := eq_true q344
                   go_wp2_with (first | ((with_reducible refine gate_callee (f := 79) rfl ?_); refine goesL_ (some 49) rfl rfl Try.func79 (by kernel_rfl) rfl #[.int .i64 x5_1] rfl mpq ?_; (with_reducible refine (spec_l1Number.calls k2 x5_1 t347 _ A30.out).mono ?_); rintro e w35 ⟨rfl, hb⟩; refine ⟨_, rfl, ?_⟩; have n0_ := Aside0.mk (blk_below (bkq BK340.out) hb); have n1_ := Aside0.mk (below_step (hbqa HB.out) hb); clear BK340 HB; revert n0_ n1_; intro BK340 HB; (try clear hb); (try clear hb2); (try clear hk); (try clear hi)) | ((with_reducible refine gate_callee (f := 79) rfl ?_); refine goesL_ (some 52) rfl rfl Try.func79 (by kernel_rfl) rfl #[.int .i64 x6_2] rfl mpq ?_; (with_reducible refine (spec_l1Number.calls k2 x6_2 t348 _ A32.out).mono ?_); rintro e w36 ⟨rfl, hb⟩; refine ⟨_, rfl, ?_⟩; have n0_ := Aside0.mk (blk_below (bkq BK340.out) hb); have n1_ := Aside0.mk (below_step (hbqa HB.out) hb); clear BK340 HB; revert n0_ n1_; intro BK340 HB; (try clear hb); (try clear hb2); (try clear hk); (try clear hi)))
                   go_roundg k2
                   case measure => have := HK1.out; have := HK2.out; omega
                   case rel => exact ⟨(((x3_2 ++ (⟨#[44]⟩ : ByteArray)) ++ t347) ++ t348), (wrap64 (x6_2 + 1)), rfq, rfq, H', ⟨by have := HK1.out; have := HK2.out; omega⟩, ⟨by refine bkq ?_; exact BK340.out⟩, ⟨hbqa HB.out⟩⟩
                  ·rw [if_neg c33] at H
                   exact absurd H (by simp)
                 ·rw [if_neg c31] at H
                  exact absurd H (by simp)
                ·rw [if_neg c29] at H
                 exact absurd H (by simp)
             ·rw [if_neg c17] at H
              exact absurd H (by simp)
            ·rw [if_neg c16] at H
             exact absurd H (by simp)
           ·rw [if_neg c15] at H
            exact absurd H (by simp)
          ·rw [if_neg c14] at H
           have c14b0 : decide (x6_2 < (l0_0.length : Int)) = false := decide_eq_false c14
           clear c14
           have H' := Aside0.mk H
           clear H
           have hcz37_0 : wr.cell? ⟨gb340, 0, none⟩ = some (.slice A0_0 l0_0.length c0_0) := (blk_cell BK340.out 0).trans rfl
           have hcz37_1 : wr.cell? ⟨gb340, 1, none⟩ = some (.int .i64 a0_1) := (blk_cell BK340.out 1).trans rfl
           have hcz37_2 : wr.cell? ⟨gb340, 2, none⟩ = some (.slice (some ad342) l0_2.length c0_2) := (blk_cell BK340.out 2).trans rfl
           have hfz37_0 := blk_frozen BK340.out 0
           have hfz37_1 := blk_frozen BK340.out 1
           have hfz37_2 := blk_frozen BK340.out 2
           go_wp2
           go_roundg k2
           case measure => have := HK1.out; have := HK2.out; omega
           case rel => exact ⟨(x3_2), ((x4_1 ++ t343)), (wrap64 (x5_1 + 1)), rfq, rfq, rfq, H', ⟨by have := HK1.out; have := HK2.out; omega⟩, ⟨by refine bkq ?_; exact BK340.out⟩, ⟨hbqa HB.out⟩⟩
       ·rw [if_neg c11] at H
        exact absurd H (by simp)
      ·rw [if_neg c9] at H
       exact absurd H (by simp)
     ·rw [if_neg c8] at H
      exact absurd H (by simp)
    ·rw [if_neg c7] at H
     have c7b0 : decide (x5_1 < (l0_0.length : Int)) = false := decide_eq_false c7
     clear c7
     by_cases c38 : x3_1.toList = ([] : List UInt8)
     ·rw [if_pos c38] at H
      have c38b0 : (x3_1.toList == ([] : List UInt8)) = true := beq_iff_eq.mpr c38
      have c38b1 : (x3_1.toList != ([] : List UInt8)) = false := bne_eq_false_iff_eq.mpr c38
      clear c38
      replace H := Option.bind_eq_some_iff.mp H
      obtain ⟨t349, A390, H⟩ := H
      replace H : (if t349.size + 1 ≤ 9223372036854775807 then (if (t349 ++ (⟨#[32]⟩ : ByteArray)).size + 1 ≤ 9223372036854775807 then (if ((t349 ++ (⟨#[32]⟩ : ByteArray)) ++ (⟨#[46]⟩ : ByteArray)).size + 1 ≤ 9223372036854775807 then ((spec_l1Number.f k1 a0_1).bind fun t350 => (if (((t349 ++ (⟨#[32]⟩ : ByteArray)) ++ (⟨#[46]⟩ : ByteArray)) ++ (⟨#[32]⟩ : ByteArray)).size + t350.size ≤ 9223372036854775807 then (if ((((t349 ++ (⟨#[32]⟩ : ByteArray)) ++ (⟨#[46]⟩ : ByteArray)) ++ (⟨#[32]⟩ : ByteArray)) ++ t350).size + 1 ≤ 9223372036854775807 then (if (((((t349 ++ (⟨#[32]⟩ : ByteArray)) ++ (⟨#[46]⟩ : ByteArray)) ++ (⟨#[32]⟩ : ByteArray)) ++ t350) ++ (⟨#[32]⟩ : ByteArray)).size + x4_1.size ≤ 9223372036854775807 then (some ((((((t349 ++ (⟨#[32]⟩ : ByteArray)) ++ (⟨#[46]⟩ : ByteArray)) ++ (⟨#[32]⟩ : ByteArray)) ++ t350) ++ (⟨#[32]⟩ : ByteArray)) ++ x4_1)) else (none)) else (none)) else (none))) else (none)) else (none)) else (none)) = some r := H
      have A39 := Aside0.mk A390
      clear A390
      by_cases c40 : t349.size + 1 ≤ 9223372036854775807
      ·rw [if_pos c40] at H
       have c40b0 := eq_true c40
       have c40b1 : decide (t349.size + 1 ≤ 9223372036854775807) = true := decide_eq_true c40
       try have c40b2 : (9223372036854775807 < t349.size + 1) = False := eq_false (Nat.not_lt.2 c40)
       by_cases c41 : (t349 ++ (⟨#[32]⟩ : ByteArray)).size + 1 ≤ 9223372036854775807
       ·rw [if_pos c41] at H
        have c41b0 := eq_true c41
        (try have c41n := c41)
        (try simp only [ByteArray.size_append] at c41n)
        (try have c41nb := eq_true c41n)
        (try have c41nd := decide_eq_true c41n)
        (try have c41nf := eq_false (Nat.not_lt.2 c41n))
        (try clear c41n)
        (try have c41m := c41)
        (try simp only [ByteArray.size_append, show ∀ c_ : UInt8, (⟨#[c_]⟩ : ByteArray).size = 1 from fun _ => rfl] at c41m)
        (try have c41mb := eq_true c41m)
        (try have c41md := decide_eq_true c41m)
        (try have c41mf := eq_false (Nat.not_lt.2 c41m))
        (try clear c41m)
        have c41b1 : decide ((t349 ++ (⟨#[32]⟩ : ByteArray)).size + 1 ≤ 9223372036854775807) = true := decide_eq_true c41
        try have c41b2 : (9223372036854775807 < (t349 ++ (⟨#[32]⟩ : ByteArray)).size + 1) = False := eq_false (Nat.not_lt.2 c41)
        by_cases c42 : ((t349 ++ (⟨#[32]⟩ : ByteArray)) ++ (⟨#[46]⟩ : ByteArray)).size + 1 ≤ 9223372036854775807
        ·rw [if_pos c42] at H
         have c42b0 := eq_true c42
         (try have c42n := c42)
         (try simp only [ByteArray.size_append] at c42n)
         (try have c42nb := eq_true c42n)
         (try have c42nd := decide_eq_true c42n)
         (try have c42nf := eq_false (Nat.not_lt.2 c42n))
         (try clear c42n)
         (try have c42m := c42)
         (try simp only [ByteArray.size_append, show ∀ c_ : UInt8, (⟨#[c_]⟩ : ByteArray).size = 1 from fun _ => rfl] at c42m)
         (try have c42mb := eq_true c42m)
         (try have c42md := decide_eq_true c42m)
         (try have c42mf := eq_false (Nat.not_lt.2 c42m))
         (try clear c42m)
         have c42b1 : decide (((t349 ++ (⟨#[32]⟩ : ByteArray)) ++ (⟨#[46]⟩ : ByteArray)).size + 1 ≤ 9223372036854775807) = true := decide_eq_true c42
         try have c42b2 : (9223372036854775807 < ((t349 ++ (⟨#[32]⟩ : ByteArray)) ++ (⟨#[46]⟩ : ByteArray)).size + 1) = False := eq_false (Nat.not_lt.2 c42)
         replace H := Option.bind_eq_some_iff.mp H
         obtain ⟨t350, A430, H⟩ := H
         replace H : (if (((t349 ++ (⟨#[32]⟩ : ByteArray)) ++ (⟨#[46]⟩ : ByteArray)) ++ (⟨#[32]⟩ : ByteArray)).size + t350.size ≤ 9223372036854775807 then (if ((((t349 ++ (⟨#[32]⟩ : ByteArray)) ++ (⟨#[46]⟩ : ByteArray)) ++ (⟨#[32]⟩ : ByteArray)) ++ t350).size + 1 ≤ 9223372036854775807 then (if (((((t349 ++ (⟨#[32]⟩ : ByteArray)) ++ (⟨#[46]⟩ : ByteArray)) ++ (⟨#[32]⟩ : ByteArray)) ++ t350) ++ (⟨#[32]⟩ : ByteArray)).size + x4_1.size ≤ 9223372036854775807 then (some ((((((t349 ++ (⟨#[32]⟩ : ByteArray)) ++ (⟨#[46]⟩ : ByteArray)) ++ (⟨#[32]⟩ : ByteArray)) ++ t350) ++ (⟨#[32]⟩ : ByteArray)) ++ x4_1)) else (none)) else (none)) else (none)) = some r := H
         have A43 := Aside0.mk A430
         clear A430
         by_cases c44 : (((t349 ++ (⟨#[32]⟩ : ByteArray)) ++ (⟨#[46]⟩ : ByteArray)) ++ (⟨#[32]⟩ : ByteArray)).size + t350.size ≤ 9223372036854775807
         ·rw [if_pos c44] at H
          have c44b0 := eq_true c44
          (try have c44n := c44)
          (try simp only [ByteArray.size_append] at c44n)
          (try have c44nb := eq_true c44n)
          (try have c44nd := decide_eq_true c44n)
          (try have c44nf := eq_false (Nat.not_lt.2 c44n))
          (try clear c44n)
          (try have c44m := c44)
          (try simp only [ByteArray.size_append, show ∀ c_ : UInt8, (⟨#[c_]⟩ : ByteArray).size = 1 from fun _ => rfl] at c44m)
          (try have c44mb := eq_true c44m)
          (try have c44md := decide_eq_true c44m)
          (try have c44mf := eq_false (Nat.not_lt.2 c44m))
          (try clear c44m)
          have c44b1 : decide ((((t349 ++ (⟨#[32]⟩ : ByteArray)) ++ (⟨#[46]⟩ : ByteArray)) ++ (⟨#[32]⟩ : ByteArray)).size + t350.size ≤ 9223372036854775807) = true := decide_eq_true c44
          try have c44b2 : (9223372036854775807 < (((t349 ++ (⟨#[32]⟩ : ByteArray)) ++ (⟨#[46]⟩ : ByteArray)) ++ (⟨#[32]⟩ : ByteArray)).size + t350.size) = False := eq_false (Nat.not_lt.2 c44)
          by_cases c45 : ((((t349 ++ (⟨#[32]⟩ : ByteArray)) ++ (⟨#[46]⟩ : ByteArray)) ++ (⟨#[32]⟩ : ByteArray)) ++ t350).size + 1 ≤ 9223372036854775807
          ·rw [if_pos c45] at H
           have c45b0 := eq_true c45
           (try have c45n := c45)
           (try simp only [ByteArray.size_append] at c45n)
           (try have c45nb := eq_true c45n)
           (try have c45nd := decide_eq_true c45n)
           (try have c45nf := eq_false (Nat.not_lt.2 c45n))
           (try clear c45n)
           (try have c45m := c45)
           (try simp only [ByteArray.size_append, show ∀ c_ : UInt8, (⟨#[c_]⟩ : ByteArray).size = 1 from fun _ => rfl] at c45m)
           (try have c45mb := eq_true c45m)
           (try have c45md := decide_eq_true c45m)
           (try have c45mf := eq_false (Nat.not_lt.2 c45m))
           (try clear c45m)
           have c45b1 : decide (((((t349 ++ (⟨#[32]⟩ : ByteArray)) ++ (⟨#[46]⟩ : ByteArray)) ++ (⟨#[32]⟩ : ByteArray)) ++ t350).size + 1 ≤ 9223372036854775807) = true := decide_eq_true c45
           try have c45b2 : (9223372036854775807 < ((((t349 ++ (⟨#[32]⟩ : ByteArray)) ++ (⟨#[46]⟩ : ByteArray)) ++ (⟨#[32]⟩ : ByteArray)) ++ t350).size + 1) = False := eq_false (Nat.not_lt.2 c45)
           by_cases c46 : (((((t349 ++ (⟨#[32]⟩ : ByteArray)) ++ (⟨#[46]⟩ : ByteArray)) ++ (⟨#[32]⟩ : ByteArray)) ++ t350) ++ (⟨#[32]⟩ : ByteArray)).size + x4_1.size ≤ 9223372036854775807
           ·rw [if_pos c46] at H
            have c46b0 := eq_true c46
            (try have c46n := c46)
            (try simp only [ByteArray.size_append] at c46n)
            (try have c46nb := eq_true c46n)
            (try have c46nd := decide_eq_true c46n)
            (try have c46nf := eq_false (Nat.not_lt.2 c46n))
            (try clear c46n)
            (try have c46m := c46)
            (try simp only [ByteArray.size_append, show ∀ c_ : UInt8, (⟨#[c_]⟩ : ByteArray).size = 1 from fun _ => rfl] at c46m)
            (try have c46mb := eq_true c46m)
            (try have c46md := decide_eq_true c46m)
            (try have c46mf := eq_false (Nat.not_lt.2 c46m))
            (try clear c46m)
            have c46b1 : decide ((((((t349 ++ (⟨#[32]⟩ : ByteArray)) ++ (⟨#[46]⟩ : ByteArray)) ++ (⟨#[32]⟩ : ByteArray)) ++ t350) ++ (⟨#[32]⟩ : ByteArray)).size + x4_1.size ≤ 9223372036854775807) = true := decide_eq_true c46
            try have c46b2 : (9223372036854775807 < (((((t349 ++ (⟨#[32]⟩ : ByteArray)) ++ (⟨#[46]⟩ : ByteArray)) ++ (⟨#[32]⟩ : ByteArray)) ++ t350) ++ (⟨#[32]⟩ : ByteArray)).size + x4_1.size) = False := eq_false (Nat.not_lt.2 c46)
            obtain rfl := Option.some.inj H
            have hcz47_0 : wr.cell? ⟨gb340, 0, none⟩ = some (.slice A0_0 l0_0.length c0_0) := (blk_cell BK340.out 0).trans rfl
            have hcz47_1 : wr.cell? ⟨gb340, 1, none⟩ = some (.int .i64 a0_1) := (blk_cell BK340.out 1).trans rfl
            have hcz47_2 : wr.cell? ⟨gb340, 2, none⟩ = some (.slice A0_2 l0_2.length c0_2) := (blk_cell BK340.out 2).trans rfl
            have hfz47_0 := blk_frozen BK340.out 0
            have hfz47_1 := blk_frozen BK340.out 1
            have hfz47_2 := blk_frozen BK340.out 2
            try go_wp2
            have n0_ := Aside0.mk (blk_drew BK340.out)
            have n1_ := Aside0.mk (below_drew1 HB.out)
            clear BK340 HB
            revert n0_ n1_
            intro BK340 HB
            refine start_ (n := 16) (S := fun w' => w'.cell? ⟨gb340, 0, none⟩ = some (.slice A0_0 l0_0.length c0_0) ∧ w'.cell? ⟨gb340, 1, none⟩ = some (.int .i64 a0_1) ∧ w'.cell? ⟨gb340, 2, none⟩ = some (.slice A0_2 l0_2.length c0_2)) (ds := []) #[false, false, false, false, false, false, false, false, false, false, false, false, false, false, false, false] (by kernel_rfl) rfl rfl ⟨(blk_cell BK340.out 0).trans rfl, (blk_cell BK340.out 1).trans rfl, (blk_cell BK340.out 2).trans rfl⟩ (fun hHeld => ?_); refine with_tabW spec_PlaceText.tab18 spec_PlaceText.bits18 (fun HT_ HW_ => ?_)
            generalize wr.drew = w48 at BK340 HB hHeld ⊢
            refine pureq (i := 0) (N := some 56) #[true, false, false, false, false, false, false, false, false, false, false, false, false, false, false, false] rfl rfl HT_.out ?_
            refine pureq (i := 5) (N := some 61) #[true, false, false, false, false, true, false, false, false, false, false, false, false, false, false, false] rfl rfl HT_.out ?_
            refine pureq (i := 8) (N := some 64) #[true, false, false, false, false, true, false, false, true, false, false, false, false, false, false, false] rfl rfl HT_.out ?_
            refine pureq (i := 13) (N := some 69) #[true, false, false, false, false, true, false, false, true, false, false, false, false, true, false, false] rfl rfl HT_.out ?_
            refine take_ (i := 1) (N := some 57) (v := ?_) (a' := ?_) #[true, true, false, false, false, true, false, false, true, false, false, false, false, true, false, false] rfl rfl (take_ofW HT_.out HW_.out (by kernel_rfl)) (fun _ _ _ h => h) (Or.inl ⟨by rfl, ?_⟩) hHeld ?_ ?_
            rotate_left
            ·rintro w' ⟨s0, s1, s2⟩
             go_simp
             with_reducible rfl
            rotate_left
            ·simp only [Act.put, List.setIfInBounds_toArray, List.set_cons_zero, List.set_cons_succ, i64_w, i32_w]
             rfl
            refine pureq (i := 2) (N := some 58) #[true, true, true, false, false, true, false, false, true, false, false, false, false, true, false, false] rfl rfl HT_.out ?_
            refine take_ (i := 9) (N := some 65) (v := ?_) (a' := ?_) #[true, true, true, false, false, true, false, false, true, true, false, false, false, true, false, false] rfl rfl (take_ofW HT_.out HW_.out (by kernel_rfl)) (fun _ _ _ h => h) (Or.inl ⟨by rfl, ?_⟩) hHeld ?_ ?_
            rotate_left
            ·rintro w' ⟨s0, s1, s2⟩
             go_simp
             with_reducible rfl
            rotate_left
            ·simp only [Act.put, List.setIfInBounds_toArray, List.set_cons_zero, List.set_cons_succ, i64_w, i32_w]
             rfl
            refine one_ (i := 3) (N := some 59) #[true, true, true, true, false, true, false, false, true, true, false, false, false, true, false, false] rfl rfl (one_of HT_.out (by kernel_rfl)) (by decide) (fun K hK => ?_)
            refine goes_ Try.func79 (by kernel_rfl) rfl #[.int .i64 (l0_0.length : Int)] (by rfl) rfl rfl mpq ?_
            with_reducible refine (spec_l1Number.calls k1 (l0_0.length : Int) t349 _ A39.out).mono ?_
            rintro e w49 ⟨rfl, hb⟩
            refine ⟨_, rfl, ?_⟩
            have n0_ := Aside0.mk (blk_below (bkq BK340.out) hb)
            have n1_ := Aside0.mk (below_step (hbqa HB.out) hb)
            clear BK340 HB
            revert n0_ n1_
            intro BK340 HB
            (try clear hb)
            (try clear hb2)
            (try clear hk)
            (try clear hi)
            refine hK.out _ _ ⟨(blk_cell BK340.out 0).trans rfl, (blk_cell BK340.out 1).trans rfl, (blk_cell BK340.out 2).trans rfl⟩ (fun hHeld => ?_)
            clear hK K
            refine normq 59 ?_
            refine pureq (i := 4) (N := some 60) #[true, true, true, true, true, true, false, false, true, true, false, false, false, true, false, false] rfl rfl HT_.out ?_
            refine pureq (i := 6) (N := some 62) #[true, true, true, true, true, true, true, false, true, true, false, false, false, true, false, false] rfl rfl HT_.out ?_
            refine pureq (i := 7) (N := some 63) #[true, true, true, true, true, true, true, true, true, true, false, false, false, true, false, false] rfl rfl HT_.out ?_
            refine one_ (i := 10) (N := some 66) #[true, true, true, true, true, true, true, true, true, true, true, false, false, true, false, false] rfl rfl (one_of HT_.out (by kernel_rfl)) (by decide) (fun K hK => ?_)
            refine goes_ Try.func79 (by kernel_rfl) rfl #[.int .i64 a0_1] (by rfl) rfl rfl mpq ?_
            with_reducible refine (spec_l1Number.calls k1 a0_1 t350 _ A43.out).mono ?_
            rintro e w50 ⟨rfl, hb⟩
            refine ⟨_, rfl, ?_⟩
            have n0_ := Aside0.mk (blk_below (bkq BK340.out) hb)
            have n1_ := Aside0.mk (below_step (hbqa HB.out) hb)
            clear BK340 HB
            revert n0_ n1_
            intro BK340 HB
            (try clear hb)
            (try clear hb2)
            (try clear hk)
            (try clear hi)
            refine hK.out _ _ ⟨(blk_cell BK340.out 0).trans rfl, (blk_cell BK340.out 1).trans rfl, (blk_cell BK340.out 2).trans rfl⟩ (fun hHeld => ?_)
            clear hK K
            refine normq 66 ?_
            refine pureq (i := 11) (N := some 67) #[true, true, true, true, true, true, true, true, true, true, true, true, false, true, false, false] rfl rfl HT_.out ?_
            refine pureq (i := 12) (N := some 68) #[true, true, true, true, true, true, true, true, true, true, true, true, true, true, false, false] rfl rfl HT_.out ?_
            refine pureq (i := 14) (N := some 70) #[true, true, true, true, true, true, true, true, true, true, true, true, true, true, true, false] rfl rfl HT_.out ?_
            refine pureq (i := 15) (N := some 2) #[true, true, true, true, true, true, true, true, true, true, true, true, true, true, true, true] rfl rfl HT_.out ?_
            refine done_ (done_of HT_.out (by kernel_rfl)) ?_
            try go_wp2
            go_ret
            exact ⟨by first | rfl | (simp [errW_none, errW_some] <;> rfl) | (simp [*, errW_none, errW_some] <;> rfl), hbqa HB.out⟩
           ·rw [if_neg c46] at H
            exact absurd H (by simp)
          ·rw [if_neg c45] at H
           exact absurd H (by simp)
         ·rw [if_neg c44] at H
          exact absurd H (by simp)
        ·rw [if_neg c42] at H
         exact absurd H (by simp)
       ·rw [if_neg c41] at H
        exact absurd H (by simp)
      ·rw [if_neg c40] at H
       exact absurd H (by simp)
     ·rw [if_neg c38] at H
      have c38b0 : (x3_1.toList == ([] : List UInt8)) = false := beq_eq_false_iff_ne.mpr c38
      have c38b1 : (x3_1.toList != ([] : List UInt8)) = true := bne_iff_ne.mpr c38
      replace H := Option.bind_eq_some_iff.mp H
      obtain ⟨t351, A510, H⟩ := H
      replace H : (if t351.size + 1 ≤ 9223372036854775807 then (if (t351 ++ (⟨#[32]⟩ : ByteArray)).size + x3_1.size ≤ 9223372036854775807 then (if ((t351 ++ (⟨#[32]⟩ : ByteArray)) ++ x3_1).size + 1 ≤ 9223372036854775807 then ((spec_l1Number.f k1 a0_1).bind fun t352 => (if (((t351 ++ (⟨#[32]⟩ : ByteArray)) ++ x3_1) ++ (⟨#[32]⟩ : ByteArray)).size + t352.size ≤ 9223372036854775807 then (if ((((t351 ++ (⟨#[32]⟩ : ByteArray)) ++ x3_1) ++ (⟨#[32]⟩ : ByteArray)) ++ t352).size + 1 ≤ 9223372036854775807 then (if (((((t351 ++ (⟨#[32]⟩ : ByteArray)) ++ x3_1) ++ (⟨#[32]⟩ : ByteArray)) ++ t352) ++ (⟨#[32]⟩ : ByteArray)).size + x4_1.size ≤ 9223372036854775807 then (some ((((((t351 ++ (⟨#[32]⟩ : ByteArray)) ++ x3_1) ++ (⟨#[32]⟩ : ByteArray)) ++ t352) ++ (⟨#[32]⟩ : ByteArray)) ++ x4_1)) else (none)) else (none)) else (none))) else (none)) else (none)) else (none)) = some r := H
      have A51 := Aside0.mk A510
      clear A510
      by_cases c52 : t351.size + 1 ≤ 9223372036854775807
      ·rw [if_pos c52] at H
       have c52b0 := eq_true c52
       have c52b1 : decide (t351.size + 1 ≤ 9223372036854775807) = true := decide_eq_true c52
       try have c52b2 : (9223372036854775807 < t351.size + 1) = False := eq_false (Nat.not_lt.2 c52)
       by_cases c53 : (t351 ++ (⟨#[32]⟩ : ByteArray)).size + x3_1.size ≤ 9223372036854775807
       ·rw [if_pos c53] at H
        have c53b0 := eq_true c53
        (try have c53n := c53)
        (try simp only [ByteArray.size_append] at c53n)
        (try have c53nb := eq_true c53n)
        (try have c53nd := decide_eq_true c53n)
        (try have c53nf := eq_false (Nat.not_lt.2 c53n))
        (try clear c53n)
        (try have c53m := c53)
        (try simp only [ByteArray.size_append, show ∀ c_ : UInt8, (⟨#[c_]⟩ : ByteArray).size = 1 from fun _ => rfl] at c53m)
        (try have c53mb := eq_true c53m)
        (try have c53md := decide_eq_true c53m)
        (try have c53mf := eq_false (Nat.not_lt.2 c53m))
        (try clear c53m)
        have c53b1 : decide ((t351 ++ (⟨#[32]⟩ : ByteArray)).size + x3_1.size ≤ 9223372036854775807) = true := decide_eq_true c53
        try have c53b2 : (9223372036854775807 < (t351 ++ (⟨#[32]⟩ : ByteArray)).size + x3_1.size) = False := eq_false (Nat.not_lt.2 c53)
        by_cases c54 : ((t351 ++ (⟨#[32]⟩ : ByteArray)) ++ x3_1).size + 1 ≤ 9223372036854775807
        ·rw [if_pos c54] at H
         have c54b0 := eq_true c54
         (try have c54n := c54)
         (try simp only [ByteArray.size_append] at c54n)
         (try have c54nb := eq_true c54n)
         (try have c54nd := decide_eq_true c54n)
         (try have c54nf := eq_false (Nat.not_lt.2 c54n))
         (try clear c54n)
         (try have c54m := c54)
         (try simp only [ByteArray.size_append, show ∀ c_ : UInt8, (⟨#[c_]⟩ : ByteArray).size = 1 from fun _ => rfl] at c54m)
         (try have c54mb := eq_true c54m)
         (try have c54md := decide_eq_true c54m)
         (try have c54mf := eq_false (Nat.not_lt.2 c54m))
         (try clear c54m)
         have c54b1 : decide (((t351 ++ (⟨#[32]⟩ : ByteArray)) ++ x3_1).size + 1 ≤ 9223372036854775807) = true := decide_eq_true c54
         try have c54b2 : (9223372036854775807 < ((t351 ++ (⟨#[32]⟩ : ByteArray)) ++ x3_1).size + 1) = False := eq_false (Nat.not_lt.2 c54)
         replace H := Option.bind_eq_some_iff.mp H
         obtain ⟨t352, A550, H⟩ := H
         replace H : (if (((t351 ++ (⟨#[32]⟩ : ByteArray)) ++ x3_1) ++ (⟨#[32]⟩ : ByteArray)).size + t352.size ≤ 9223372036854775807 then (if ((((t351 ++ (⟨#[32]⟩ : ByteArray)) ++ x3_1) ++ (⟨#[32]⟩ : ByteArray)) ++ t352).size + 1 ≤ 9223372036854775807 then (if (((((t351 ++ (⟨#[32]⟩ : ByteArray)) ++ x3_1) ++ (⟨#[32]⟩ : ByteArray)) ++ t352) ++ (⟨#[32]⟩ : ByteArray)).size + x4_1.size ≤ 9223372036854775807 then (some ((((((t351 ++ (⟨#[32]⟩ : ByteArray)) ++ x3_1) ++ (⟨#[32]⟩ : ByteArray)) ++ t352) ++ (⟨#[32]⟩ : ByteArray)) ++ x4_1)) else (none)) else (none)) else (none)) = some r := H
         have A55 := Aside0.mk A550
         clear A550
         by_cases c56 : (((t351 ++ (⟨#[32]⟩ : ByteArray)) ++ x3_1) ++ (⟨#[32]⟩ : ByteArray)).size + t352.size ≤ 9223372036854775807
         ·rw [if_pos c56] at H
          have c56b0 := eq_true c56
          (try have c56n := c56)
          (try simp only [ByteArray.size_append] at c56n)
          (try have c56nb := eq_true c56n)
          (try have c56nd := decide_eq_true c56n)
          (try have c56nf := eq_false (Nat.not_lt.2 c56n))
          (try clear c56n)
          (try have c56m := c56)
          (try simp only [ByteArray.size_append, show ∀ c_ : UInt8, (⟨#[c_]⟩ : ByteArray).size = 1 from fun _ => rfl] at c56m)
          (try have c56mb := eq_true c56m)
          (try have c56md := decide_eq_true c56m)
          (try have c56mf := eq_false (Nat.not_lt.2 c56m))
          (try clear c56m)
          have c56b1 : decide ((((t351 ++ (⟨#[32]⟩ : ByteArray)) ++ x3_1) ++ (⟨#[32]⟩ : ByteArray)).size + t352.size ≤ 9223372036854775807) = true := decide_eq_true c56
          try have c56b2 : (9223372036854775807 < (((t351 ++ (⟨#[32]⟩ : ByteArray)) ++ x3_1) ++ (⟨#[32]⟩ : ByteArray)).size + t352.size) = False := eq_false (Nat.not_lt.2 c56)
          by_cases c57 : ((((t351 ++ (⟨#[32]⟩ : ByteArray)) ++ x3_1) ++ (⟨#[32]⟩ : ByteArray)) ++ t352).size + 1 ≤ 9223372036854775807
          ·rw [if_pos c57] at H
           have c57b0 := eq_true c57
           (try have c57n := c57)
           (try simp only [ByteArray.size_append] at c57n)
           (try have c57nb := eq_true c57n)
           (try have c57nd := decide_eq_true c57n)
           (try have c57nf := eq_false (Nat.not_lt.2 c57n))
           (try clear c57n)
           (try have c57m := c57)
           (try simp only [ByteArray.size_append, show ∀ c_ : UInt8, (⟨#[c_]⟩ : ByteArray).size = 1 from fun _ => rfl] at c57m)
           (try have c57mb := eq_true c57m)
           (try have c57md := decide_eq_true c57m)
           (try have c57mf := eq_false (Nat.not_lt.2 c57m))
           (try clear c57m)
           have c57b1 : decide (((((t351 ++ (⟨#[32]⟩ : ByteArray)) ++ x3_1) ++ (⟨#[32]⟩ : ByteArray)) ++ t352).size + 1 ≤ 9223372036854775807) = true := decide_eq_true c57
           try have c57b2 : (9223372036854775807 < ((((t351 ++ (⟨#[32]⟩ : ByteArray)) ++ x3_1) ++ (⟨#[32]⟩ : ByteArray)) ++ t352).size + 1) = False := eq_false (Nat.not_lt.2 c57)
           by_cases c58 : (((((t351 ++ (⟨#[32]⟩ : ByteArray)) ++ x3_1) ++ (⟨#[32]⟩ : ByteArray)) ++ t352) ++ (⟨#[32]⟩ : ByteArray)).size + x4_1.size ≤ 9223372036854775807
           ·rw [if_pos c58] at H
            have c58b0 := eq_true c58
            (try have c58n := c58)
            (try simp only [ByteArray.size_append] at c58n)
            (try have c58nb := eq_true c58n)
            (try have c58nd := decide_eq_true c58n)
            (try have c58nf := eq_false (Nat.not_lt.2 c58n))
            (try clear c58n)
            (try have c58m := c58)
            (try simp only [ByteArray.size_append, show ∀ c_ : UInt8, (⟨#[c_]⟩ : ByteArray).size = 1 from fun _ => rfl] at c58m)
            (try have c58mb := eq_true c58m)
            (try have c58md := decide_eq_true c58m)
            (try have c58mf := eq_false (Nat.not_lt.2 c58m))
            (try clear c58m)
            have c58b1 : decide ((((((t351 ++ (⟨#[32]⟩ : ByteArray)) ++ x3_1) ++ (⟨#[32]⟩ : ByteArray)) ++ t352) ++ (⟨#[32]⟩ : ByteArray)).size + x4_1.size ≤ 9223372036854775807) = true := decide_eq_true c58
            try have c58b2 : (9223372036854775807 < (((((t351 ++ (⟨#[32]⟩ : ByteArray)) ++ x3_1) ++ (⟨#[32]⟩ : ByteArray)) ++ t352) ++ (⟨#[32]⟩ : ByteArray)).size + x4_1.size) = False := eq_false (Nat.not_lt.2 c58)
            obtain rfl := Option.some.inj H
            have hcz59_0 : wr.cell? ⟨gb340, 0, none⟩ = some (.slice A0_0 l0_0.length c0_0) := (blk_cell BK340.out 0).trans rfl
            have hcz59_1 : wr.cell? ⟨gb340, 1, none⟩ = some (.int .i64 a0_1) := (blk_cell BK340.out 1).trans rfl
            have hcz59_2 : wr.cell? ⟨gb340, 2, none⟩ = some (.slice A0_2 l0_2.length c0_2) := (blk_cell BK340.out 2).trans rfl
            have hfz59_0 := blk_frozen BK340.out 0
            have hfz59_1 := blk_frozen BK340.out 1
            have hfz59_2 := blk_frozen BK340.out 2
            try go_wp2
            have n0_ := Aside0.mk (blk_drew BK340.out)
            have n1_ := Aside0.mk (below_drew1 HB.out)
            clear BK340 HB
            revert n0_ n1_
            intro BK340 HB
            refine start_ (n := 16) (S := fun w' => w'.cell? ⟨gb340, 0, none⟩ = some (.slice A0_0 l0_0.length c0_0) ∧ w'.cell? ⟨gb340, 1, none⟩ = some (.int .i64 a0_1) ∧ w'.cell? ⟨gb340, 2, none⟩ = some (.slice A0_2 l0_2.length c0_2)) (ds := []) #[false, false, false, false, false, false, false, false, false, false, false, false, false, false, false, false] (by kernel_rfl) rfl rfl ⟨(blk_cell BK340.out 0).trans rfl, (blk_cell BK340.out 1).trans rfl, (blk_cell BK340.out 2).trans rfl⟩ (fun hHeld => ?_); refine with_tabW spec_PlaceText.tab18 spec_PlaceText.bits18 (fun HT_ HW_ => ?_)
            generalize wr.drew = w60 at BK340 HB hHeld ⊢
            refine pureq (i := 0) (N := some 56) #[true, false, false, false, false, false, false, false, false, false, false, false, false, false, false, false] rfl rfl HT_.out ?_
            refine pureq (i := 5) (N := some 61) #[true, false, false, false, false, true, false, false, false, false, false, false, false, false, false, false] rfl rfl HT_.out ?_
            refine pureq (i := 8) (N := some 64) #[true, false, false, false, false, true, false, false, true, false, false, false, false, false, false, false] rfl rfl HT_.out ?_
            refine pureq (i := 13) (N := some 69) #[true, false, false, false, false, true, false, false, true, false, false, false, false, true, false, false] rfl rfl HT_.out ?_
            refine take_ (i := 1) (N := some 57) (v := ?_) (a' := ?_) #[true, true, false, false, false, true, false, false, true, false, false, false, false, true, false, false] rfl rfl (take_ofW HT_.out HW_.out (by kernel_rfl)) (fun _ _ _ h => h) (Or.inl ⟨by rfl, ?_⟩) hHeld ?_ ?_
            rotate_left
            ·rintro w' ⟨s0, s1, s2⟩
             go_simp
             with_reducible rfl
            rotate_left
            ·simp only [Act.put, List.setIfInBounds_toArray, List.set_cons_zero, List.set_cons_succ, i64_w, i32_w]
             rfl
            refine pureq (i := 2) (N := some 58) #[true, true, true, false, false, true, false, false, true, false, false, false, false, true, false, false] rfl rfl HT_.out ?_
            refine take_ (i := 9) (N := some 65) (v := ?_) (a' := ?_) #[true, true, true, false, false, true, false, false, true, true, false, false, false, true, false, false] rfl rfl (take_ofW HT_.out HW_.out (by kernel_rfl)) (fun _ _ _ h => h) (Or.inl ⟨by rfl, ?_⟩) hHeld ?_ ?_
            rotate_left
            ·rintro w' ⟨s0, s1, s2⟩
             go_simp
             with_reducible rfl
            rotate_left
            ·simp only [Act.put, List.setIfInBounds_toArray, List.set_cons_zero, List.set_cons_succ, i64_w, i32_w]
             rfl
            refine one_ (i := 3) (N := some 59) #[true, true, true, true, false, true, false, false, true, true, false, false, false, true, false, false] rfl rfl (one_of HT_.out (by kernel_rfl)) (by decide) (fun K hK => ?_)
            refine goes_ Try.func79 (by kernel_rfl) rfl #[.int .i64 (l0_0.length : Int)] (by rfl) rfl rfl mpq ?_
            with_reducible refine (spec_l1Number.calls k1 (l0_0.length : Int) t351 _ A51.out).mono ?_
            rintro e w61 ⟨rfl, hb⟩
            refine ⟨_, rfl, ?_⟩
            have n0_ := Aside0.mk (blk_below (bkq BK340.out) hb)
            have n1_ := Aside0.mk (below_step (hbqa HB.out) hb)
            clear BK340 HB
            revert n0_ n1_
            intro BK340 HB
            (try clear hb)
            (try clear hb2)
            (try clear hk)
            (try clear hi)
            refine hK.out _ _ ⟨(blk_cell BK340.out 0).trans rfl, (blk_cell BK340.out 1).trans rfl, (blk_cell BK340.out 2).trans rfl⟩ (fun hHeld => ?_)
            clear hK K
            refine normq 59 ?_
            refine pureq (i := 4) (N := some 60) #[true, true, true, true, true, true, false, false, true, true, false, false, false, true, false, false] rfl rfl HT_.out ?_
            refine pureq (i := 6) (N := some 62) #[true, true, true, true, true, true, true, false, true, true, false, false, false, true, false, false] rfl rfl HT_.out ?_
            refine pureq (i := 7) (N := some 63) #[true, true, true, true, true, true, true, true, true, true, false, false, false, true, false, false] rfl rfl HT_.out ?_
            refine one_ (i := 10) (N := some 66) #[true, true, true, true, true, true, true, true, true, true, true, false, false, true, false, false] rfl rfl (one_of HT_.out (by kernel_rfl)) (by decide) (fun K hK => ?_)
            refine goes_ Try.func79 (by kernel_rfl) rfl #[.int .i64 a0_1] (by rfl) rfl rfl mpq ?_
            with_reducible refine (spec_l1Number.calls k1 a0_1 t352 _ A55.out).mono ?_
            rintro e w62 ⟨rfl, hb⟩
            refine ⟨_, rfl, ?_⟩
            have n0_ := Aside0.mk (blk_below (bkq BK340.out) hb)
            have n1_ := Aside0.mk (below_step (hbqa HB.out) hb)
            clear BK340 HB
            revert n0_ n1_
            intro BK340 HB
            (try clear hb)
            (try clear hb2)
            (try clear hk)
            (try clear hi)
            refine hK.out _ _ ⟨(blk_cell BK340.out 0).trans rfl, (blk_cell BK340.out 1).trans rfl, (blk_cell BK340.out 2).trans rfl⟩ (fun hHeld => ?_)
            clear hK K
            refine normq 66 ?_
            refine pureq (i := 11) (N := some 67) #[true, true, true, true, true, true, true, true, true, true, true, true, false, true, false, false] rfl rfl HT_.out ?_
            refine pureq (i := 12) (N := some 68) #[true, true, true, true, true, true, true, true, true, true, true, true, true, true, false, false] rfl rfl HT_.out ?_
            refine pureq (i := 14) (N := some 70) #[true, true, true, true, true, true, true, true, true, true, true, true, true, true, true, false] rfl rfl HT_.out ?_
            refine pureq (i := 15) (N := some 2) #[true, true, true, true, true, true, true, true, true, true, true, true, true, true, true, true] rfl rfl HT_.out ?_
            refine done_ (done_of HT_.out (by kernel_rfl)) ?_
            try go_wp2
            go_ret
            exact ⟨by first | rfl | (simp [errW_none, errW_some] <;> rfl) | (simp [*, errW_none, errW_some] <;> rfl), hbqa HB.out⟩
           ·rw [if_neg c58] at H
            exact absurd H (by simp)
          ·rw [if_neg c57] at H
           exact absurd H (by simp)
         ·rw [if_neg c56] at H
          exact absurd H (by simp)
        ·rw [if_neg c54] at H
         exact absurd H (by simp)
       ·rw [if_neg c53] at H
        exact absurd H (by simp)
      ·rw [if_neg c52] at H
       exact absurd H (by simp)
 ·replace c3 := Bool.eq_false_iff.mpr c3
  subst c3
  have H1 : (some (⟨#[]⟩ : ByteArray)) = some r := by rw [if_neg (show ¬ (false = true) by decide)] at H; exact H
  clear H
  have H := H1
  clear H1
  obtain rfl := Option.some.inj H
  go_enter Try.func75, Try.ntmps75
  go_wp2_with (first | ((with_reducible refine gate_dst (N := 1) rfl ?_); refine box_event ?hg (N := 1) ?hd (cs := #[.slice A0_0 l0_0.length c0_0, .int .i64 a0_1, .slice A0_2 l0_2.length c0_2]) (t := 26) ?hr ?_; (case hd => rfl); (case hg => rfl); (case hr => first | (go_simp; done) | (go_simp; rfl)); intro gb340 hg w63 hbox hb; have n0_ := Aside0.mk (below_step (hbq HB.out) hb); have n1_ := Aside0.mk (hbox); have n2_ := Aside0.mk ((by rw [hg]; exact (below_size (hbq HB.out)) : w.heap.size ≤ gb340)); have n3_ := Aside0.mk ((by rw [hg]; exact (below_size (hbq HB.out)) : w.heap.size ≤ gb340)); clear HB; revert n0_ n1_ n2_ n3_; intro HB BK340 GW340 GE340; clear hb hbox hg; have hcz64_0 : w63.cell? ⟨gb340, 0, none⟩ = some (.slice A0_0 l0_0.length c0_0) := (blk_cell BK340.out 0).trans rfl; have hcz64_1 : w63.cell? ⟨gb340, 1, none⟩ = some (.int .i64 a0_1) := (blk_cell BK340.out 1).trans rfl; have hcz64_2 : w63.cell? ⟨gb340, 2, none⟩ = some (.slice A0_2 l0_2.length c0_2) := (blk_cell BK340.out 2).trans rfl; have hfz64_0 := blk_frozen BK340.out 0; have hfz64_1 := blk_frozen BK340.out 1; have hfz64_2 := blk_frozen BK340.out 2) | ((with_reducible refine gate_callee (f := 33) rfl ?_); refine goesL_ (some 8) rfl rfl Try.func33 (by kernel_rfl) rfl #[.agg #[.slice A0_0 l0_0.length c0_0, .int .i64 a0_1, .slice A0_2 l0_2.length c0_2]] rfl mpq ?_; (with_reducible refine (spec_PlaceOk.calls k _ _ l0_0 a0_1 _ _ l0_2 false _ ?side1 ?side2 ?side3 ?side4 A2.out).mono ?_); (case side1 => exact coq (Kd.C_below HR0_0.out HB.out)); (case side2 => exact HC0_0.out); (case side3 => exact coq (Kd.C_below HR0_2.out HB.out)); (case side4 => exact HC0_2.out); rintro e w65 ⟨rfl, hb⟩; refine ⟨_, rfl, ?_⟩; have n0_ := Aside0.mk (blk_below (bkq BK340.out) hb); have n1_ := Aside0.mk (below_step (hbqa HB.out) hb); clear BK340 HB; revert n0_ n1_; intro BK340 HB; (try clear hb); (try clear hb2); (try clear hk); (try clear hi)))
  go_ret
  exact ⟨by first | rfl | (simp [errW_none, errW_some] <;> rfl) | (simp [*, errW_none, errW_some] <;> rfl), hbqa HB.out⟩

end Go.Proofs.Ytnhgiincboocaaa.PFnDeskOk
