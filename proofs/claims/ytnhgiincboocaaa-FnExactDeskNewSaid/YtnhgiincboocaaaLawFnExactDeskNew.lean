-- the row of FnExactDeskNew, written by wip/tools/rowplace.py (my own program)
import Derived.Test.YtnhgiincboocaaaRows
import Derived.Test.YtnhgiincboocaaaPFnExactDeskNewx7
import Derived.Test.YtnhgiincboocaaaPureFnExactDeskNew
import Derived.WalkKit
import Derived.ProofKit
import Derived.OpenShut
import Derived.ShutString
import Derived.ChangeOld
import Derived.Below
import Derived.SizedLaws
import Derived.Lib.SmallJoins
namespace Go.Proofs.Ytnhgiincboocaaa.fnExactDeskNew
open Go.ChangeShapes Go.WideShapes Go.ChangeAt Go.RowKit
open Go.ChangeMaps (open_string shut_string)
open Go.Proofs.YtnhgiincboocaaaW.PrintWords
set_option linter.unusedVariables false
theorem own : ownKnob Try.prog.godebug = none := by kernel_rfl
theorem laidOut : laidOutB Try.prog = true := by kernel_rfl
theorem cells24 : Try.prog.cellsOf 24 = 3 := by kernel_rfl
/-- A slice of ints that came in, as the walk wants it. -/
theorem ints_in {H : Type} {enc : TypeId × Value → H} {W : World} {base : Nat} {spare : Nat → Bool} {held : Bool} {fuel : Nat} {v : Value} {y : DataW H × List MemPlace}
    (h : DataW.trod enc Try.prog W base spare held fuel 22 [v] = some y) :
    ∃ (a : Option Addr) (l : List Int) (c : Nat), v = .slice a l.length c ∧ Kd.C (Kd.int .i64) W a l.length l ∧ l.length ≤ c ∧ l.length ≤ maxLen := by
  rcases open_ints Try.underlying22 Try.underlying3 (by kernel_rfl) h with ⟨hcs, _⟩ | ⟨x, l, c, zs, hcs, _, hl, hm, hz, _, hcell, hwz⟩
  · injection hcs with h1 _
    subst h1
    obtain ⟨l2, e, hr, hm2, hw2, hc2⟩ := ReadsInt.ofRowC (k := .i64) (w := W) (a := none) (len := 0) (cap := 0) (zs := []) (.inl ⟨rfl, rfl, rfl, rfl⟩)
    exact ⟨none, l2, 0, by rw [← e], Kd.C_of_reads (d := (0 : Int)) (h1 := fun _ => rfl) hr, hc2, hm2⟩
  · injection hcs with h1 _
    subst h1
    by_cases hs : spare x.block = true
    · rw [if_pos hs] at hz
      obtain ⟨l2, e, hr, hm2, hw2, hc2⟩ := ReadsInt.ofRowC (k := .i64) (w := W) (a := some x) (len := l) (cap := c) (zs := zs) (.inr ⟨x, rfl, hl, hm, hz, hcell, hwz⟩)
      exact ⟨some x, l2, c, by rw [← e], Kd.C_of_reads (d := (0 : Int)) (h1 := fun _ => rfl) hr, hc2, hm2⟩
    · rw [if_neg hs] at hz
      obtain ⟨l2, e, hr, hm2, hw2, hc2⟩ := ReadsInt.ofRowC (k := .i64) (w := W) (a := some x) (len := l) (cap := l) (zs := zs) (.inr ⟨x, rfl, Nat.le_refl _, by omega, hz, hcell, hwz⟩)
      exact ⟨some x, l2, c, by rw [← e], Kd.C_of_reads (d := (0 : Int)) (h1 := fun _ => rfl) hr, by omega, hm2⟩
set_option maxRecDepth 100000 in
theorem lifted (os : Os) (started : os.Started) (H : Type) (enc : TypeId × Value → H) :
    ReturnsInHanded {} Try.checked os 3 .any (Rows.fnExactDeskNewSpec.pre6 enc Try.prog Try.f3 Rows.fnExactDeskNewRow.domain false) (Rows.fnExactDeskNewSpec.post enc Try.prog Try.f3 false true false false) := by
  refine returnsInHanded_of_change_sized (C := Try.checked) own started (by kernel_rfl) Try.func3
    (ChangeSpec.witness6 (enc := enc) (C := Try.checked) false ⟨#[], #[.agg #[.slice none 0 0, .int .i64 0, .slice none 0 0]], []⟩ 8 (by kernel_rfl) (by kernel_rfl) (by kernel_rfl) (by kernel_rfl)) ?_
  intro W base args ds gs before hval0 hW hcnd hsz0 _
  have hval : ∀ (j : Nat) t v, Try.f3.params[j]? = some t → args[j]? = some v → Value.okWide Try.prog W .any base t v := hval0
  have hW' := hW
  obtain ⟨p, q, hA0, hV, rfl, hfz, hnd⟩ := hW
  have hA : DataW.TrodAll enc Try.prog W 0 (fun _ => true) true Try.f3.params.toList args.toList ds p := hA0
  rw [Try.params3] at hA hval
  obtain ⟨v0, vs0, d0, ds0, p0, q0, hargs, rfl, rfl, h0, r0⟩ := trodAll_cons hA
  obtain ⟨rfl, rfl, rfl⟩ := trodAll_nil r0
  obtain rfl : args = #[v0] := by cases args; simp_all
  obtain ⟨rfl, rfl⟩ := trodVars_none hV
  have k0 := h0
  have lt0 : ∀ x ∈ p0, x.block < W.heap.size := by obtain ⟨m, hm⟩ := k0; exact DataW.trod_lt m _ _ _ hm
  obtain ⟨c0, c1, c2, y0, y1, y2, m, hv0, _, _, g0, g1, g2⟩ := Go.Joins.open_agg3 Try.underlying24 (by kernel_rfl) cells24 (hval 0 24 v0 rfl rfl) h0
  subst hv0
  obtain ⟨A0, l0, cap0, rfl, hr0, hc0, hm0⟩ := ints_in g0
  obtain ⟨x1, e1, _, _⟩ := DataW.trod_int Try.underlying3 g1
  injection e1 with e1 _
  subst e1
  obtain ⟨A2, l2, cap2, rfl, hr2, hc2, hm2⟩ := ints_in g2
  clear hA0 hval0 hsz0
  obtain ⟨k, hk⟩ := Pure.FnExactDeskNew l0 x1 l2 hm0 hm2
  refine (PFnExactDeskNew.laws_FnExactDeskNew.calls k A0 cap0 l0 x1 A2 cap2 l2 true W hr0 hc0 hr2 hc2 hk).mono fun e W' ⟨he, bel⟩ => ?_
  subst he
  exact ⟨_, rfl, _, _, _, [], _, [], hW', trodAll_mk1 (shut_bool Try.underlying4 _), (trodAll_cons_mk (Below.trod laidOut (by kernel_rfl) (of_decide_eq_true (by kernel_rfl)) k0 bel lt0) trodAll_mk0), rfl, bel.frame _, fun h => by cases h⟩
theorem over : Rows.fnExactDeskNewRow.holds Try.pinned (OpenSpec.ofChange Rows.fnExactDeskNewSpec) :=
  OpenClaim.holds_of_wide 3 Try.f3 rfl rfl rfl rfl rfl rfl rfl ⟨rfl, rfl, rfl, rfl, rfl⟩ rfl rfl rfl rfl rfl (by kernel_rfl) Try.func3 (by kernel_rfl)
    (of_decide_eq_true (by kernel_rfl)) (by unfold Func.isWrapper; first | (rw [if_pos (by decide +kernel)]; kernel_rfl) | (rw [if_neg (by decide +kernel)]; exact ⟨rfl, rfl⟩))
    (fun os started H enc _ => lifted os started H enc)
theorem proved : Rows.FnExactDeskNewSaid := over
#print axioms proved
end Go.Proofs.Ytnhgiincboocaaa.fnExactDeskNew
namespace Go.Proofs.Ytnhgiincboocaaa
/-- The row, under a short name, for the claim. -/
theorem fnExactDeskNew_holds : Rows.FnExactDeskNewSaid := fnExactDeskNew.proved
end Go.Proofs.Ytnhgiincboocaaa
