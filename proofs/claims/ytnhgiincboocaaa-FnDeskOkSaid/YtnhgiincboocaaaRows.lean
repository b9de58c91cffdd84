/-
  No cell of these rows narrows 'for every input' (looked for: loops, veiled, ifaces, maps, wideKeys, modest, calm, conditions, laid).
  DERIVED. THE GIVEN ROWS OF THIS SEAT. 4 by the template 'for every input the law returns true; each argument reads behind the call as it read before'; 0 by the template 'total and deterministic' (their statements: YtnhgiincboocaaaTotals.lean).
  GIVEN WITH THE SEED: the statements are not yours to turn. If you find one false, say at which input.
  Laid BY PROGRAM, IN A SANDBOX (cutbox-rows.mjs): the forced cells as the released guide's own fill.sh prints them over the translation 2962abcb90a7c31f… (all of the seat's roots in one cut). By AI agents, Wed Nov 11 2026. No macro, syntax, notation, axiom, sorry.
-/
import Derived.Test.YtnhgiincboocaaaChecked
import GoSem.Claim
import GoSem.ClaimJoined
import GoSem.ClaimMapViews
import Derived.JoinedTies
import Derived.KernelRfl
namespace Go.Proofs.Ytnhgiincboocaaa
/- THE CELL 'sum', in the pinned program and in every row, IS THE sha256 OF THE DUMP (.gsa) THAT YtnhgiincboocaaaProg.lean LOADS. Nothing in Lean hashes anything: it is a label: what it is worth is what the hold of that sum in a sandbox is worth. -/
noncomputable def Try.pinned : Pinned := { name := "ytnhgiincboocaaa", sum := "2962abcb90a7c31f5ea448b56c4a965a90606df1e9bb59bd904c45589732cd0f", checked := Try.checked }
namespace Rows
def none {H : Type} : Left H := { results := [], args := [] }

/-- 'laws.FnExactDeskNew': WHATEVER THE INPUT: true; the input reads as it did. -/
def fnExactDeskNewSpec : ChangeSpec := { name := "fnExactDeskNew", fn := fun _ => fun
  | [d] => { results := [.lit (.bool true)], args := [d] }
  | _ => none }
def fnExactDeskNewRow : OpenClaim := { program := "ytnhgiincboocaaa", sum := "2962abcb90a7c31f5ea448b56c4a965a90606df1e9bb59bd904c45589732cd0f", func := "loop.example/firingnets/laws.FnExactDeskNew", spec := "fnExactDeskNew", apart := false }
def FnExactDeskNewSaid : Prop := fnExactDeskNewRow.holds Try.pinned (OpenSpec.ofChange fnExactDeskNewSpec)

/-- ITS FALSE NEIGHBOUR: 'it returns false'. Refute it at one input. -/
def fnExactDeskNewWrong : ChangeSpec := { name := "fnExactDeskNew", fn := fun _ => fun
  | [d] => { results := [.lit (.bool false)], args := [d] }
  | _ => none }
def FnExactDeskNewWrongFalsely : Prop := fnExactDeskNewRow.holds Try.pinned (OpenSpec.ofChange fnExactDeskNewWrong)

/-- 'laws.FnExactSquareWindings': WHATEVER THE INPUT: true; the input reads as it did. -/
def fnExactSquareWindingsSpec : ChangeSpec := { name := "fnExactSquareWindings", fn := fun _ => fun
  | [d1, d2, d3] => { results := [.lit (.bool true)], args := [d1, d2, d3] }
  | _ => none }
def fnExactSquareWindingsRow : OpenClaim := { program := "ytnhgiincboocaaa", sum := "2962abcb90a7c31f5ea448b56c4a965a90606df1e9bb59bd904c45589732cd0f", func := "loop.example/firingnets/laws.FnExactSquareWindings", spec := "fnExactSquareWindings", unfollowed := true, recurses := true, apart := false }
def FnExactSquareWindingsSaid : Prop := fnExactSquareWindingsRow.holds Try.pinned (OpenSpec.ofChange fnExactSquareWindingsSpec)

/-- ITS FALSE NEIGHBOUR: 'it returns false'. Refute it at one input. -/
def fnExactSquareWindingsWrong : ChangeSpec := { name := "fnExactSquareWindings", fn := fun _ => fun
  | [d1, d2, d3] => { results := [.lit (.bool false)], args := [d1, d2, d3] }
  | _ => none }
def FnExactSquareWindingsWrongFalsely : Prop := fnExactSquareWindingsRow.holds Try.pinned (OpenSpec.ofChange fnExactSquareWindingsWrong)

/-- 'laws.FnSquareWindings': WHATEVER THE INPUT: true; the input reads as it did. -/
def fnSquareWindingsSpec : ChangeSpec := { name := "fnSquareWindings", fn := fun _ => fun
  | [d] => { results := [.lit (.bool true)], args := [d] }
  | _ => none }
def fnSquareWindingsRow : OpenClaim := { program := "ytnhgiincboocaaa", sum := "2962abcb90a7c31f5ea448b56c4a965a90606df1e9bb59bd904c45589732cd0f", func := "loop.example/firingnets/laws.FnSquareWindings", spec := "fnSquareWindings", unfollowed := true, recurses := true, apart := false }
def FnSquareWindingsSaid : Prop := fnSquareWindingsRow.holds Try.pinned (OpenSpec.ofChange fnSquareWindingsSpec)

/-- ITS FALSE NEIGHBOUR: 'it returns false'. Refute it at one input. -/
def fnSquareWindingsWrong : ChangeSpec := { name := "fnSquareWindings", fn := fun _ => fun
  | [d] => { results := [.lit (.bool false)], args := [d] }
  | _ => none }
def FnSquareWindingsWrongFalsely : Prop := fnSquareWindingsRow.holds Try.pinned (OpenSpec.ofChange fnSquareWindingsWrong)

/-- 'laws.FnDeskOk': WHATEVER THE INPUT: true; the input reads as it did. -/
def fnDeskOkSpec : ChangeSpec := { name := "fnDeskOk", fn := fun _ => fun
  | [d] => { results := [.lit (.bool true)], args := [d] }
  | _ => none }
def fnDeskOkRow : OpenClaim := { program := "ytnhgiincboocaaa", sum := "2962abcb90a7c31f5ea448b56c4a965a90606df1e9bb59bd904c45589732cd0f", func := "loop.example/firingnets/laws.FnDeskOk", spec := "fnDeskOk", recurses := true, apart := false }
def FnDeskOkSaid : Prop := fnDeskOkRow.holds Try.pinned (OpenSpec.ofChange fnDeskOkSpec)

/-- ITS FALSE NEIGHBOUR: 'it returns false'. Refute it at one input. -/
def fnDeskOkWrong : ChangeSpec := { name := "fnDeskOk", fn := fun _ => fun
  | [d] => { results := [.lit (.bool false)], args := [d] }
  | _ => none }
def FnDeskOkWrongFalsely : Prop := fnDeskOkRow.holds Try.pinned (OpenSpec.ofChange fnDeskOkWrong)

/- THE SECOND FORM. 'bulk': how many values and letters a reading holds, each counted each time it is reached (what is shared counts as often as it is met; a slice's spare places count too). A statement '..UptoSaid' is the law's where the arguments, and the package variables that the reading takes, are together of bulk at most 1048576: NARROWER than '..Said'. Prove '..Said' where nothing that the law and all that it calls make is longer than what came in: it says more and counts as full. Else prove '..UptoSaid'. A law counts once. -/
mutual
def uptoBulk {H : Type} : DataW H → Nat
  | .lit (.string bytes) => bytes.length + 1
  | .lit _ => 1
  | .nil => 1
  | .ptr d => uptoBulk d + 1
  | .slice elems spare => uptoBulkAll elems + uptoBulkAll spare + 1
  | .agg parts => uptoBulkAll parts + 1
  | .iface _ d => uptoBulk d + 1
  | .map entries => uptoBulkEntries entries + 1
  | .held _ => 1
def uptoBulkAll {H : Type} : List (DataW H) → Nat
  | [] => 0
  | d :: r => uptoBulk d + uptoBulkAll r
def uptoBulkEntries {H : Type} : List (Lit × DataW H) → Nat
  | [] => 0
  | x :: r => uptoBulkEntry x + uptoBulkEntries r
def uptoBulkEntry {H : Type} : Lit × DataW H → Nat
  | (.string bytes, d) => bytes.length + uptoBulk d + 1
  | (_, d) => uptoBulk d + 1
 end
def uptoSmall : (H : Type) → List (DataW H) → Bool := fun _ ds => decide (uptoBulkAll ds ≤ 1048576)
def OpenSpec.upto (s : _root_.Go.ChangeSpec) : _root_.Go.OpenSpec := { _root_.Go.OpenSpec.ofChange s with cond := some uptoSmall }

/-- 'laws.FnExactDeskNew', WHERE WHAT IT READS IS OF BULK AT MOST 1048576: true; the input reads as it did. -/
def fnExactDeskNewUptoRow : OpenClaim := { program := "ytnhgiincboocaaa", sum := "2962abcb90a7c31f5ea448b56c4a965a90606df1e9bb59bd904c45589732cd0f", func := "loop.example/firingnets/laws.FnExactDeskNew", spec := "fnExactDeskNew", apart := false, narrowed := true }
def FnExactDeskNewUptoSaid : Prop := fnExactDeskNewUptoRow.holds Try.pinned (OpenSpec.upto fnExactDeskNewSpec)

/-- 'laws.FnExactSquareWindings', WHERE WHAT IT READS IS OF BULK AT MOST 1048576: true; the input reads as it did. -/
def fnExactSquareWindingsUptoRow : OpenClaim := { program := "ytnhgiincboocaaa", sum := "2962abcb90a7c31f5ea448b56c4a965a90606df1e9bb59bd904c45589732cd0f", func := "loop.example/firingnets/laws.FnExactSquareWindings", spec := "fnExactSquareWindings", unfollowed := true, recurses := true, apart := false, narrowed := true }
def FnExactSquareWindingsUptoSaid : Prop := fnExactSquareWindingsUptoRow.holds Try.pinned (OpenSpec.upto fnExactSquareWindingsSpec)

/-- 'laws.FnSquareWindings', WHERE WHAT IT READS IS OF BULK AT MOST 1048576: true; the input reads as it did. -/
def fnSquareWindingsUptoRow : OpenClaim := { program := "ytnhgiincboocaaa", sum := "2962abcb90a7c31f5ea448b56c4a965a90606df1e9bb59bd904c45589732cd0f", func := "loop.example/firingnets/laws.FnSquareWindings", spec := "fnSquareWindings", unfollowed := true, recurses := true, apart := false, narrowed := true }
def FnSquareWindingsUptoSaid : Prop := fnSquareWindingsUptoRow.holds Try.pinned (OpenSpec.upto fnSquareWindingsSpec)

/-- 'laws.FnDeskOk', WHERE WHAT IT READS IS OF BULK AT MOST 1048576: true; the input reads as it did. -/
def fnDeskOkUptoRow : OpenClaim := { program := "ytnhgiincboocaaa", sum := "2962abcb90a7c31f5ea448b56c4a965a90606df1e9bb59bd904c45589732cd0f", func := "loop.example/firingnets/laws.FnDeskOk", spec := "fnDeskOk", recurses := true, apart := false, narrowed := true }
def FnDeskOkUptoSaid : Prop := fnDeskOkUptoRow.holds Try.pinned (OpenSpec.upto fnDeskOkSpec)

end Rows
end Go.Proofs.Ytnhgiincboocaaa
