/- Proved: the program's SquareWindings returns what the reference's returns, for all rows, columns and states, leaves its state as it was, and shares no memory with another call; conditions: none. -/
import Derived.Test.YtnhgiincboocaaaQD
namespace Go.Proofs.Ytnhgiincboocaaa.Pure
open Go.RowKit Go.Proofs.Ytnhgiincboocaaa.PFnExactSquareWindings Go.Proofs.YtnhgiincboocaaaW.PrintWords Go.Proofs.YtnhgiincboocaaaW.PrintLast Go.Proofs.Ytnhgiincboocaaa.PFnExactSquareWindingsPure

theorem FnExactSquareWindings : laws_FnExactSquareWindings.Pure := by
  intro r c st _ _ _ _ _; exact (law_ev r c st).rounds

end Go.Proofs.Ytnhgiincboocaaa.Pure
