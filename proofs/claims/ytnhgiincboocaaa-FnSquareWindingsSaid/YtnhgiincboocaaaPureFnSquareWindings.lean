/- Proved: for every code, the square windings of the drawn grid and state are the reference's, together they are the winding of the border, each is -1, 0 or 1, and the state is flat exactly if all are 0; conditions: none. -/
import Derived.Test.YtnhgiincboocaaaRD
namespace Go.Proofs.Ytnhgiincboocaaa.Pure
open Go.RowKit Go.Proofs.Ytnhgiincboocaaa.PFnSquareWindings Go.Proofs.YtnhgiincboocaaaW.PrintWords Go.Proofs.YtnhgiincboocaaaW.PrintLast Go.Proofs.Ytnhgiincboocaaa.PFnSquareWindingsPure

theorem FnSquareWindings : laws_FnSquareWindings.Pure := by
  intro l _ _ hw; exact (law_ev l hw).rounds

end Go.Proofs.Ytnhgiincboocaaa.Pure
