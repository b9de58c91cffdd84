/- FnDeskOk: the law's Lean function says yes for every row of bytes. A drawn desk is judged alike by both sides; without places of before a desk stays one. -/
import Derived.Test.YtnhgiincboocaaaKM
namespace Go.Proofs.Ytnhgiincboocaaa.Pure
open Go.RowKit Go.Proofs.Ytnhgiincboocaaa.PFnDeskOk Go.Proofs.YtnhgiincboocaaaW.PrintWords Go.Proofs.YtnhgiincboocaaaW.PrintLast Go.Proofs.Ytnhgiincboocaaa.PFnDeskOkPure

theorem FnDeskOk : laws_FnDeskOk.Pure := by
  exact fun l _ _ hw => (law_ev l hw).rounds

end Go.Proofs.Ytnhgiincboocaaa.Pure
