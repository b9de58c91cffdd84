/- Proved: for every place, the program's DeskNew returns what the reference's returns, leaves the place as it was, and shares no memory with it or with another call; conditions: none. -/
import Derived.Test.YtnhgiincboocaaaSA
namespace Go.Proofs.Ytnhgiincboocaaa.Pure
open Go.RowKit Go.Proofs.Ytnhgiincboocaaa.PFnExactDeskNew Go.Proofs.YtnhgiincboocaaaW.PrintWords Go.Proofs.Ytnhgiincboocaaa.PFnExactDeskNewPure

theorem FnExactDeskNew (a : List Int) (kinds : Int) (b : List Int) (ha : a.length ≤ maxLen) (hb : b.length ≤ maxLen) : ∃ k, laws_FnExactDeskNew.f k a kinds b = some true :=
  (law_ev a kinds b ha hb).rounds

end Go.Proofs.Ytnhgiincboocaaa.Pure
