/- The pure law of StoreOk: of two texts that can be held and whatever number, the law's Lean function says yes, with enough rounds. -/
import Derived.Test.YtnhgiincboocaaaDoorUL
namespace Go.Proofs.YtnhgiincboocaaaDoor.Pure
open Go.RowKit Go.Proofs.YtnhgiincboocaaaDoor.PFnExactStoreOk Go.Proofs.YtnhgiincboocaaaDoorW.PrintWords Go.Proofs.YtnhgiincboocaaaDoorW.PrintLast Go.Proofs.YtnhgiincboocaaaDoor.PFnExactStoreOkPure

theorem FnExactStoreOk (a b : ByteArray) (n : Int) (ha : a.size ≤ maxLen) (hb : b.size ≤ maxLen) : ∃ k, laws_FnExactStoreOk.f k a b n = some true :=
  (law_ev a b n ha hb).rounds

end Go.Proofs.YtnhgiincboocaaaDoor.Pure
