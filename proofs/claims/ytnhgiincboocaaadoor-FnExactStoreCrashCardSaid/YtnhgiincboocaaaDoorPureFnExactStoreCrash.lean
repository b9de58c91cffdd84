/- The pure law of StoreCrash: of two texts that can be held and whatever two numbers, the law's Lean function says yes, with enough rounds. -/
import Derived.Test.YtnhgiincboocaaaDoorXL
namespace Go.Proofs.YtnhgiincboocaaaDoor.Pure
open Go.RowKit Go.Proofs.YtnhgiincboocaaaDoor.PFnExactStoreCrash Go.Proofs.YtnhgiincboocaaaDoorW.PrintWords Go.Proofs.YtnhgiincboocaaaDoorW.PrintLast Go.Proofs.YtnhgiincboocaaaDoor.PFnExactStoreCrashPure

theorem FnExactStoreCrash (a b : ByteArray) (n m : Int) (ha : a.size ≤ maxLen) (hb : b.size ≤ maxLen) : ∃ k, laws_FnExactStoreCrash.f k a b n m = some true :=
  (law_ev a b n m ha hb).rounds

end Go.Proofs.YtnhgiincboocaaaDoor.Pure
