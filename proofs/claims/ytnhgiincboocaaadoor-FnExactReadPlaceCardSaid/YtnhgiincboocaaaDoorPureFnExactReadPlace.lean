/- ReadPlace answers as the statement says -/
import Derived.Test.YtnhgiincboocaaaDoorTL
namespace Go.Proofs.YtnhgiincboocaaaDoor.Pure
open Go.RowKit Go.Proofs.YtnhgiincboocaaaDoor.PFnExactReadPlace Go.Proofs.YtnhgiincboocaaaDoorW.PrintWords Go.Proofs.YtnhgiincboocaaaDoorW.PrintLast Go.Proofs.YtnhgiincboocaaaDoor.PFnExactReadPlacePure

theorem FnExactReadPlace : laws_FnExactReadPlace.Pure := by
  exact fun a0 _ => (law_ev a0).rounds

end Go.Proofs.YtnhgiincboocaaaDoor.Pure
