/- FnPlaceText: the law's Lean function says yes for every row of bytes. The texts of drawn places agree, and ReadPlace reads the text of a place as that place. -/
import Derived.Test.YtkfnehgmgebcbaaDoorLM
namespace Go.Proofs.YtkfnehgmgebcbaaDoor.Pure
open Go.RowKit Go.Proofs.YtkfnehgmgebcbaaDoor.PFnPlaceText Go.Proofs.YtkfnehgmgebcbaaDoorW.PrintWords Go.Proofs.YtkfnehgmgebcbaaDoorW.PrintLast Go.Proofs.YtkfnehgmgebcbaaDoor.PFnPlaceTextPure

theorem FnPlaceText : laws_FnPlaceText.Pure := by
  exact fun l _ _ hw => (law_ev l hw).rounds

end Go.Proofs.YtkfnehgmgebcbaaDoor.Pure
