/-
  DERIVED. GIVEN WITH THE SEED: THE CARDS: each row of YtkfnehgmgebcbaaDoorRows.lean that lists a variable, with what it lists TIED to the program's text (the seventh form; the later family's looks); each row that meets fmt, with fmt's text TOLD by the authors' own Lean function (tested against real Go, not proved from fmt's source: count such statements apart). THE CARD IS WHAT COUNTS. Prove the row's statement (the work); the ties are given (YtkfnehgmgebcbaaDoorTie.lean); close each card by the builder's one call (the guide's Derived/Test/ToyasCard.lean, 'card_holds'). Laid BY PROGRAM, IN A SANDBOX (cutbox-door.mjs). By AI agents, Wed Nov 11 2026. No macro, syntax, notation, axiom, sorry.
-/
import Derived.Test.YtkfnehgmgebcbaaDoorRows
import GoSem.ClaimSeven
namespace Go.Proofs.YtkfnehgmgebcbaaDoor
namespace Rows

/-- THE TIED CARD OF 'laws.FnExactDeskDo'. -/
def fnExactDeskDoCard : Claim7 := { stood := { row := fnExactDeskDoRow, standIns := [], harness := (true, "bc37547dc090592ac60ae7464e39986a361476d27a05b290a8a13bc8b3f2e47f"), looks := false }, kinds := [], alts := [], laidByText := true, laidKinds := [.data, .data, .data], laidTests := true, laidLooks := .later }
def FnExactDeskDoCardSaid : Prop := Claim7.holds Tryd.pinned (.plain (OpenSpec.ofChange fnExactDeskDoSpec)) fnExactDeskDoCard

/-- THE TIED CARD OF 'laws.FnPlaceText'. -/
def fnPlaceTextCard : Claim7 := { stood := { row := fnPlaceTextRow, standIns := [], harness := (true, "bc37547dc090592ac60ae7464e39986a361476d27a05b290a8a13bc8b3f2e47f"), looks := false }, kinds := [], alts := [], laidByText := true, laidKinds := [.data, .data, .data, .data, .pinned], laidTests := true, laidLooks := .later }
def FnPlaceTextCardSaid : Prop := Claim7.holds Tryd.pinned (.plain (OpenSpec.ofChange fnPlaceTextSpec)) fnPlaceTextCard

/-- THE TIED CARD OF 'laws.FnDeskDo'. -/
def fnDeskDoCard : Claim7 := { stood := { row := fnDeskDoRow, standIns := [], harness := (true, "bc37547dc090592ac60ae7464e39986a361476d27a05b290a8a13bc8b3f2e47f"), looks := false }, kinds := [], alts := [], laidByText := true, laidKinds := [.data, .data, .data], laidTests := true, laidLooks := .later }
def FnDeskDoCardSaid : Prop := Claim7.holds Tryd.pinned (.plain (OpenSpec.ofChange fnDeskDoSpec)) fnDeskDoCard

/-- THE SECOND FORM's CARD OF 'laws.FnExactDeskDo'. -/
def fnExactDeskDoUptoCard : Claim7 := { stood := { row := fnExactDeskDoUptoRow, standIns := [], harness := (true, "bc37547dc090592ac60ae7464e39986a361476d27a05b290a8a13bc8b3f2e47f"), looks := false }, kinds := [], alts := [], laidByText := true, laidKinds := [.data, .data, .data], laidTests := true, laidLooks := .later }
def FnExactDeskDoUptoCardSaid : Prop := Claim7.holds Tryd.pinned (.plain (OpenSpec.upto fnExactDeskDoSpec)) fnExactDeskDoUptoCard

/-- THE SECOND FORM's CARD OF 'laws.FnPlaceText'. -/
def fnPlaceTextUptoCard : Claim7 := { stood := { row := fnPlaceTextUptoRow, standIns := [], harness := (true, "bc37547dc090592ac60ae7464e39986a361476d27a05b290a8a13bc8b3f2e47f"), looks := false }, kinds := [], alts := [], laidByText := true, laidKinds := [.data, .data, .data, .data, .pinned], laidTests := true, laidLooks := .later }
def FnPlaceTextUptoCardSaid : Prop := Claim7.holds Tryd.pinned (.plain (OpenSpec.upto fnPlaceTextSpec)) fnPlaceTextUptoCard

/-- THE SECOND FORM's CARD OF 'laws.FnDeskDo'. -/
def fnDeskDoUptoCard : Claim7 := { stood := { row := fnDeskDoUptoRow, standIns := [], harness := (true, "bc37547dc090592ac60ae7464e39986a361476d27a05b290a8a13bc8b3f2e47f"), looks := false }, kinds := [], alts := [], laidByText := true, laidKinds := [.data, .data, .data], laidTests := true, laidLooks := .later }
def FnDeskDoUptoCardSaid : Prop := Claim7.holds Tryd.pinned (.plain (OpenSpec.upto fnDeskDoSpec)) fnDeskDoUptoCard
end Rows
end Go.Proofs.YtkfnehgmgebcbaaDoor
