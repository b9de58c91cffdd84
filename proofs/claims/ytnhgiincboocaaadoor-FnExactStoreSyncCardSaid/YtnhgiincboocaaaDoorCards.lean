/-
  DERIVED. GIVEN WITH THE SEED: THE CARDS: each row of YtnhgiincboocaaaDoorRows.lean that lists a variable, with what it lists TIED to the program's text (the seventh form; the later family's looks); each row that meets fmt, with fmt's text TOLD by the authors' own Lean function (tested against real Go, not proved from fmt's source: count such statements apart). THE CARD IS WHAT COUNTS. Prove the row's statement (the work); the ties are given (YtnhgiincboocaaaDoorTie.lean); close each card by the builder's one call (the guide's Derived/Test/ToyasCard.lean, 'card_holds'). Laid BY PROGRAM, IN A SANDBOX (cutbox-door.mjs). By AI agents, Wed Nov 11 2026. No macro, syntax, notation, axiom, sorry.
-/
import Derived.Test.YtnhgiincboocaaaDoorRows
import GoSem.ClaimSeven
namespace Go.Proofs.YtnhgiincboocaaaDoor
namespace Rows

/-- THE TIED CARD OF 'laws.FnExactStoreOk'. -/
def fnExactStoreOkCard : Claim7 := { stood := { row := fnExactStoreOkRow, standIns := [], harness := (true, "a693625afcc7ed2068d9e9425e7878efd0938c80ab0c72e67d3a451b4085be3d"), looks := false }, kinds := [], alts := [], laidByText := true, laidKinds := [.data, .data, .data, .data, .pinned], laidTests := true, laidLooks := .later }
def FnExactStoreOkCardSaid : Prop := Claim7.holds Tryd.pinned (.plain (OpenSpec.ofChange fnExactStoreOkSpec)) fnExactStoreOkCard

/-- THE TIED CARD OF 'laws.FnExactStoreCrash'. -/
def fnExactStoreCrashCard : Claim7 := { stood := { row := fnExactStoreCrashRow, standIns := [], harness := (true, "a693625afcc7ed2068d9e9425e7878efd0938c80ab0c72e67d3a451b4085be3d"), looks := false }, kinds := [], alts := [], laidByText := true, laidKinds := [.data, .data, .data, .data, .pinned], laidTests := true, laidLooks := .later }
def FnExactStoreCrashCardSaid : Prop := Claim7.holds Tryd.pinned (.plain (OpenSpec.ofChange fnExactStoreCrashSpec)) fnExactStoreCrashCard

/-- THE TIED CARD OF 'laws.FnExactStoreSync'. -/
def fnExactStoreSyncCard : Claim7 := { stood := { row := fnExactStoreSyncRow, standIns := [], harness := (true, "a693625afcc7ed2068d9e9425e7878efd0938c80ab0c72e67d3a451b4085be3d"), looks := false }, kinds := [], alts := [], laidByText := true, laidKinds := [.data, .data, .data, .data, .pinned], laidTests := true, laidLooks := .later }
def FnExactStoreSyncCardSaid : Prop := Claim7.holds Tryd.pinned (.plain (OpenSpec.ofChange fnExactStoreSyncSpec)) fnExactStoreSyncCard

/-- THE TIED CARD OF 'laws.FnExactReadPlace'. -/
def fnExactReadPlaceCard : Claim7 := { stood := { row := fnExactReadPlaceRow, standIns := [], harness := (true, "a693625afcc7ed2068d9e9425e7878efd0938c80ab0c72e67d3a451b4085be3d"), looks := false }, kinds := [], alts := [], laidByText := true, laidKinds := [.data, .data, .data, .data, .pinned], laidTests := true, laidLooks := .later }
def FnExactReadPlaceCardSaid : Prop := Claim7.holds Tryd.pinned (.plain (OpenSpec.ofChange fnExactReadPlaceSpec)) fnExactReadPlaceCard

/-- THE SECOND FORM's CARD OF 'laws.FnExactStoreOk'. -/
def fnExactStoreOkUptoCard : Claim7 := { stood := { row := fnExactStoreOkUptoRow, standIns := [], harness := (true, "a693625afcc7ed2068d9e9425e7878efd0938c80ab0c72e67d3a451b4085be3d"), looks := false }, kinds := [], alts := [], laidByText := true, laidKinds := [.data, .data, .data, .data, .pinned], laidTests := true, laidLooks := .later }
def FnExactStoreOkUptoCardSaid : Prop := Claim7.holds Tryd.pinned (.plain (OpenSpec.upto fnExactStoreOkSpec)) fnExactStoreOkUptoCard

/-- THE SECOND FORM's CARD OF 'laws.FnExactStoreCrash'. -/
def fnExactStoreCrashUptoCard : Claim7 := { stood := { row := fnExactStoreCrashUptoRow, standIns := [], harness := (true, "a693625afcc7ed2068d9e9425e7878efd0938c80ab0c72e67d3a451b4085be3d"), looks := false }, kinds := [], alts := [], laidByText := true, laidKinds := [.data, .data, .data, .data, .pinned], laidTests := true, laidLooks := .later }
def FnExactStoreCrashUptoCardSaid : Prop := Claim7.holds Tryd.pinned (.plain (OpenSpec.upto fnExactStoreCrashSpec)) fnExactStoreCrashUptoCard

/-- THE SECOND FORM's CARD OF 'laws.FnExactStoreSync'. -/
def fnExactStoreSyncUptoCard : Claim7 := { stood := { row := fnExactStoreSyncUptoRow, standIns := [], harness := (true, "a693625afcc7ed2068d9e9425e7878efd0938c80ab0c72e67d3a451b4085be3d"), looks := false }, kinds := [], alts := [], laidByText := true, laidKinds := [.data, .data, .data, .data, .pinned], laidTests := true, laidLooks := .later }
def FnExactStoreSyncUptoCardSaid : Prop := Claim7.holds Tryd.pinned (.plain (OpenSpec.upto fnExactStoreSyncSpec)) fnExactStoreSyncUptoCard

/-- THE SECOND FORM's CARD OF 'laws.FnExactReadPlace'. -/
def fnExactReadPlaceUptoCard : Claim7 := { stood := { row := fnExactReadPlaceUptoRow, standIns := [], harness := (true, "a693625afcc7ed2068d9e9425e7878efd0938c80ab0c72e67d3a451b4085be3d"), looks := false }, kinds := [], alts := [], laidByText := true, laidKinds := [.data, .data, .data, .data, .pinned], laidTests := true, laidLooks := .later }
def FnExactReadPlaceUptoCardSaid : Prop := Claim7.holds Tryd.pinned (.plain (OpenSpec.upto fnExactReadPlaceSpec)) fnExactReadPlaceUptoCard
end Rows
end Go.Proofs.YtnhgiincboocaaaDoor
