/-
  DERIVED. GIVEN WITH THE SEED: THE CARDS: each row of YthappdipoofclaaDoorRows.lean that lists a variable, with what it lists TIED to the program's text (the seventh form; the later family's looks); each row that meets fmt, with fmt's text TOLD by the authors' own Lean function (tested against real Go, not proved from fmt's source: count such statements apart). THE CARD IS WHAT COUNTS. Prove the row's statement (the work); the ties are given (YthappdipoofclaaDoorTie.lean); close each card by the builder's one call (the guide's Derived/Test/ToyasCard.lean, 'card_holds'). Laid BY PROGRAM, IN A SANDBOX (cutbox-door.mjs). By AI agents, Wed Nov 11 2026. No macro, syntax, notation, axiom, sorry.
-/
import Derived.Test.YthappdipoofclaaDoorRows
import GoSem.ClaimSeven
namespace Go.Proofs.YthappdipoofclaaDoor
namespace Rows

/-- THE TIED CARD OF 'nacellelaw01.FaultNumbers'. -/
def faultNumbersCard : Claim7 := { stood := { row := faultNumbersRow, standIns := [], harness := (true, "81f26ecce9511057b26178503d939668423f88eb3c2e5a298340c04c7a538b49"), looks := true }, kinds := [], alts := [], laidByText := true, laidKinds := [.handle], laidTests := true, laidLooks := .later }
def FaultNumbersCardSaid : Prop := Claim7.holds Tryd.pinned (.plain (OpenSpec.ofChange faultNumbersSpec)) faultNumbersCard

/-- THE TIED CARD OF 'nacellelaw10.FilterWider'. -/
def filterWiderCard : Claim7 := { stood := { row := filterWiderRow, standIns := [], harness := (true, "81f26ecce9511057b26178503d939668423f88eb3c2e5a298340c04c7a538b49"), looks := true }, kinds := [], alts := [], laidByText := true, laidKinds := [.data, .data, .data, .handle], laidTests := true, laidLooks := .later }
def FilterWiderCardSaid : Prop := Claim7.holds Tryd.pinned (.plain (OpenSpec.ofChange filterWiderSpec)) filterWiderCard

/-- THE TIED CARD OF 'nacellelaw10.FilterCaps'. -/
def filterCapsCard : Claim7 := { stood := { row := filterCapsRow, standIns := [], harness := (true, "81f26ecce9511057b26178503d939668423f88eb3c2e5a298340c04c7a538b49"), looks := true }, kinds := [], alts := [], laidByText := true, laidKinds := [.data, .data, .data, .handle], laidTests := true, laidLooks := .later }
def FilterCapsCardSaid : Prop := Claim7.holds Tryd.pinned (.plain (OpenSpec.ofChange filterCapsSpec)) filterCapsCard

/-- THE TIED CARD OF 'nacellelaw10.FilterCapped'. -/
def filterCappedCard : Claim7 := { stood := { row := filterCappedRow, standIns := [], harness := (true, "81f26ecce9511057b26178503d939668423f88eb3c2e5a298340c04c7a538b49"), looks := true }, kinds := [], alts := [], laidByText := true, laidKinds := [.data, .data, .data, .handle], laidTests := true, laidLooks := .later }
def FilterCappedCardSaid : Prop := Claim7.holds Tryd.pinned (.plain (OpenSpec.ofChange filterCappedSpec)) filterCappedCard

/-- THE TIED CARD OF 'nacellelaw10.FilterAll'. -/
def filterAllCard : Claim7 := { stood := { row := filterAllRow, standIns := [], harness := (true, "81f26ecce9511057b26178503d939668423f88eb3c2e5a298340c04c7a538b49"), looks := true }, kinds := [], alts := [], laidByText := true, laidKinds := [.data, .data, .data, .handle], laidTests := true, laidLooks := .later }
def FilterAllCardSaid : Prop := Claim7.holds Tryd.pinned (.plain (OpenSpec.ofChange filterAllSpec)) filterAllCard

/-- THE TIED CARD OF 'nacellelaw10.FilterChecks'. -/
def filterChecksCard : Claim7 := { stood := { row := filterChecksRow, standIns := [], harness := (true, "81f26ecce9511057b26178503d939668423f88eb3c2e5a298340c04c7a538b49"), looks := true }, kinds := [], alts := [], laidByText := true, laidKinds := [.data, .data, .data, .handle], laidTests := true, laidLooks := .later }
def FilterChecksCardSaid : Prop := Claim7.holds Tryd.pinned (.plain (OpenSpec.ofChange filterChecksSpec)) filterChecksCard

/-- THE TIED CARD OF 'nacellelaw10.FilterPasses'. -/
def filterPassesCard : Claim7 := { stood := { row := filterPassesRow, standIns := [], harness := (true, "81f26ecce9511057b26178503d939668423f88eb3c2e5a298340c04c7a538b49"), looks := true }, kinds := [], alts := [], laidByText := true, laidKinds := [.data, .data, .data, .handle], laidTests := true, laidLooks := .later }
def FilterPassesCardSaid : Prop := Claim7.holds Tryd.pinned (.plain (OpenSpec.ofChange filterPassesSpec)) filterPassesCard

/-- THE SECOND FORM's CARD OF 'nacellelaw01.FaultNumbers'. -/
def faultNumbersUptoCard : Claim7 := { stood := { row := faultNumbersUptoRow, standIns := [], harness := (true, "81f26ecce9511057b26178503d939668423f88eb3c2e5a298340c04c7a538b49"), looks := true }, kinds := [], alts := [], laidByText := true, laidKinds := [.handle], laidTests := true, laidLooks := .later }
def FaultNumbersUptoCardSaid : Prop := Claim7.holds Tryd.pinned (.plain (OpenSpec.upto faultNumbersSpec)) faultNumbersUptoCard

/-- THE SECOND FORM's CARD OF 'nacellelaw10.FilterWider'. -/
def filterWiderUptoCard : Claim7 := { stood := { row := filterWiderUptoRow, standIns := [], harness := (true, "81f26ecce9511057b26178503d939668423f88eb3c2e5a298340c04c7a538b49"), looks := true }, kinds := [], alts := [], laidByText := true, laidKinds := [.data, .data, .data, .handle], laidTests := true, laidLooks := .later }
def FilterWiderUptoCardSaid : Prop := Claim7.holds Tryd.pinned (.plain (OpenSpec.upto filterWiderSpec)) filterWiderUptoCard

/-- THE SECOND FORM's CARD OF 'nacellelaw10.FilterCaps'. -/
def filterCapsUptoCard : Claim7 := { stood := { row := filterCapsUptoRow, standIns := [], harness := (true, "81f26ecce9511057b26178503d939668423f88eb3c2e5a298340c04c7a538b49"), looks := true }, kinds := [], alts := [], laidByText := true, laidKinds := [.data, .data, .data, .handle], laidTests := true, laidLooks := .later }
def FilterCapsUptoCardSaid : Prop := Claim7.holds Tryd.pinned (.plain (OpenSpec.upto filterCapsSpec)) filterCapsUptoCard

/-- THE SECOND FORM's CARD OF 'nacellelaw10.FilterCapped'. -/
def filterCappedUptoCard : Claim7 := { stood := { row := filterCappedUptoRow, standIns := [], harness := (true, "81f26ecce9511057b26178503d939668423f88eb3c2e5a298340c04c7a538b49"), looks := true }, kinds := [], alts := [], laidByText := true, laidKinds := [.data, .data, .data, .handle], laidTests := true, laidLooks := .later }
def FilterCappedUptoCardSaid : Prop := Claim7.holds Tryd.pinned (.plain (OpenSpec.upto filterCappedSpec)) filterCappedUptoCard

/-- THE SECOND FORM's CARD OF 'nacellelaw10.FilterAll'. -/
def filterAllUptoCard : Claim7 := { stood := { row := filterAllUptoRow, standIns := [], harness := (true, "81f26ecce9511057b26178503d939668423f88eb3c2e5a298340c04c7a538b49"), looks := true }, kinds := [], alts := [], laidByText := true, laidKinds := [.data, .data, .data, .handle], laidTests := true, laidLooks := .later }
def FilterAllUptoCardSaid : Prop := Claim7.holds Tryd.pinned (.plain (OpenSpec.upto filterAllSpec)) filterAllUptoCard

/-- THE SECOND FORM's CARD OF 'nacellelaw10.FilterChecks'. -/
def filterChecksUptoCard : Claim7 := { stood := { row := filterChecksUptoRow, standIns := [], harness := (true, "81f26ecce9511057b26178503d939668423f88eb3c2e5a298340c04c7a538b49"), looks := true }, kinds := [], alts := [], laidByText := true, laidKinds := [.data, .data, .data, .handle], laidTests := true, laidLooks := .later }
def FilterChecksUptoCardSaid : Prop := Claim7.holds Tryd.pinned (.plain (OpenSpec.upto filterChecksSpec)) filterChecksUptoCard

/-- THE SECOND FORM's CARD OF 'nacellelaw10.FilterPasses'. -/
def filterPassesUptoCard : Claim7 := { stood := { row := filterPassesUptoRow, standIns := [], harness := (true, "81f26ecce9511057b26178503d939668423f88eb3c2e5a298340c04c7a538b49"), looks := true }, kinds := [], alts := [], laidByText := true, laidKinds := [.data, .data, .data, .handle], laidTests := true, laidLooks := .later }
def FilterPassesUptoCardSaid : Prop := Claim7.holds Tryd.pinned (.plain (OpenSpec.upto filterPassesSpec)) filterPassesUptoCard
end Rows
end Go.Proofs.YthappdipoofclaaDoor
