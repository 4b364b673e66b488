/-
  DERIVED. GIVEN WITH THE SEED: THE CARDS: each row of YtmnbgamnbgdnnaaGreatDoorRows.lean that lists a variable, with what it lists TIED to the program's text (the seventh form; the later family's looks); each row that meets fmt, with fmt's text TOLD by the authors' own Lean function (tested against real Go, not proved from fmt's source: count such statements apart). THE CARD IS WHAT COUNTS. Prove the row's statement (the work); the ties are given (YtmnbgamnbgdnnaaGreatDoorTie.lean); close each card by the builder's one call (the guide's Derived/Test/ToyasCard.lean, 'card_holds'). Laid BY PROGRAM, IN A SANDBOX (cutbox-door.mjs). By AI agents, Wed Nov 11 2026. No macro, syntax, notation, axiom, sorry.
-/
import Derived.Test.YtmnbgamnbgdnnaaGreatDoorRows
import GoSem.ClaimSeven
namespace Go.Proofs.YtmnbgamnbgdnnaaGreatDoor
namespace Rows

/-- THE TIED CARD OF 'juntolaw12.CircChecks'. -/
def circChecksCard : Claim7 := { stood := { row := circChecksRow, standIns := [], harness := (true, "48b961e536a256bcf81b078dcf662a3133d0263dde3e02adaa6157a2ae7aef95"), looks := true }, kinds := [], alts := [], laidByText := true, laidKinds := [.data, .data, .data, .data, .sentinel, .sentinel, .pinned], laidTests := true, laidLooks := .later }
def CircChecksCardSaid : Prop := Claim7.holds Tryz.pinned (.plain (OpenSpec.ofChange circChecksSpec)) circChecksCard

/-- THE TIED CARD OF 'juntolaw12.CircRuns'. -/
def circRunsCard : Claim7 := { stood := { row := circRunsRow, standIns := [], harness := (true, "48b961e536a256bcf81b078dcf662a3133d0263dde3e02adaa6157a2ae7aef95"), looks := true }, kinds := [], alts := [], laidByText := true, laidKinds := [.data, .data, .data, .data, .sentinel, .sentinel, .pinned], laidTests := true, laidLooks := .later }
def CircRunsCardSaid : Prop := Claim7.holds Tryz.pinned (.plain (OpenSpec.ofChange circRunsSpec)) circRunsCard

/-- THE TIED CARD OF 'juntolaw12.CircWrites'. -/
def circWritesCard : Claim7 := { stood := { row := circWritesRow, standIns := [], harness := (true, "48b961e536a256bcf81b078dcf662a3133d0263dde3e02adaa6157a2ae7aef95"), looks := true }, kinds := [], alts := [], laidByText := true, laidKinds := [.data, .data, .data, .data, .sentinel, .sentinel, .pinned], laidTests := true, laidLooks := .later }
def CircWritesCardSaid : Prop := Claim7.holds Tryz.pinned (.plain (OpenSpec.ofChange circWritesSpec)) circWritesCard

/-- THE TIED CARD OF 'juntolaw12.CircReads'. -/
def circReadsCard : Claim7 := { stood := { row := circReadsRow, standIns := [], harness := (true, "48b961e536a256bcf81b078dcf662a3133d0263dde3e02adaa6157a2ae7aef95"), looks := true }, kinds := [], alts := [], laidByText := true, laidKinds := [.data, .data, .data, .data, .sentinel, .sentinel, .pinned], laidTests := true, laidLooks := .later }
def CircReadsCardSaid : Prop := Claim7.holds Tryz.pinned (.plain (OpenSpec.ofChange circReadsSpec)) circReadsCard

/-- THE TIED CARD OF 'juntolaw12.CircLines'. -/
def circLinesCard : Claim7 := { stood := { row := circLinesRow, standIns := [], harness := (true, "48b961e536a256bcf81b078dcf662a3133d0263dde3e02adaa6157a2ae7aef95"), looks := true }, kinds := [], alts := [], laidByText := true, laidKinds := [.data, .data, .data, .data, .sentinel, .sentinel, .pinned], laidTests := true, laidLooks := .later }
def CircLinesCardSaid : Prop := Claim7.holds Tryz.pinned (.plain (OpenSpec.ofChange circLinesSpec)) circLinesCard

/-- THE TIED CARD OF 'juntolaw12.CircFits'. -/
def circFitsCard : Claim7 := { stood := { row := circFitsRow, standIns := [], harness := (true, "48b961e536a256bcf81b078dcf662a3133d0263dde3e02adaa6157a2ae7aef95"), looks := true }, kinds := [], alts := [], laidByText := true, laidKinds := [.data, .data, .data, .data, .sentinel, .sentinel, .pinned], laidTests := true, laidLooks := .later }
def CircFitsCardSaid : Prop := Claim7.holds Tryz.pinned (.plain (OpenSpec.ofChange circFitsSpec)) circFitsCard

/-- THE TIED CARD OF 'juntolaw12.CircDegrees'. -/
def circDegreesCard : Claim7 := { stood := { row := circDegreesRow, standIns := [], harness := (true, "48b961e536a256bcf81b078dcf662a3133d0263dde3e02adaa6157a2ae7aef95"), looks := true }, kinds := [], alts := [], laidByText := true, laidKinds := [.data, .data, .data, .data, .sentinel, .sentinel, .pinned], laidTests := true, laidLooks := .later }
def CircDegreesCardSaid : Prop := Claim7.holds Tryz.pinned (.plain (OpenSpec.ofChange circDegreesSpec)) circDegreesCard

/-- THE SECOND FORM's CARD OF 'juntolaw12.CircChecks'. -/
def circChecksUptoCard : Claim7 := { stood := { row := circChecksUptoRow, standIns := [], harness := (true, "48b961e536a256bcf81b078dcf662a3133d0263dde3e02adaa6157a2ae7aef95"), looks := true }, kinds := [], alts := [], laidByText := true, laidKinds := [.data, .data, .data, .data, .sentinel, .sentinel, .pinned], laidTests := true, laidLooks := .later }
def CircChecksUptoCardSaid : Prop := Claim7.holds Tryz.pinned (.plain (OpenSpec.upto circChecksSpec)) circChecksUptoCard

/-- THE SECOND FORM's CARD OF 'juntolaw12.CircRuns'. -/
def circRunsUptoCard : Claim7 := { stood := { row := circRunsUptoRow, standIns := [], harness := (true, "48b961e536a256bcf81b078dcf662a3133d0263dde3e02adaa6157a2ae7aef95"), looks := true }, kinds := [], alts := [], laidByText := true, laidKinds := [.data, .data, .data, .data, .sentinel, .sentinel, .pinned], laidTests := true, laidLooks := .later }
def CircRunsUptoCardSaid : Prop := Claim7.holds Tryz.pinned (.plain (OpenSpec.upto circRunsSpec)) circRunsUptoCard

/-- THE SECOND FORM's CARD OF 'juntolaw12.CircWrites'. -/
def circWritesUptoCard : Claim7 := { stood := { row := circWritesUptoRow, standIns := [], harness := (true, "48b961e536a256bcf81b078dcf662a3133d0263dde3e02adaa6157a2ae7aef95"), looks := true }, kinds := [], alts := [], laidByText := true, laidKinds := [.data, .data, .data, .data, .sentinel, .sentinel, .pinned], laidTests := true, laidLooks := .later }
def CircWritesUptoCardSaid : Prop := Claim7.holds Tryz.pinned (.plain (OpenSpec.upto circWritesSpec)) circWritesUptoCard

/-- THE SECOND FORM's CARD OF 'juntolaw12.CircReads'. -/
def circReadsUptoCard : Claim7 := { stood := { row := circReadsUptoRow, standIns := [], harness := (true, "48b961e536a256bcf81b078dcf662a3133d0263dde3e02adaa6157a2ae7aef95"), looks := true }, kinds := [], alts := [], laidByText := true, laidKinds := [.data, .data, .data, .data, .sentinel, .sentinel, .pinned], laidTests := true, laidLooks := .later }
def CircReadsUptoCardSaid : Prop := Claim7.holds Tryz.pinned (.plain (OpenSpec.upto circReadsSpec)) circReadsUptoCard

/-- THE SECOND FORM's CARD OF 'juntolaw12.CircLines'. -/
def circLinesUptoCard : Claim7 := { stood := { row := circLinesUptoRow, standIns := [], harness := (true, "48b961e536a256bcf81b078dcf662a3133d0263dde3e02adaa6157a2ae7aef95"), looks := true }, kinds := [], alts := [], laidByText := true, laidKinds := [.data, .data, .data, .data, .sentinel, .sentinel, .pinned], laidTests := true, laidLooks := .later }
def CircLinesUptoCardSaid : Prop := Claim7.holds Tryz.pinned (.plain (OpenSpec.upto circLinesSpec)) circLinesUptoCard

/-- THE SECOND FORM's CARD OF 'juntolaw12.CircFits'. -/
def circFitsUptoCard : Claim7 := { stood := { row := circFitsUptoRow, standIns := [], harness := (true, "48b961e536a256bcf81b078dcf662a3133d0263dde3e02adaa6157a2ae7aef95"), looks := true }, kinds := [], alts := [], laidByText := true, laidKinds := [.data, .data, .data, .data, .sentinel, .sentinel, .pinned], laidTests := true, laidLooks := .later }
def CircFitsUptoCardSaid : Prop := Claim7.holds Tryz.pinned (.plain (OpenSpec.upto circFitsSpec)) circFitsUptoCard

/-- THE SECOND FORM's CARD OF 'juntolaw12.CircDegrees'. -/
def circDegreesUptoCard : Claim7 := { stood := { row := circDegreesUptoRow, standIns := [], harness := (true, "48b961e536a256bcf81b078dcf662a3133d0263dde3e02adaa6157a2ae7aef95"), looks := true }, kinds := [], alts := [], laidByText := true, laidKinds := [.data, .data, .data, .data, .sentinel, .sentinel, .pinned], laidTests := true, laidLooks := .later }
def CircDegreesUptoCardSaid : Prop := Claim7.holds Tryz.pinned (.plain (OpenSpec.upto circDegreesSpec)) circDegreesUptoCard
end Rows
end Go.Proofs.YtmnbgamnbgdnnaaGreatDoor
