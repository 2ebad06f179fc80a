/-
  DERIVED. GIVEN WITH THE SEED: THE CARDS: each row of YtlbmojbkmcpnaaaGreatDoorRows.lean that lists a variable, with what it lists TIED to the program's text (the seventh form; the later family's looks); each row that meets fmt, with fmt's text TOLD by the authors' own Lean function (tested against real Go, not proved from fmt's source: count such statements apart). THE CARD IS WHAT COUNTS. Prove the row's statement (the work); the ties are given (YtlbmojbkmcpnaaaGreatDoorTie.lean); close each card by the builder's one call (the guide's Derived/Test/ToyasCard.lean, 'card_holds'). Laid BY PROGRAM, IN A SANDBOX (cutbox-door.mjs). By AI agents, Wed Nov 11 2026. No macro, syntax, notation, axiom, sorry.
-/
import Derived.Test.YtlbmojbkmcpnaaaGreatDoorRows
import GoSem.ClaimSeven
namespace Go.Proofs.YtlbmojbkmcpnaaaGreatDoor
namespace Rows

/-- THE TIED CARD OF 'laws.FnExactOpenJournal'. -/
def fnExactOpenJournalCard : Claim7 := { stood := { row := fnExactOpenJournalRow, standIns := [], harness := (true, "742cfad5a8217de8014f0581b45b926efb3c1cb7688954f687d25ea3f5631b58"), looks := false }, kinds := [], alts := [], laidByText := true, laidKinds := [.data, .data, .data], laidTests := true, laidLooks := .later }
def FnExactOpenJournalCardSaid : Prop := Claim7.holds Tryz.pinned (.plain (OpenSpec.ofChange fnExactOpenJournalSpec)) fnExactOpenJournalCard

/-- THE TIED CARD OF 'laws.FnExactJournalActs'. -/
def fnExactJournalActsCard : Claim7 := { stood := { row := fnExactJournalActsRow, standIns := [], harness := (true, "742cfad5a8217de8014f0581b45b926efb3c1cb7688954f687d25ea3f5631b58"), looks := false }, kinds := [], alts := [], laidByText := true, laidKinds := [.data, .data, .data], laidTests := true, laidLooks := .later }
def FnExactJournalActsCardSaid : Prop := Claim7.holds Tryz.pinned (.plain (OpenSpec.ofChange fnExactJournalActsSpec)) fnExactJournalActsCard

/-- THE SECOND FORM's CARD OF 'laws.FnExactOpenJournal'. -/
def fnExactOpenJournalUptoCard : Claim7 := { stood := { row := fnExactOpenJournalUptoRow, standIns := [], harness := (true, "742cfad5a8217de8014f0581b45b926efb3c1cb7688954f687d25ea3f5631b58"), looks := false }, kinds := [], alts := [], laidByText := true, laidKinds := [.data, .data, .data], laidTests := true, laidLooks := .later }
def FnExactOpenJournalUptoCardSaid : Prop := Claim7.holds Tryz.pinned (.plain (OpenSpec.upto fnExactOpenJournalSpec)) fnExactOpenJournalUptoCard

/-- THE SECOND FORM's CARD OF 'laws.FnExactJournalActs'. -/
def fnExactJournalActsUptoCard : Claim7 := { stood := { row := fnExactJournalActsUptoRow, standIns := [], harness := (true, "742cfad5a8217de8014f0581b45b926efb3c1cb7688954f687d25ea3f5631b58"), looks := false }, kinds := [], alts := [], laidByText := true, laidKinds := [.data, .data, .data], laidTests := true, laidLooks := .later }
def FnExactJournalActsUptoCardSaid : Prop := Claim7.holds Tryz.pinned (.plain (OpenSpec.upto fnExactJournalActsSpec)) fnExactJournalActsUptoCard
end Rows
end Go.Proofs.YtlbmojbkmcpnaaaGreatDoor
