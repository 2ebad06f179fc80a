/-
  DERIVED. GIVEN WITH THE SEED: THE CARDS: each row of YtennhlaibefacaaDoorRows.lean that lists a variable, with what it lists TIED to the program's text (the seventh form; the later family's looks); each row that meets fmt, with fmt's text TOLD by the authors' own Lean function (tested against real Go, not proved from fmt's source: count such statements apart). THE CARD IS WHAT COUNTS. Prove the row's statement (the work); the ties are given (YtennhlaibefacaaDoorTie.lean); close each card by the builder's one call (the guide's Derived/Test/ToyasCard.lean, 'card_holds'). Laid BY PROGRAM, IN A SANDBOX (cutbox-door.mjs). By AI agents, Wed Nov 11 2026. No macro, syntax, notation, axiom, sorry.
-/
import Derived.Test.YtennhlaibefacaaDoorRows
import GoSem.ClaimSeven
namespace Go.Proofs.YtennhlaibefacaaDoor
namespace Rows

/-- THE TIED CARD OF 'laws.FnExactNewestSnap'. -/
def fnExactNewestSnapCard : Claim7 := { stood := { row := fnExactNewestSnapRow, standIns := [], harness := (true, "b3100cc1f49e3e5cd46939e74ca3e5bc6bec611c8be370ccf0721de2a50e2f01"), looks := false }, kinds := [], alts := [], laidByText := true, laidKinds := [.data, .data, .data], laidTests := true, laidLooks := .later }
def FnExactNewestSnapCardSaid : Prop := Claim7.holds Tryd.pinned (.plain (OpenSpec.ofChange fnExactNewestSnapSpec)) fnExactNewestSnapCard

/-- THE TIED CARD OF 'laws.FnExactShedActs'. -/
def fnExactShedActsCard : Claim7 := { stood := { row := fnExactShedActsRow, standIns := [], harness := (true, "b3100cc1f49e3e5cd46939e74ca3e5bc6bec611c8be370ccf0721de2a50e2f01"), looks := false }, kinds := [], alts := [], laidByText := true, laidKinds := [.data, .data, .data], laidTests := true, laidLooks := .later }
def FnExactShedActsCardSaid : Prop := Claim7.holds Tryd.pinned (.plain (OpenSpec.ofChange fnExactShedActsSpec)) fnExactShedActsCard

/-- THE SECOND FORM's CARD OF 'laws.FnExactNewestSnap'. -/
def fnExactNewestSnapUptoCard : Claim7 := { stood := { row := fnExactNewestSnapUptoRow, standIns := [], harness := (true, "b3100cc1f49e3e5cd46939e74ca3e5bc6bec611c8be370ccf0721de2a50e2f01"), looks := false }, kinds := [], alts := [], laidByText := true, laidKinds := [.data, .data, .data], laidTests := true, laidLooks := .later }
def FnExactNewestSnapUptoCardSaid : Prop := Claim7.holds Tryd.pinned (.plain (OpenSpec.upto fnExactNewestSnapSpec)) fnExactNewestSnapUptoCard

/-- THE SECOND FORM's CARD OF 'laws.FnExactShedActs'. -/
def fnExactShedActsUptoCard : Claim7 := { stood := { row := fnExactShedActsUptoRow, standIns := [], harness := (true, "b3100cc1f49e3e5cd46939e74ca3e5bc6bec611c8be370ccf0721de2a50e2f01"), looks := false }, kinds := [], alts := [], laidByText := true, laidKinds := [.data, .data, .data], laidTests := true, laidLooks := .later }
def FnExactShedActsUptoCardSaid : Prop := Claim7.holds Tryd.pinned (.plain (OpenSpec.upto fnExactShedActsSpec)) fnExactShedActsUptoCard
end Rows
end Go.Proofs.YtennhlaibefacaaDoor
