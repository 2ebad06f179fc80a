/-
  DERIVED. GIVEN WITH THE SEED: THE CARDS: each row of YtbdjcpalpkijcaaGreatDoorRows.lean that lists a variable, with what it lists TIED to the program's text (the seventh form; the later family's looks); each row that meets fmt, with fmt's text TOLD by the authors' own Lean function (tested against real Go, not proved from fmt's source: count such statements apart). THE CARD IS WHAT COUNTS. Prove the row's statement (the work); the ties are given (YtbdjcpalpkijcaaGreatDoorTie.lean); close each card by the builder's one call (the guide's Derived/Test/ToyasCard.lean, 'card_holds'). Laid BY PROGRAM, IN A SANDBOX (cutbox-door.mjs). By AI agents, Wed Nov 11 2026. No macro, syntax, notation, axiom, sorry.
-/
import Derived.Test.YtbdjcpalpkijcaaGreatDoorRows
import GoSem.ClaimSeven
namespace Go.Proofs.YtbdjcpalpkijcaaGreatDoor
namespace Rows

/-- THE TIED CARD OF 'laws.FnExactFormatDisk'. -/
def fnExactFormatDiskCard : Claim7 := { stood := { row := fnExactFormatDiskRow, standIns := [], harness := (true, "f9be085ab1df29c6b0580c56c838c35e9a9d22f2ad7db31a4fef344c0c0fb907"), looks := false }, kinds := [], alts := [], laidByText := true, laidKinds := [.data, .data, .data, .data, .pinned], laidTests := true, laidLooks := .later }
def FnExactFormatDiskCardSaid : Prop := Claim7.holds Tryz.pinned (.plain (OpenSpec.ofChange fnExactFormatDiskSpec)) fnExactFormatDiskCard

/-- THE SECOND FORM's CARD OF 'laws.FnExactFormatDisk'. -/
def fnExactFormatDiskUptoCard : Claim7 := { stood := { row := fnExactFormatDiskUptoRow, standIns := [], harness := (true, "f9be085ab1df29c6b0580c56c838c35e9a9d22f2ad7db31a4fef344c0c0fb907"), looks := false }, kinds := [], alts := [], laidByText := true, laidKinds := [.data, .data, .data, .data, .pinned], laidTests := true, laidLooks := .later }
def FnExactFormatDiskUptoCardSaid : Prop := Claim7.holds Tryz.pinned (.plain (OpenSpec.upto fnExactFormatDiskSpec)) fnExactFormatDiskUptoCard
end Rows
end Go.Proofs.YtbdjcpalpkijcaaGreatDoor
