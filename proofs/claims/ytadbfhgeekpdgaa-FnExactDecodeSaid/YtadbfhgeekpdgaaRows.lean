/-
  No cell of these rows narrows 'for every input' (looked for: loops, veiled, ifaces, maps, wideKeys, modest, calm, conditions, laid).
  DERIVED. THE GIVEN ROWS OF THIS SEAT. 6 by the template 'for every input the law returns true; each argument reads behind the call as it read before'; 0 by the template 'total and deterministic' (their statements: YtadbfhgeekpdgaaTotals.lean).
  GIVEN WITH THE SEED: the statements are not yours to turn. If you find one false, say at which input.
  Laid BY PROGRAM, IN A SANDBOX (cutbox-rows.mjs): the forced cells as the released guide's own fill.sh prints them over the translation 49327a7ff663d4a1… (all of the seat's roots in one cut). By AI agents, Wed Nov 11 2026. No macro, syntax, notation, axiom, sorry.
-/
import Derived.Test.YtadbfhgeekpdgaaChecked
import GoSem.Claim
import GoSem.ClaimJoined
import GoSem.ClaimMapViews
import Derived.JoinedTies
import Derived.KernelRfl
namespace Go.Proofs.Ytadbfhgeekpdgaa
/- THE CELL 'sum', in the pinned program and in every row, IS THE sha256 OF THE DUMP (.gsa) THAT YtadbfhgeekpdgaaProg.lean LOADS. Nothing in Lean hashes anything: it is a label: what it is worth is what the hold of that sum in a sandbox is worth. -/
noncomputable def Try.pinned : Pinned := { name := "ytadbfhgeekpdgaa", sum := "49327a7ff663d4a13976d3ae23ba97d748f2a647b84def652f44971fadd3e287", checked := Try.checked }
namespace Rows
def none {H : Type} : Left H := { results := [], args := [] }

/-- 'laws.FnExactReadEntry': WHATEVER THE INPUT: true; the input reads as it did. -/
def fnExactReadEntrySpec : ChangeSpec := { name := "fnExactReadEntry", fn := fun _ => fun
  | [d] => { results := [.lit (.bool true)], args := [d] }
  | _ => none }
def fnExactReadEntryRow : OpenClaim := { program := "ytadbfhgeekpdgaa", sum := "49327a7ff663d4a13976d3ae23ba97d748f2a647b84def652f44971fadd3e287", func := "loop.example/g00188/laws.FnExactReadEntry", spec := "fnExactReadEntry", apart := false }
def FnExactReadEntrySaid : Prop := fnExactReadEntryRow.holds Try.pinned (OpenSpec.ofChange fnExactReadEntrySpec)

/-- ITS FALSE NEIGHBOUR: 'it returns false'. Refute it at one input. -/
def fnExactReadEntryWrong : ChangeSpec := { name := "fnExactReadEntry", fn := fun _ => fun
  | [d] => { results := [.lit (.bool false)], args := [d] }
  | _ => none }
def FnExactReadEntryWrongFalsely : Prop := fnExactReadEntryRow.holds Try.pinned (OpenSpec.ofChange fnExactReadEntryWrong)

/-- 'laws.FnExactReadCommand': WHATEVER THE INPUT: true; the input reads as it did. -/
def fnExactReadCommandSpec : ChangeSpec := { name := "fnExactReadCommand", fn := fun _ => fun
  | [d] => { results := [.lit (.bool true)], args := [d] }
  | _ => none }
def fnExactReadCommandRow : OpenClaim := { program := "ytadbfhgeekpdgaa", sum := "49327a7ff663d4a13976d3ae23ba97d748f2a647b84def652f44971fadd3e287", func := "loop.example/g00188/laws.FnExactReadCommand", spec := "fnExactReadCommand", apart := false }
def FnExactReadCommandSaid : Prop := fnExactReadCommandRow.holds Try.pinned (OpenSpec.ofChange fnExactReadCommandSpec)

/-- ITS FALSE NEIGHBOUR: 'it returns false'. Refute it at one input. -/
def fnExactReadCommandWrong : ChangeSpec := { name := "fnExactReadCommand", fn := fun _ => fun
  | [d] => { results := [.lit (.bool false)], args := [d] }
  | _ => none }
def FnExactReadCommandWrongFalsely : Prop := fnExactReadCommandRow.holds Try.pinned (OpenSpec.ofChange fnExactReadCommandWrong)

/-- 'laws.FnExactHappenOk': WHATEVER THE INPUT: true; the input reads as it did. -/
def fnExactHappenOkSpec : ChangeSpec := { name := "fnExactHappenOk", fn := fun _ => fun
  | [d1, d2] => { results := [.lit (.bool true)], args := [d1, d2] }
  | _ => none }
def fnExactHappenOkRow : OpenClaim := { program := "ytadbfhgeekpdgaa", sum := "49327a7ff663d4a13976d3ae23ba97d748f2a647b84def652f44971fadd3e287", func := "loop.example/g00188/laws.FnExactHappenOk", spec := "fnExactHappenOk", apart := false }
def FnExactHappenOkSaid : Prop := fnExactHappenOkRow.holds Try.pinned (OpenSpec.ofChange fnExactHappenOkSpec)

/-- ITS FALSE NEIGHBOUR: 'it returns false'. Refute it at one input. -/
def fnExactHappenOkWrong : ChangeSpec := { name := "fnExactHappenOk", fn := fun _ => fun
  | [d1, d2] => { results := [.lit (.bool false)], args := [d1, d2] }
  | _ => none }
def FnExactHappenOkWrongFalsely : Prop := fnExactHappenOkRow.holds Try.pinned (OpenSpec.ofChange fnExactHappenOkWrong)

/-- 'laws.FnExactReadSnap': WHATEVER THE INPUT: true; the input reads as it did. -/
def fnExactReadSnapSpec : ChangeSpec := { name := "fnExactReadSnap", fn := fun _ => fun
  | [d] => { results := [.lit (.bool true)], args := [d] }
  | _ => none }
def fnExactReadSnapRow : OpenClaim := { program := "ytadbfhgeekpdgaa", sum := "49327a7ff663d4a13976d3ae23ba97d748f2a647b84def652f44971fadd3e287", func := "loop.example/g00188/laws.FnExactReadSnap", spec := "fnExactReadSnap", apart := false }
def FnExactReadSnapSaid : Prop := fnExactReadSnapRow.holds Try.pinned (OpenSpec.ofChange fnExactReadSnapSpec)

/-- ITS FALSE NEIGHBOUR: 'it returns false'. Refute it at one input. -/
def fnExactReadSnapWrong : ChangeSpec := { name := "fnExactReadSnap", fn := fun _ => fun
  | [d] => { results := [.lit (.bool false)], args := [d] }
  | _ => none }
def FnExactReadSnapWrongFalsely : Prop := fnExactReadSnapRow.holds Try.pinned (OpenSpec.ofChange fnExactReadSnapWrong)

/-- 'laws.FnExactDecode': WHATEVER THE INPUT: true; the input reads as it did. -/
def fnExactDecodeSpec : ChangeSpec := { name := "fnExactDecode", fn := fun _ => fun
  | [d] => { results := [.lit (.bool true)], args := [d] }
  | _ => none }
def fnExactDecodeRow : OpenClaim := { program := "ytadbfhgeekpdgaa", sum := "49327a7ff663d4a13976d3ae23ba97d748f2a647b84def652f44971fadd3e287", func := "loop.example/g00188/laws.FnExactDecode", spec := "fnExactDecode", apart := false }
def FnExactDecodeSaid : Prop := fnExactDecodeRow.holds Try.pinned (OpenSpec.ofChange fnExactDecodeSpec)

/-- ITS FALSE NEIGHBOUR: 'it returns false'. Refute it at one input. -/
def fnExactDecodeWrong : ChangeSpec := { name := "fnExactDecode", fn := fun _ => fun
  | [d] => { results := [.lit (.bool false)], args := [d] }
  | _ => none }
def FnExactDecodeWrongFalsely : Prop := fnExactDecodeRow.holds Try.pinned (OpenSpec.ofChange fnExactDecodeWrong)

/-- 'laws.FnExactReadJournal': WHATEVER THE INPUT: true; the input reads as it did. -/
def fnExactReadJournalSpec : ChangeSpec := { name := "fnExactReadJournal", fn := fun _ => fun
  | [d1, d2] => { results := [.lit (.bool true)], args := [d1, d2] }
  | _ => none }
def fnExactReadJournalRow : OpenClaim := { program := "ytadbfhgeekpdgaa", sum := "49327a7ff663d4a13976d3ae23ba97d748f2a647b84def652f44971fadd3e287", func := "loop.example/g00188/laws.FnExactReadJournal", spec := "fnExactReadJournal", apart := false }
def FnExactReadJournalSaid : Prop := fnExactReadJournalRow.holds Try.pinned (OpenSpec.ofChange fnExactReadJournalSpec)

/-- ITS FALSE NEIGHBOUR: 'it returns false'. Refute it at one input. -/
def fnExactReadJournalWrong : ChangeSpec := { name := "fnExactReadJournal", fn := fun _ => fun
  | [d1, d2] => { results := [.lit (.bool false)], args := [d1, d2] }
  | _ => none }
def FnExactReadJournalWrongFalsely : Prop := fnExactReadJournalRow.holds Try.pinned (OpenSpec.ofChange fnExactReadJournalWrong)

/- THE SECOND FORM. 'bulk': how many values and letters a reading holds, each counted each time it is reached (what is shared counts as often as it is met; a slice's spare places count too). A statement '..UptoSaid' is the law's where the arguments, and the package variables that the reading takes, are together of bulk at most 1048576: NARROWER than '..Said'. Prove '..Said' where nothing that the law and all that it calls make is longer than what came in: it says more and counts as full. Else prove '..UptoSaid'. A law counts once. -/
mutual
def uptoBulk {H : Type} : DataW H → Nat
  | .lit (.string bytes) => bytes.length + 1
  | .lit _ => 1
  | .nil => 1
  | .ptr d => uptoBulk d + 1
  | .slice elems spare => uptoBulkAll elems + uptoBulkAll spare + 1
  | .agg parts => uptoBulkAll parts + 1
  | .iface _ d => uptoBulk d + 1
  | .map entries => uptoBulkEntries entries + 1
  | .held _ => 1
def uptoBulkAll {H : Type} : List (DataW H) → Nat
  | [] => 0
  | d :: r => uptoBulk d + uptoBulkAll r
def uptoBulkEntries {H : Type} : List (Lit × DataW H) → Nat
  | [] => 0
  | x :: r => uptoBulkEntry x + uptoBulkEntries r
def uptoBulkEntry {H : Type} : Lit × DataW H → Nat
  | (.string bytes, d) => bytes.length + uptoBulk d + 1
  | (_, d) => uptoBulk d + 1
 end
def uptoSmall : (H : Type) → List (DataW H) → Bool := fun _ ds => decide (uptoBulkAll ds ≤ 1048576)
def OpenSpec.upto (s : _root_.Go.ChangeSpec) : _root_.Go.OpenSpec := { _root_.Go.OpenSpec.ofChange s with cond := some uptoSmall }

/-- 'laws.FnExactReadEntry', WHERE WHAT IT READS IS OF BULK AT MOST 1048576: true; the input reads as it did. -/
def fnExactReadEntryUptoRow : OpenClaim := { program := "ytadbfhgeekpdgaa", sum := "49327a7ff663d4a13976d3ae23ba97d748f2a647b84def652f44971fadd3e287", func := "loop.example/g00188/laws.FnExactReadEntry", spec := "fnExactReadEntry", apart := false, narrowed := true }
def FnExactReadEntryUptoSaid : Prop := fnExactReadEntryUptoRow.holds Try.pinned (OpenSpec.upto fnExactReadEntrySpec)

/-- 'laws.FnExactReadCommand', WHERE WHAT IT READS IS OF BULK AT MOST 1048576: true; the input reads as it did. -/
def fnExactReadCommandUptoRow : OpenClaim := { program := "ytadbfhgeekpdgaa", sum := "49327a7ff663d4a13976d3ae23ba97d748f2a647b84def652f44971fadd3e287", func := "loop.example/g00188/laws.FnExactReadCommand", spec := "fnExactReadCommand", apart := false, narrowed := true }
def FnExactReadCommandUptoSaid : Prop := fnExactReadCommandUptoRow.holds Try.pinned (OpenSpec.upto fnExactReadCommandSpec)

/-- 'laws.FnExactHappenOk', WHERE WHAT IT READS IS OF BULK AT MOST 1048576: true; the input reads as it did. -/
def fnExactHappenOkUptoRow : OpenClaim := { program := "ytadbfhgeekpdgaa", sum := "49327a7ff663d4a13976d3ae23ba97d748f2a647b84def652f44971fadd3e287", func := "loop.example/g00188/laws.FnExactHappenOk", spec := "fnExactHappenOk", apart := false, narrowed := true }
def FnExactHappenOkUptoSaid : Prop := fnExactHappenOkUptoRow.holds Try.pinned (OpenSpec.upto fnExactHappenOkSpec)

/-- 'laws.FnExactReadSnap', WHERE WHAT IT READS IS OF BULK AT MOST 1048576: true; the input reads as it did. -/
def fnExactReadSnapUptoRow : OpenClaim := { program := "ytadbfhgeekpdgaa", sum := "49327a7ff663d4a13976d3ae23ba97d748f2a647b84def652f44971fadd3e287", func := "loop.example/g00188/laws.FnExactReadSnap", spec := "fnExactReadSnap", apart := false, narrowed := true }
def FnExactReadSnapUptoSaid : Prop := fnExactReadSnapUptoRow.holds Try.pinned (OpenSpec.upto fnExactReadSnapSpec)

/-- 'laws.FnExactDecode', WHERE WHAT IT READS IS OF BULK AT MOST 1048576: true; the input reads as it did. -/
def fnExactDecodeUptoRow : OpenClaim := { program := "ytadbfhgeekpdgaa", sum := "49327a7ff663d4a13976d3ae23ba97d748f2a647b84def652f44971fadd3e287", func := "loop.example/g00188/laws.FnExactDecode", spec := "fnExactDecode", apart := false, narrowed := true }
def FnExactDecodeUptoSaid : Prop := fnExactDecodeUptoRow.holds Try.pinned (OpenSpec.upto fnExactDecodeSpec)

/-- 'laws.FnExactReadJournal', WHERE WHAT IT READS IS OF BULK AT MOST 1048576: true; the input reads as it did. -/
def fnExactReadJournalUptoRow : OpenClaim := { program := "ytadbfhgeekpdgaa", sum := "49327a7ff663d4a13976d3ae23ba97d748f2a647b84def652f44971fadd3e287", func := "loop.example/g00188/laws.FnExactReadJournal", spec := "fnExactReadJournal", apart := false, narrowed := true }
def FnExactReadJournalUptoSaid : Prop := fnExactReadJournalUptoRow.holds Try.pinned (OpenSpec.upto fnExactReadJournalSpec)

end Rows
end Go.Proofs.Ytadbfhgeekpdgaa
