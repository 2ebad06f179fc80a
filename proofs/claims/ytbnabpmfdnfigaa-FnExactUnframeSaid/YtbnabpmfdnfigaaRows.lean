/-
  No cell of these rows narrows 'for every input' (looked for: loops, veiled, ifaces, maps, wideKeys, modest, calm, conditions, laid).
  DERIVED. THE GIVEN ROWS OF THIS SEAT. 6 by the template 'for every input the law returns true; each argument reads behind the call as it read before'; 0 by the template 'total and deterministic' (their statements: YtbnabpmfdnfigaaTotals.lean).
  GIVEN WITH THE SEED: the statements are not yours to turn. If you find one false, say at which input.
  Laid BY PROGRAM, IN A SANDBOX (cutbox-rows.mjs): the forced cells as the released guide's own fill.sh prints them over the translation 4cca62154675f0b3… (all of the seat's roots in one cut). By AI agents, Wed Nov 11 2026. No macro, syntax, notation, axiom, sorry.
-/
import Derived.Test.YtbnabpmfdnfigaaChecked
import GoSem.Claim
import GoSem.ClaimJoined
import GoSem.ClaimMapViews
import Derived.JoinedTies
import Derived.KernelRfl
namespace Go.Proofs.Ytbnabpmfdnfigaa
/- THE CELL 'sum', in the pinned program and in every row, IS THE sha256 OF THE DUMP (.gsa) THAT YtbnabpmfdnfigaaProg.lean LOADS. Nothing in Lean hashes anything: it is a label: what it is worth is what the hold of that sum in a sandbox is worth. -/
noncomputable def Try.pinned : Pinned := { name := "ytbnabpmfdnfigaa", sum := "4cca62154675f0b30e9112f499abb5638a550afef87599dcb90dafa9add1a913", checked := Try.checked }
namespace Rows
def none {H : Type} : Left H := { results := [], args := [] }

/-- 'laws.FnExactSameApplied': WHATEVER THE INPUT: true; the input reads as it did. -/
def fnExactSameAppliedSpec : ChangeSpec := { name := "fnExactSameApplied", fn := fun _ => fun
  | [d] => { results := [.lit (.bool true)], args := [d] }
  | _ => none }
def fnExactSameAppliedRow : OpenClaim := { program := "ytbnabpmfdnfigaa", sum := "4cca62154675f0b30e9112f499abb5638a550afef87599dcb90dafa9add1a913", func := "loop.example/g00188/laws.FnExactSameApplied", spec := "fnExactSameApplied", apart := false }
def FnExactSameAppliedSaid : Prop := fnExactSameAppliedRow.holds Try.pinned (OpenSpec.ofChange fnExactSameAppliedSpec)

/-- ITS FALSE NEIGHBOUR: 'it returns false'. Refute it at one input. -/
def fnExactSameAppliedWrong : ChangeSpec := { name := "fnExactSameApplied", fn := fun _ => fun
  | [d] => { results := [.lit (.bool false)], args := [d] }
  | _ => none }
def FnExactSameAppliedWrongFalsely : Prop := fnExactSameAppliedRow.holds Try.pinned (OpenSpec.ofChange fnExactSameAppliedWrong)

/-- 'laws.FnExactInTime': WHATEVER THE INPUT: true; the input reads as it did. -/
def fnExactInTimeSpec : ChangeSpec := { name := "fnExactInTime", fn := fun _ => fun
  | [d] => { results := [.lit (.bool true)], args := [d] }
  | _ => none }
def fnExactInTimeRow : OpenClaim := { program := "ytbnabpmfdnfigaa", sum := "4cca62154675f0b30e9112f499abb5638a550afef87599dcb90dafa9add1a913", func := "loop.example/g00188/laws.FnExactInTime", spec := "fnExactInTime", apart := false }
def FnExactInTimeSaid : Prop := fnExactInTimeRow.holds Try.pinned (OpenSpec.ofChange fnExactInTimeSpec)

/-- ITS FALSE NEIGHBOUR: 'it returns false'. Refute it at one input. -/
def fnExactInTimeWrong : ChangeSpec := { name := "fnExactInTime", fn := fun _ => fun
  | [d] => { results := [.lit (.bool false)], args := [d] }
  | _ => none }
def FnExactInTimeWrongFalsely : Prop := fnExactInTimeRow.holds Try.pinned (OpenSpec.ofChange fnExactInTimeWrong)

/-- 'laws.FnExactOnce': WHATEVER THE INPUT: true; the input reads as it did. -/
def fnExactOnceSpec : ChangeSpec := { name := "fnExactOnce", fn := fun _ => fun
  | [d] => { results := [.lit (.bool true)], args := [d] }
  | _ => none }
def fnExactOnceRow : OpenClaim := { program := "ytbnabpmfdnfigaa", sum := "4cca62154675f0b30e9112f499abb5638a550afef87599dcb90dafa9add1a913", func := "loop.example/g00188/laws.FnExactOnce", spec := "fnExactOnce", apart := false }
def FnExactOnceSaid : Prop := fnExactOnceRow.holds Try.pinned (OpenSpec.ofChange fnExactOnceSpec)

/-- ITS FALSE NEIGHBOUR: 'it returns false'. Refute it at one input. -/
def fnExactOnceWrong : ChangeSpec := { name := "fnExactOnce", fn := fun _ => fun
  | [d] => { results := [.lit (.bool false)], args := [d] }
  | _ => none }
def FnExactOnceWrongFalsely : Prop := fnExactOnceRow.holds Try.pinned (OpenSpec.ofChange fnExactOnceWrong)

/-- 'laws.FnExactOneLeader': WHATEVER THE INPUT: true; the input reads as it did. -/
def fnExactOneLeaderSpec : ChangeSpec := { name := "fnExactOneLeader", fn := fun _ => fun
  | [d] => { results := [.lit (.bool true)], args := [d] }
  | _ => none }
def fnExactOneLeaderRow : OpenClaim := { program := "ytbnabpmfdnfigaa", sum := "4cca62154675f0b30e9112f499abb5638a550afef87599dcb90dafa9add1a913", func := "loop.example/g00188/laws.FnExactOneLeader", spec := "fnExactOneLeader", apart := false }
def FnExactOneLeaderSaid : Prop := fnExactOneLeaderRow.holds Try.pinned (OpenSpec.ofChange fnExactOneLeaderSpec)

/-- ITS FALSE NEIGHBOUR: 'it returns false'. Refute it at one input. -/
def fnExactOneLeaderWrong : ChangeSpec := { name := "fnExactOneLeader", fn := fun _ => fun
  | [d] => { results := [.lit (.bool false)], args := [d] }
  | _ => none }
def FnExactOneLeaderWrongFalsely : Prop := fnExactOneLeaderRow.holds Try.pinned (OpenSpec.ofChange fnExactOneLeaderWrong)

/-- 'laws.FnFrames': WHATEVER THE INPUT: true; the input reads as it did. -/
def fnFramesSpec : ChangeSpec := { name := "fnFrames", fn := fun _ => fun
  | [d] => { results := [.lit (.bool true)], args := [d] }
  | _ => none }
def fnFramesRow : OpenClaim := { program := "ytbnabpmfdnfigaa", sum := "4cca62154675f0b30e9112f499abb5638a550afef87599dcb90dafa9add1a913", func := "loop.example/g00188/laws.FnFrames", spec := "fnFrames", apart := false }
def FnFramesSaid : Prop := fnFramesRow.holds Try.pinned (OpenSpec.ofChange fnFramesSpec)

/-- ITS FALSE NEIGHBOUR: 'it returns false'. Refute it at one input. -/
def fnFramesWrong : ChangeSpec := { name := "fnFrames", fn := fun _ => fun
  | [d] => { results := [.lit (.bool false)], args := [d] }
  | _ => none }
def FnFramesWrongFalsely : Prop := fnFramesRow.holds Try.pinned (OpenSpec.ofChange fnFramesWrong)

/-- 'laws.FnExactUnframe': WHATEVER THE INPUT: true; the input reads as it did. -/
def fnExactUnframeSpec : ChangeSpec := { name := "fnExactUnframe", fn := fun _ => fun
  | [d] => { results := [.lit (.bool true)], args := [d] }
  | _ => none }
def fnExactUnframeRow : OpenClaim := { program := "ytbnabpmfdnfigaa", sum := "4cca62154675f0b30e9112f499abb5638a550afef87599dcb90dafa9add1a913", func := "loop.example/g00188/laws.FnExactUnframe", spec := "fnExactUnframe", apart := false }
def FnExactUnframeSaid : Prop := fnExactUnframeRow.holds Try.pinned (OpenSpec.ofChange fnExactUnframeSpec)

/-- ITS FALSE NEIGHBOUR: 'it returns false'. Refute it at one input. -/
def fnExactUnframeWrong : ChangeSpec := { name := "fnExactUnframe", fn := fun _ => fun
  | [d] => { results := [.lit (.bool false)], args := [d] }
  | _ => none }
def FnExactUnframeWrongFalsely : Prop := fnExactUnframeRow.holds Try.pinned (OpenSpec.ofChange fnExactUnframeWrong)

/- THE SECOND FORM. 'bulk': how many values and letters a reading holds, each counted each time it is reached (what is shared counts as often as it is met; a slice's spare places count too). A statement '..UptoSaid' is the law's where the arguments, and the package variables that the reading takes, are together of bulk at most 1048576: NARROWER than '..Said'. Prove '..Said' where nothing that the law and all that it calls make is longer than what came in: it says more and counts as full. Else prove '..UptoSaid'. A law counts once. -/
mutual
def uptoBulk {H : Type} : DataW H → Nat
  | .lit (.string bytes) => bytes.length + 1
  | .lit _ => 1
  | .nil => 1
  | .ptr d => uptoBulk d + 1
  | .slice elems spare => uptoBulkAll elems + uptoBulkAll spare + 1
  | .agg parts => uptoBulkAll parts + 1
  | .iface _ d => uptoBulk d + 1
  | .map entries => uptoBulkEntries entries + 1
  | .held _ => 1
def uptoBulkAll {H : Type} : List (DataW H) → Nat
  | [] => 0
  | d :: r => uptoBulk d + uptoBulkAll r
def uptoBulkEntries {H : Type} : List (Lit × DataW H) → Nat
  | [] => 0
  | x :: r => uptoBulkEntry x + uptoBulkEntries r
def uptoBulkEntry {H : Type} : Lit × DataW H → Nat
  | (.string bytes, d) => bytes.length + uptoBulk d + 1
  | (_, d) => uptoBulk d + 1
 end
def uptoSmall : (H : Type) → List (DataW H) → Bool := fun _ ds => decide (uptoBulkAll ds ≤ 1048576)
def OpenSpec.upto (s : _root_.Go.ChangeSpec) : _root_.Go.OpenSpec := { _root_.Go.OpenSpec.ofChange s with cond := some uptoSmall }

/-- 'laws.FnExactSameApplied', WHERE WHAT IT READS IS OF BULK AT MOST 1048576: true; the input reads as it did. -/
def fnExactSameAppliedUptoRow : OpenClaim := { program := "ytbnabpmfdnfigaa", sum := "4cca62154675f0b30e9112f499abb5638a550afef87599dcb90dafa9add1a913", func := "loop.example/g00188/laws.FnExactSameApplied", spec := "fnExactSameApplied", apart := false, narrowed := true }
def FnExactSameAppliedUptoSaid : Prop := fnExactSameAppliedUptoRow.holds Try.pinned (OpenSpec.upto fnExactSameAppliedSpec)

/-- 'laws.FnExactInTime', WHERE WHAT IT READS IS OF BULK AT MOST 1048576: true; the input reads as it did. -/
def fnExactInTimeUptoRow : OpenClaim := { program := "ytbnabpmfdnfigaa", sum := "4cca62154675f0b30e9112f499abb5638a550afef87599dcb90dafa9add1a913", func := "loop.example/g00188/laws.FnExactInTime", spec := "fnExactInTime", apart := false, narrowed := true }
def FnExactInTimeUptoSaid : Prop := fnExactInTimeUptoRow.holds Try.pinned (OpenSpec.upto fnExactInTimeSpec)

/-- 'laws.FnExactOnce', WHERE WHAT IT READS IS OF BULK AT MOST 1048576: true; the input reads as it did. -/
def fnExactOnceUptoRow : OpenClaim := { program := "ytbnabpmfdnfigaa", sum := "4cca62154675f0b30e9112f499abb5638a550afef87599dcb90dafa9add1a913", func := "loop.example/g00188/laws.FnExactOnce", spec := "fnExactOnce", apart := false, narrowed := true }
def FnExactOnceUptoSaid : Prop := fnExactOnceUptoRow.holds Try.pinned (OpenSpec.upto fnExactOnceSpec)

/-- 'laws.FnExactOneLeader', WHERE WHAT IT READS IS OF BULK AT MOST 1048576: true; the input reads as it did. -/
def fnExactOneLeaderUptoRow : OpenClaim := { program := "ytbnabpmfdnfigaa", sum := "4cca62154675f0b30e9112f499abb5638a550afef87599dcb90dafa9add1a913", func := "loop.example/g00188/laws.FnExactOneLeader", spec := "fnExactOneLeader", apart := false, narrowed := true }
def FnExactOneLeaderUptoSaid : Prop := fnExactOneLeaderUptoRow.holds Try.pinned (OpenSpec.upto fnExactOneLeaderSpec)

/-- 'laws.FnFrames', WHERE WHAT IT READS IS OF BULK AT MOST 1048576: true; the input reads as it did. -/
def fnFramesUptoRow : OpenClaim := { program := "ytbnabpmfdnfigaa", sum := "4cca62154675f0b30e9112f499abb5638a550afef87599dcb90dafa9add1a913", func := "loop.example/g00188/laws.FnFrames", spec := "fnFrames", apart := false, narrowed := true }
def FnFramesUptoSaid : Prop := fnFramesUptoRow.holds Try.pinned (OpenSpec.upto fnFramesSpec)

/-- 'laws.FnExactUnframe', WHERE WHAT IT READS IS OF BULK AT MOST 1048576: true; the input reads as it did. -/
def fnExactUnframeUptoRow : OpenClaim := { program := "ytbnabpmfdnfigaa", sum := "4cca62154675f0b30e9112f499abb5638a550afef87599dcb90dafa9add1a913", func := "loop.example/g00188/laws.FnExactUnframe", spec := "fnExactUnframe", apart := false, narrowed := true }
def FnExactUnframeUptoSaid : Prop := fnExactUnframeUptoRow.holds Try.pinned (OpenSpec.upto fnExactUnframeSpec)

end Rows
end Go.Proofs.Ytbnabpmfdnfigaa
