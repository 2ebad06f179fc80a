/-
  No cell of these rows narrows 'for every input' (looked for: loops, veiled, ifaces, maps, wideKeys, modest, calm, conditions, laid).
  DERIVED. THE GIVEN ROWS OF THIS SEAT. 2 by the template 'for every input the law returns true; each argument reads behind the call as it read before'; 0 by the template 'total and deterministic' (their statements: YthhgmnpodgmlkaaTotals.lean).
  GIVEN WITH THE SEED: the statements are not yours to turn. If you find one false, say at which input.
  Laid BY PROGRAM, IN A SANDBOX (cutbox-rows.mjs): the forced cells as the released guide's own fill.sh prints them over the translation 2be5d16a6de829d0… (all of the seat's roots in one cut). By AI agents, Wed Nov 11 2026. No macro, syntax, notation, axiom, sorry.
-/
import Derived.Test.YthhgmnpodgmlkaaChecked
import GoSem.Claim
import GoSem.ClaimJoined
import GoSem.ClaimMapViews
import Derived.JoinedTies
import Derived.KernelRfl
namespace Go.Proofs.Ythhgmnpodgmlkaa
/- THE CELL 'sum', in the pinned program and in every row, IS THE sha256 OF THE DUMP (.gsa) THAT YthhgmnpodgmlkaaProg.lean LOADS. Nothing in Lean hashes anything: it is a label: what it is worth is what the hold of that sum in a sandbox is worth. -/
noncomputable def Try.pinned : Pinned := { name := "ythhgmnpodgmlkaa", sum := "2be5d16a6de829d06653e1f03c5e62f1716b0e393d37e6c418bce975cb010ee0", checked := Try.checked }
namespace Rows
def none {H : Type} : Left H := { results := [], args := [] }

/-- 'laws.FnEntries': WHATEVER THE INPUT: true; the input reads as it did. -/
def fnEntriesSpec : ChangeSpec := { name := "fnEntries", fn := fun _ => fun
  | [d] => { results := [.lit (.bool true)], args := [d] }
  | _ => none }
def fnEntriesRow : OpenClaim := { program := "ythhgmnpodgmlkaa", sum := "2be5d16a6de829d06653e1f03c5e62f1716b0e393d37e6c418bce975cb010ee0", func := "loop.example/g00188/laws.FnEntries", spec := "fnEntries", apart := false }
def FnEntriesSaid : Prop := fnEntriesRow.holds Try.pinned (OpenSpec.ofChange fnEntriesSpec)

/-- ITS FALSE NEIGHBOUR: 'it returns false'. Refute it at one input. -/
def fnEntriesWrong : ChangeSpec := { name := "fnEntries", fn := fun _ => fun
  | [d] => { results := [.lit (.bool false)], args := [d] }
  | _ => none }
def FnEntriesWrongFalsely : Prop := fnEntriesRow.holds Try.pinned (OpenSpec.ofChange fnEntriesWrong)

/-- 'laws.FnExactTick': WHATEVER THE INPUT: true; the input reads as it did. -/
def fnExactTickSpec : ChangeSpec := { name := "fnExactTick", fn := fun _ => fun
  | [d1, d2] => { results := [.lit (.bool true)], args := [d1, d2] }
  | _ => none }
def fnExactTickRow : OpenClaim := { program := "ythhgmnpodgmlkaa", sum := "2be5d16a6de829d06653e1f03c5e62f1716b0e393d37e6c418bce975cb010ee0", func := "loop.example/g00188/laws.FnExactTick", spec := "fnExactTick", unfollowed := true, recurses := true, apart := false }
def FnExactTickSaid : Prop := fnExactTickRow.holds Try.pinned (OpenSpec.ofChange fnExactTickSpec)

/-- ITS FALSE NEIGHBOUR: 'it returns false'. Refute it at one input. -/
def fnExactTickWrong : ChangeSpec := { name := "fnExactTick", fn := fun _ => fun
  | [d1, d2] => { results := [.lit (.bool false)], args := [d1, d2] }
  | _ => none }
def FnExactTickWrongFalsely : Prop := fnExactTickRow.holds Try.pinned (OpenSpec.ofChange fnExactTickWrong)

/- THE SECOND FORM. 'bulk': how many values and letters a reading holds, each counted each time it is reached (what is shared counts as often as it is met; a slice's spare places count too). A statement '..UptoSaid' is the law's where the arguments, and the package variables that the reading takes, are together of bulk at most 1048576: NARROWER than '..Said'. Prove '..Said' where nothing that the law and all that it calls make is longer than what came in: it says more and counts as full. Else prove '..UptoSaid'. A law counts once. -/
mutual
def uptoBulk {H : Type} : DataW H → Nat
  | .lit (.string bytes) => bytes.length + 1
  | .lit _ => 1
  | .nil => 1
  | .ptr d => uptoBulk d + 1
  | .slice elems spare => uptoBulkAll elems + uptoBulkAll spare + 1
  | .agg parts => uptoBulkAll parts + 1
  | .iface _ d => uptoBulk d + 1
  | .map entries => uptoBulkEntries entries + 1
  | .held _ => 1
def uptoBulkAll {H : Type} : List (DataW H) → Nat
  | [] => 0
  | d :: r => uptoBulk d + uptoBulkAll r
def uptoBulkEntries {H : Type} : List (Lit × DataW H) → Nat
  | [] => 0
  | x :: r => uptoBulkEntry x + uptoBulkEntries r
def uptoBulkEntry {H : Type} : Lit × DataW H → Nat
  | (.string bytes, d) => bytes.length + uptoBulk d + 1
  | (_, d) => uptoBulk d + 1
 end
def uptoSmall : (H : Type) → List (DataW H) → Bool := fun _ ds => decide (uptoBulkAll ds ≤ 1048576)
def OpenSpec.upto (s : _root_.Go.ChangeSpec) : _root_.Go.OpenSpec := { _root_.Go.OpenSpec.ofChange s with cond := some uptoSmall }

/-- 'laws.FnEntries', WHERE WHAT IT READS IS OF BULK AT MOST 1048576: true; the input reads as it did. -/
def fnEntriesUptoRow : OpenClaim := { program := "ythhgmnpodgmlkaa", sum := "2be5d16a6de829d06653e1f03c5e62f1716b0e393d37e6c418bce975cb010ee0", func := "loop.example/g00188/laws.FnEntries", spec := "fnEntries", apart := false, narrowed := true }
def FnEntriesUptoSaid : Prop := fnEntriesUptoRow.holds Try.pinned (OpenSpec.upto fnEntriesSpec)

/-- 'laws.FnExactTick', WHERE WHAT IT READS IS OF BULK AT MOST 1048576: true; the input reads as it did. -/
def fnExactTickUptoRow : OpenClaim := { program := "ythhgmnpodgmlkaa", sum := "2be5d16a6de829d06653e1f03c5e62f1716b0e393d37e6c418bce975cb010ee0", func := "loop.example/g00188/laws.FnExactTick", spec := "fnExactTick", unfollowed := true, recurses := true, apart := false, narrowed := true }
def FnExactTickUptoSaid : Prop := fnExactTickUptoRow.holds Try.pinned (OpenSpec.upto fnExactTickSpec)

end Rows
end Go.Proofs.Ythhgmnpodgmlkaa
