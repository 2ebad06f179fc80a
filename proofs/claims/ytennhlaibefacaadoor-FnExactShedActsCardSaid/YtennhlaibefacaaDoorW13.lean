/- Names and commands: what these functions return, by their code. -/
import Derived.Test.YtennhlaibefacaaDoorW11
namespace Go.Proofs.YtennhlaibefacaaDoor
open Go.RowKit Go.Rx
set_option linter.unusedSimpArgs false
set_option maxRecDepth 100000

/-! ### names -/
def letP (s : ByteArray) (i : Nat) : Prop := (97 ≤ (bu s i).toNat ∧ (bu s i).toNat ≤ 122) ∨ (i ≠ 0 ∧ 48 ≤ (bu s i).toNat ∧ (bu s i).toNat ≤ 57)
def nameP (s : ByteArray) : Prop := ∀ i, i < s.size → letP s i
instance (s : ByteArray) (i : Nat) : Decidable (letP s i) := by unfold letP; infer_instance
instance (s : ByteArray) : Decidable (nameP s) := by unfold nameP; infer_instance
def nameB (s : ByteArray) : Bool := decide (nameP s) && inR s.size 1 8
/-! ### commands -/
structure Cmd where
  op : Int
  tok : Int
  seq : Int
  text : ByteArray
  task : ByteArray
  num : Int
  to_ : Int
  yes : Bool
def Cmd.enc (x : Cmd) : List C := [.v (.int .i64 x.op), .v (.int .i64 x.tok), .v (.int .i64 x.seq), .v (.string x.text), .v (.string x.task), .v (.int .i64 x.num), .v (.int .i64 x.to_), .v (.bool x.yes)]
def Cmd.Ok (x : Cmd) : Prop := x.text.size ≤ 140737488355328 ∧ x.task.size ≤ 140737488355328
def restB (x : Cmd) (text task num to_ yes : Bool) : Bool :=
  ((((text || decide (x.text = ⟨#[]⟩)) && (task || decide (x.task = ⟨#[]⟩))) && (num || decide (x.num = 0))) && (to_ || decide (x.to_ = 0))) && (yes || !x.yes)

end Go.Proofs.YtennhlaibefacaaDoor

