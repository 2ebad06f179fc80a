/- Rules: strings. -/
import Derived.Test.YtbnabpmfdnfigaaRxZ
namespace Go.Rx
open Go.RowKit
variable {P : Program} {t : TypeId} {x y : Operand}
theorem bin_adds (a b : ByteArray) : binV P .add t x y (one (.v (.string a))) (one (.v (.string b))) = if a.size + b.size ≤ 9223372036854775807 then some (one (.v (.string (a ++ b)))) else binV' P .add t x y (one (.v (.string a))) (one (.v (.string b))) := by
  split
  · rename_i h
    have hn : ¬ (((a.size + b.size : Nat) : Int) > IntKind.i64.max) := by
      have : IntKind.i64.max = 9223372036854775807 := by decide
      rw [this]; omega
    simp only [binV, plain2, plain, eqGuard, binOp, Op.stringOp, bind, pure, if_neg hn]; rfl
  · rfl
def un2' := @un2
theorem index_str (s : ByteArray) (i : Nat) (k : IntKind) : un2 P (Instr.index t) (one (.v (.string s))) (one (.v (.int k (i : Int)))) = match P.underlying t with
    | some .string => match s[i]? with
      | some b => some (one (.v (.int .u8 b.toNat)))
      | none => un2' P (Instr.index t) (one (.v (.string s))) (one (.v (.int k (i : Int))))
    | _ => un2' P (Instr.index t) (one (.v (.string s))) (one (.v (.int k (i : Int)))) := by
  split
  · rename_i h
    split
    · rename_i b hb
      have hu : pureIn P (underlying t) = some .string := by
        show pureIn P (match P.underlying t with | some d => Sem.pure d | none => stuck "no such type") = _
        rw [h]; rfl
      have hi : pureIn P (asIntOf (.int k (i : Int))) = some (k, (i : Int)) := rfl
      have e : pureIn P (Instr.index t (.string s) (.int k (i : Int))) = some (.int .u8 b.toNat) := by
        unfold Instr.index
        refine (pure_bind' hi).trans ((pure_bind' hu).trans ?_)
        simp only [Int.natCast_nonneg, if_true, Int.toNat_natCast, hb]; rfl
      show Option.map ofVal (pureIn P (Instr.index t (.string s) (.int k (i : Int)))) = _
      rw [e]; rfl
    · rfl
  · rfl
attribute [push_cast] bin_adds index_str
end Go.Rx
