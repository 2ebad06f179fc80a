/- Calls under a condition. -/
import Derived.Test.YtbnabpmfdnfigaaRxX
namespace Go.Rx
open Go.RowKit
variable {P : Program} {k : List Fr} {σ : St} {Q : Ex → St → Prop} {l : List SOp} {L : Store} {d : Option Tmp} {ty : TypeId}
theorem gL_callG {f : FuncId} {as : Array Operand} {ats : Array TypeId} {n : Tmp} {b : Bool} : GoL P (⟨d, .call { callee := .value (.func f), args := as, argTypes := ats }, ty, some (n, b)⟩ :: l) k σ Q =
    match plain (σ.t.getD n (.x (.one .bad))) with
    | some (.bool x) => if x = b then GoL P (⟨d, .call { callee := .value (.func f), args := as, argTypes := ats }, ty, none⟩ :: l) k σ Q else GoL P l k (put σ d (.x (.one .bad))) Q
    | _ => False := by
  show (match (match plain (σ.t.getD n (.x (.one .bad))) with | some (.bool x) => some (x == b) | _ => none) with
    | some true => wop P (SOp.oper ⟨d, .call { callee := .value (.func f), args := as, argTypes := ats }, ty, some (n, b)⟩) σ fun σ' => GoL P l k σ' Q
    | some false => GoL P l k (put σ d (.x (.one .bad))) Q
    | none => False) = _
  generalize plain (σ.t.getD n (.x (.one .bad))) = q
  cases q with
  | none => rfl
  | some y =>
    cases y with
    | bool x => cases x <;> cases b <;> rfl
    | _ => rfl
theorem gD_callG {f : FuncId} {as : Array Operand} {ats : Array TypeId} {n : Tmp} {b : Bool} : GoD P (⟨d, .call { callee := .value (.func f), args := as, argTypes := ats }, ty, some (n, b)⟩ :: l) L k σ Q =
    match plain (σ.t.getD n (.x (.one .bad))) with
    | some (.bool x) => if x = b then GoD P (⟨d, .call { callee := .value (.func f), args := as, argTypes := ats }, ty, none⟩ :: l) L k σ Q else GoD P l L k (put σ d (.x (.one .bad))) Q
    | _ => False := by
  show (match (match plain (σ.t.getD n (.x (.one .bad))) with | some (.bool x) => some (x == b) | _ => none) with
    | some true => ∃ v m, OpE P σ (SOp.oper ⟨d, .call { callee := .value (.func f), args := as, argTypes := ats }, ty, some (n, b)⟩) v m ∧ freshR (L ++ σ.l) m = true ∧ GoD P l (m ++ L) k (put σ d v) Q
    | some false => GoD P l L k (put σ d (.x (.one .bad))) Q
    | none => False) = _
  generalize plain (σ.t.getD n (.x (.one .bad))) = q
  cases q with
  | none => rfl
  | some y =>
    cases y with
    | bool x => cases x <;> cases b <;> rfl
    | _ => rfl
attribute [push_cast] gL_callG gD_callG
end Go.Rx
