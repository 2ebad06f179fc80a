/- Rules: slices of strings and of rows. -/
import Derived.Test.YtbnabpmfdnfigaaRxZe
namespace Go.Rx
open Go.RowKit
variable {P : Program} {t : TypeId}
theorem bnd_int (i : Int) (d : Nat) : bnd (some (int i)) d = if 0 ≤ i then some i.toNat else none := rfl
theorem bnd_none (d : Nat) : bnd none d = some d := rfl
theorem sl_str (s : ByteArray) (lo hi : Option V) : sliceV P t (one (.v (.string s))) lo hi = match P.underlying t, bnd lo 0, bnd hi s.size with
    | some .string, some l, some h => if l ≤ h ∧ h ≤ s.size then some (.x (.one (.v (.string (s.extract l h))))) else none
    | _, _, _ => none := rfl
theorem sl_rs (r : Root) (p : Path) (sz off len : Nat) (lo hi : Option V) : sliceV P t (one (.rs r p sz off len)) lo hi = match tyElem P t with
    | some e => match tySz P e, bnd lo 0, bnd hi len with
      | some s, some l, some h => if s = sz ∧ l ≤ h ∧ h ≤ len then some (.x (.one (.rs r p sz (off + l) (h - l)))) else none
      | _, _, _ => none
    | none => none := rfl
theorem sl_sh (sz : Nat) (R : List (List C)) (lo hi : Option V) : sliceV P t (one (.sh sz R)) lo hi = match tyElem P t with
    | some e => match tySz P e, bnd lo 0, bnd hi R.length with
      | some s, some l, some h => if s = sz ∧ l ≤ h ∧ h ≤ R.length then some (.x (.one (.sh sz ((R.drop l).take (h - l))))) else none
      | _, _, _ => none
    | none => none := rfl
theorem ioOk_box {sz : Nat} {r : List Value} (h : r.length = sz) : ioOk .box sz [r] :=
  ⟨.inl ⟨rfl, Nat.zero_lt_one⟩, fun i hi => by
    have : i = 0 := by simpa using hi
    subst this; exact h⟩
theorem ioOk_sl {α : Type} {sz : Nat} (f : α → List Value) (h : ∀ x, (f x).length = sz) (xs : List α) : ioOk .sl sz (xs.map f) :=
  ⟨.inr rfl, fun i hi => by
    have hi' : i < xs.length := by simpa using hi
    simp [List.getD_eq_getElem?_getD, List.getElem?_map, List.getElem?_eq_getElem hi', h]⟩
attribute [push_cast] bnd_int bnd_none sl_str sl_rs sl_sh
end Go.Rx
