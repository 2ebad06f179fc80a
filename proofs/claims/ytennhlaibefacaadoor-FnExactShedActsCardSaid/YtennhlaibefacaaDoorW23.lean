/- Lists of entries: equality, marks. -/
import Derived.Test.YtennhlaibefacaaDoorW22
namespace Go.Proofs.YtennhlaibefacaaDoor
open Go.RowKit Go.Rx
set_option linter.unusedSimpArgs false
set_option maxRecDepth 100000

/-! ### marks -/
/-! ### lists of entries -/
structure Ent where
  term : Int
  kind : Int
  data : ByteArray
  deriving Inhabited
def entV (e : Ent) : List Value := [.int .i64 e.term, .int .i64 e.kind, .string e.data]
def ents (l : List Ent) : List (List Value) := l.map entV
theorem ents_length (l : List Ent) : (ents l).length = l.length := by simp [ents]
theorem ents_getD (l : List Ent) {i : Nat} (h : i < l.length) : (ents l).getD i [] = entV (l.getD i default) := by
  simp [ents, List.getD_eq_getElem?_getD, List.getElem?_map, List.getElem?_eq_getElem h]
theorem ents_take (l : List Ent) : List.take l.length (vR (ents l)) = vR (ents l) := List.take_of_length_le (by rw [vR_length, ents_length]; exact Nat.le_refl _)
def marksE (k n : Nat) : List Ent := (List.range n).map fun j => ⟨((k + 3 * j : Nat) : Int), ((k + 3 * j + 1 : Nat) : Int), mkB (k + 3 * j + 2)⟩
theorem marksE_length (k n : Nat) : (marksE k n).length = n := by simp [marksE]
theorem marksE_getD (k : Nat) {n i : Nat} (h : i < n) : (marksE k n).getD i default = ⟨((k + 3 * i : Nat) : Int), ((k + 3 * i + 1 : Nat) : Int), mkB (k + 3 * i + 2)⟩ := by
  simp [marksE, List.getD_eq_getElem?_getD, List.getElem?_map, h]
def marksF (k j : Nat) : List Value := [.int .i64 ((k + 3 * j : Nat) : Int), .int .i64 ((k + 3 * j + 1 : Nat) : Int), .string (mkB (k + 3 * j + 2))]
theorem marksF_all (k : Nat) (l : List Ent) : ents (marksE k l.length) = mix (marksF k) (ents l) l.length := by
  have := mix_all (marksF k) (ents l)
  rw [ents_length] at this
  rw [this, ents, marksE, List.map_map]; rfl
theorem row_set_get {R : List (List C)} {i : Nat} (h : i < R.length) (x : List C) : (R.set i x).getD i [] = x := by
  rw [List.getD_eq_getElem?_getD, List.getElem?_set_self h]; rfl
end Go.Proofs.YtennhlaibefacaaDoor

