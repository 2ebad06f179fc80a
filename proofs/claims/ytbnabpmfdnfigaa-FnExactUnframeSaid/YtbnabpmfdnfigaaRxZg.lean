/- Rules: rows of plain values. -/
import Derived.Test.YtbnabpmfdnfigaaRxZf
namespace Go.Rx
open Go.RowKit
theorem vR_nil : vR [] = [] := rfl
theorem vR_cons (r : List Value) (R : List (List Value)) : vR (r :: R) = r.map .v :: vR R := rfl
theorem vR_nr (R : List (List Value)) : nrRR (vR R) = true := by
  induction R with
  | nil => rfl
  | cons r R ih =>
    rw [vR_cons, nrRR, ih, Bool.and_true]
    induction r with
    | nil => rfl
    | cons x r ih => simp [nrR, nr, ih]
theorem vR_po (R : List (List Value)) : poRR (vR R) = true := by
  induction R with
  | nil => rfl
  | cons r R ih =>
    rw [vR_cons, poRR, ih, Bool.and_true]
    induction r with
    | nil => rfl
    | cons x r ih => simp [poR, po, ih]
theorem vR_ts (R : List (List Value)) : toShRR (vR R) = vR R := by
  induction R with
  | nil => rfl
  | cons r R ih =>
    rw [vR_cons, toShRR, ih]
    congr 1
    induction r with
    | nil => rfl
    | cons x r ih => simp only [List.map_cons, toShR, ih]; rfl
theorem vR_snoc (R : List (List Value)) (r : List Value) : vR R ++ [r.map .v] = vR (R ++ [r]) := by simp [vR]
theorem vR_take (R : List (List Value)) : (vR R).take R.length = vR R := List.take_of_length_le (by simp [vR])

/-- Rows of which the first ones are turned. -/
def mix (f : Nat → List Value) (R : List (List Value)) (i : Nat) : List (List Value) := (List.range i).map f ++ R.drop i
theorem mix_zero (f : Nat → List Value) (R : List (List Value)) : mix f R 0 = R := by simp [mix]
theorem mix_all (f : Nat → List Value) (R : List (List Value)) : mix f R R.length = (List.range R.length).map f := by simp [mix]
theorem mix_length (f : Nat → List Value) (R : List (List Value)) {i : Nat} (h : i ≤ R.length) : (mix f R i).length = R.length := by simp [mix]; omega
theorem mix_getD (f : Nat → List Value) (R : List (List Value)) {i : Nat} (_h : i < R.length) : (mix f R i).getD i [] = R.getD i [] := by
  unfold mix
  rw [List.getD_eq_getElem?_getD, List.getElem?_append_right (by simp), List.length_map, List.length_range, Nat.sub_self, List.getElem?_drop, Nat.add_zero, ← List.getD_eq_getElem?_getD]
theorem mix_set (f : Nat → List Value) (R : List (List Value)) {i : Nat} (h : i < R.length) : (vR (mix f R i)).set i ((f i).map .v) = vR (mix f R (i + 1)) := by
  have e : (mix f R i).set i (f i) = mix f R (i + 1) := by
    unfold mix
    rw [List.set_append, if_neg (by simp), List.length_map, List.length_range, Nat.sub_self, List.drop_eq_getElem_cons h, List.set_cons_zero, List.range_succ, List.map_append]
    simp
  rw [← e]
  unfold vR
  rw [List.map_set]
theorem vR_mix_getD (f : Nat → List Value) (R : List (List Value)) {i : Nat} (h : i < R.length) : (vR (mix f R i)).getD i [] = (R.getD i []).map .v := by rw [vR_getD, mix_getD f R h]
theorem apart_pair (r r' : Root) (p p' : Path) : apart (r, p) (r', p') = (!decide (r = r') || (!(p.isPrefixOf p') && !(p'.isPrefixOf p))) := by
  by_cases h : r = r' <;> simp [apart, h]
attribute [push_cast] apart_pair nrRR poRR toShRR toShR
attribute [push_cast] vR_nil vR_cons vR_nr vR_po vR_ts vR_take vR_length
end Go.Rx
