/- A store into rows of one's own. -/
import Derived.Test.YtbnabpmfdnfigaaRxF
namespace Go.Rx
open Go.RowKit

/-- The cells of a value that can be stored or boxed. -/
def scalar : Value → Bool
  | .agg _ => false
  | .tuple _ => false
  | _ => true
def cellOk : C → Bool
  | .v x => scalar x
  | .bad => false
  | .own _ _ => false
  | _ => true
def cellsX : X → Option (List C)
  | .one c => if cellOk c then some [c] else none
  | .agg cs => if cs.all cellOk then some cs else none

section
variable {P : Program} {w w0 : World} {g g0 : Gh} {σ : St} {a : Act} {o : Store}

theorem CR.scalar {l : Option (Root × Path × Nat × Nat)} {c : C} {y : Value} (hc : cellOk c = true) (h : CR w o g l c y) : scalar y = true := by
  cases c with
  | v x => cases h; exact hc
  | sh sz R => cases h <;> rfl
  | ps cs => cases h; rfl
  | own sz R => cases hc
  | rs r p sz off len =>
    obtain ⟨R, _, _, hs⟩ := h
    unfold SlAt at hs
    split at hs
    · obtain ⟨rfl, _⟩ := hs; rfl
    · obtain ⟨q, cap, rfl, _⟩ := hs; rfl
  | pt r p sz row off => obtain ⟨R, b, _, _, _, rfl⟩ := h; rfl
  | bad => cases hc

theorem cells_scalar {y : Value} (h : scalar y = true) : y.cells = #[y] := by
  cases y <;> first | rfl | cases h

theorem cellsX_rel {x : X} {cs : List C} {y : Value} (h : cellsX x = some cs) (hx : XR w o g x y) :
    y.cells.toList.length = cs.length ∧ (∀ j, j < cs.length → CR w o g none (cs.getD j .bad) (y.cells.toList.getD j undef)) ∧ (∀ j, j < cs.length → cellOk (cs.getD j .bad) = true) := by
  cases x with
  | one c =>
    simp only [cellsX] at h
    split at h
    · rename_i hc
      cases h
      have := CR.scalar (l := none) hc (show CR w o g none c y from hx)
      rw [cells_scalar this]
      refine ⟨rfl, fun j hj => ?_, fun j hj => ?_⟩ <;>
      · obtain rfl : j = 0 := by simp at hj; omega
        first | exact hx | exact hc
    · cases h
  | agg ds =>
    simp only [cellsX] at h
    split at h
    · rename_i hc
      cases h
      obtain ⟨ys, rfl, hl, hr⟩ := hx
      refine ⟨by simpa [Value.cells] using hl, fun j hj => by simpa [Value.cells] using hr j hj, fun j hj => ?_⟩
      rw [List.all_eq_true] at hc
      have : cs.getD j .bad = cs[j] := by simp [List.getD_eq_getElem?_getD, List.getElem?_eq_getElem hj]
      rw [this]; exact hc _ (List.getElem_mem hj)
    · cases h

/-! ### rows with one stretch of cells turned -/

def setRange (row : List C) (off : Nat) (cs : List C) : List C := row.take off ++ cs ++ row.drop (off + cs.length)

theorem setRange_length {row cs : List C} {off : Nat} (h : off + cs.length ≤ row.length) : (setRange row off cs).length = row.length := by
  simp [setRange]; omega
theorem setRange_get {row cs : List C} {off : Nat} (h : off + cs.length ≤ row.length) (j : Nat) :
    (setRange row off cs).getD j .bad = if off ≤ j ∧ j < off + cs.length then cs.getD (j - off) .bad else row.getD j .bad := by
  have ht : (row.take off).length = off := by simp; omega
  simp only [setRange, List.getD_eq_getElem?_getD]
  by_cases h1 : j < off
  · rw [List.append_assoc, List.getElem?_append_left (by omega), List.getElem?_take, if_pos h1, if_neg (by omega)]
  · by_cases h2 : j < off + cs.length
    · rw [List.append_assoc, List.getElem?_append_right (by omega), ht, List.getElem?_append_left (by omega), if_pos ⟨by omega, h2⟩]
    · rw [List.getElem?_append_right (by simp; omega), List.getElem?_drop, if_neg (by omega)]
      simp only [List.length_append, ht]
      rw [show off + cs.length + (j - (off + cs.length)) = j by omega]

def updAt : List (List C) → Path → List (List C) → List (List C)
  | _, [], R' => R'
  | R, (i, j) :: p, R' => match (R[i]?).bind (·[j]?) with
    | some (.own sz Q) => R.set i ((R.getD i []).set j (.own sz (updAt Q p R')))
    | _ => R

/-- Two cells alike, but for what lies behind. -/
def Alike (c c' : C) : Prop := c = c' ∨ ∃ sz Q Q', c = .own sz Q ∧ c' = .own sz Q' ∧ Q.length = Q'.length

structure Turned (R R' : List (List C)) (on : Nat → Nat → Prop) (new : Nat → Nat → C) : Prop where
  len : R'.length = R.length
  row : ∀ i, i < R.length → (R'.getD i []).length = (R.getD i []).length
  hit : ∀ i j, i < R.length → j < (R.getD i []).length → on i j → cellAt R' i j = new i j
  miss : ∀ i j, i < R.length → j < (R.getD i []).length → ¬ on i j → Alike (cellAt R i j) (cellAt R' i j)

theorem getD_set {R : List (List C)} {i k : Nat} {row : List C} (hi : i < R.length) : (R.set i row).getD k [] = if i = k then row else R.getD k [] := by
  simp only [List.getD_eq_getElem?_getD, List.getElem?_set]
  by_cases h : i = k
  · simp [h]; subst h; simp [hi]
  · simp [h]

theorem getD_setC {R : List C} {i k : Nat} {c : C} (hi : i < R.length) : (R.set i c).getD k .bad = if i = k then c else R.getD k .bad := by
  simp only [List.getD_eq_getElem?_getD, List.getElem?_set]
  by_cases h : i = k
  · simp [h]; subst h; simp [hi]
  · simp [h]

theorem bind_cell {R : List (List C)} {i j : Nat} {c : C} (h : (R[i]?).bind (·[j]?) = some c) : i < R.length ∧ j < (R.getD i []).length ∧ cellAt R i j = c := by
  cases hi : R[i]? with
  | none => simp [hi] at h
  | some row =>
    simp only [hi, Option.bind_some] at h
    have h1 : i < R.length := by
      rcases Nat.lt_or_ge i R.length with h' | h'
      · exact h'
      · simp [List.getElem?_eq_none h'] at hi
    have h2 : R.getD i [] = row := by simp [List.getD_eq_getElem?_getD, hi]
    refine ⟨h1, ?_, ?_⟩
    · rw [h2]
      rcases Nat.lt_or_ge j row.length with h' | h'
      · exact h'
      · simp [List.getElem?_eq_none h'] at h
    · unfold cellAt; rw [h2]; simp [List.getD_eq_getElem?_getD, h]
theorem cell_bind {R : List (List C)} {i j : Nat} (h1 : i < R.length) (h2 : j < (R.getD i []).length) : (R[i]?).bind (·[j]?) = some (cellAt R i j) := by
  have e1 : R[i]? = some (R.getD i []) := by simp [List.getD_eq_getElem?_getD, List.getElem?_eq_getElem h1]
  rw [e1, Option.bind_some]
  unfold cellAt
  rw [List.getD_eq_getElem?_getD (l := R.getD i []), List.getElem?_eq_getElem h2]; rfl

/-- The rows at every path, behind a turn of the rows at one. -/
theorem rowsAt_updAt {row off : Nat} {cs : List C} : ∀ (p : Path) (sz n : Nat) (R Q : List (List C)), rowsAt sz R p = some (n, Q) → row < Q.length → off + cs.length ≤ (Q.getD row []).length →
    (∀ j, off ≤ j → j < off + cs.length → ∀ m K, cellAt Q row j ≠ .own m K) → (∀ j, j < cs.length → ∀ m K, cs.getD j .bad ≠ .own m K) →
    (updAt R p (Q.set row (setRange (Q.getD row []) off cs))).length = R.length ∧
    ∀ q m K', rowsAt sz (updAt R p (Q.set row (setRange (Q.getD row []) off cs))) q = some (m, K') →
      ∃ K, rowsAt sz R q = some (m, K) ∧ Turned K K' (fun i j => q = p ∧ i = row ∧ off ≤ j ∧ j < off + cs.length) (fun _ j => cs.getD (j - off) .bad)
  | [], sz, n, R, Q, hR, hrow, hoff, hold, hnew => by
    simp only [rowsAt, Option.some.injEq, Prod.mk.injEq] at hR
    obtain ⟨rfl, rfl⟩ := hR
    simp only [updAt]
    refine ⟨by simp, fun q m K' hq => ?_⟩
    have hget : ∀ i, (R.set row (setRange (R.getD row []) off cs)).getD i [] = if row = i then setRange (R.getD row []) off cs else R.getD i [] := fun i => getD_set hrow
    cases q with
    | nil =>
      simp only [rowsAt, Option.some.injEq, Prod.mk.injEq] at hq
      obtain ⟨rfl, rfl⟩ := hq
      refine ⟨R, rfl, by simp, fun i hi => ?_, fun i j hi hj hh => ?_, fun i j hi hj hh => ?_⟩
      · rw [hget]; split
        · subst_vars; exact setRange_length hoff
        · rfl
      · obtain ⟨_, rfl, h1, h2⟩ := hh
        simp only [cellAt, hget, if_true]
        rw [setRange_get hoff, if_pos ⟨h1, h2⟩]
      · left
        simp only [cellAt, hget]
        split
        · rename_i e; subst e
          rw [setRange_get hoff, if_neg (fun h => hh ⟨rfl, rfl, h.1, h.2⟩)]
        · rfl
    | cons x q =>
      obtain ⟨i, j⟩ := x
      simp only [rowsAt] at hq
      split at hq
      · rename_i sz' R' hc
        obtain ⟨h1, h2, h3⟩ := bind_cell hc
        simp only [List.length_set] at h1
        rw [hget] at h2
        have h3' : cellAt R i j = .own sz' R' := by
          simp only [cellAt, hget] at h3
          split at h3
          · rename_i e; subst e
            rw [setRange_get hoff] at h3
            split at h3
            · rename_i hin
              exact absurd h3 (hnew _ (by omega) _ _)
            · exact h3
          · exact h3
        have h2' : j < (R.getD i []).length := by
          split at h2
          · subst_vars; rw [setRange_length hoff] at h2; exact h2
          · exact h2
        refine ⟨K', ?_, rfl, fun _ _ => rfl, fun _ _ _ _ hh => absurd hh.1 (by simp), fun _ _ _ _ _ => .inl rfl⟩
        simp only [rowsAt, cell_bind h1 h2', h3']
        exact hq
      · cases hq
  | (a, b) :: p, sz, n, R, Q, hR, hrow, hoff, hold, hnew => by
    simp only [rowsAt] at hR
    split at hR
    · rename_i s1 Q1 hc
      obtain ⟨h1, h2, h3⟩ := bind_cell hc
      obtain ⟨ihl, ih⟩ := rowsAt_updAt p s1 n Q1 Q hR hrow hoff hold hnew
      simp only [updAt, hc]
      refine ⟨by simp, fun q m K' hq => ?_⟩
      generalize hU : updAt Q1 p (Q.set row (setRange (Q.getD row []) off cs)) = U at *
      have hget : ∀ i, (R.set a ((R.getD a []).set b (.own s1 U))).getD i [] = if a = i then (R.getD a []).set b (.own s1 U) else R.getD i [] := fun i => getD_set h1
      have hcell : ∀ i j, cellAt (R.set a ((R.getD a []).set b (.own s1 U))) i j = if a = i ∧ b = j then .own s1 U else cellAt R i j := fun i j => by
        simp only [cellAt, hget]
        by_cases e1 : a = i
        · subst e1
          simp only [if_true, true_and]
          rw [getD_setC h2]
        · simp [e1]
      cases q with
      | nil =>
        simp only [rowsAt, Option.some.injEq, Prod.mk.injEq] at hq
        obtain ⟨rfl, rfl⟩ := hq
        refine ⟨R, rfl, by simp, fun i hi => ?_, fun i j hi hj hh => absurd hh.1 (by simp), fun i j hi hj hh => ?_⟩
        · rw [hget]; split
          · subst_vars; simp
          · rfl
        · rw [hcell]
          split
          · rename_i e
            obtain ⟨rfl, rfl⟩ := e
            exact .inr ⟨s1, Q1, U, h3, rfl, ihl.symm⟩
          · exact .inl rfl
      | cons x q =>
        obtain ⟨i, j⟩ := x
        simp only [rowsAt] at hq
        split at hq
        · rename_i sz' R' hc'
          obtain ⟨k1, k2, k3⟩ := bind_cell hc'
          simp only [List.length_set] at k1
          rw [hcell] at k3
          by_cases e : a = i ∧ b = j
          · rw [if_pos e] at k3
            obtain ⟨rfl, rfl⟩ := e
            cases k3
            obtain ⟨K, hK, hT⟩ := ih q m K' hq
            refine ⟨K, ?_, hT.len, hT.row, fun i j hi hj hh => hT.hit i j hi hj ⟨(List.cons.inj hh.1).2, hh.2⟩, fun i j hi hj hh => hT.miss i j hi hj fun h' => hh ⟨by rw [h'.1], h'.2⟩⟩
            simp only [rowsAt, hc]
            exact hK
          · rw [if_neg e] at k3
            have k2' : j < (R.getD i []).length := by
              rw [hget] at k2
              split at k2
              · subst_vars; simpa using k2
              · exact k2
            refine ⟨K', ?_, rfl, fun _ _ => rfl, fun _ _ _ _ hh => ?_, fun _ _ _ _ _ => .inl rfl⟩
            · simp only [rowsAt, cell_bind k1 k2', k3]
              exact hq
            · exact absurd (List.cons.inj hh.1).1 (fun e' => e (by cases e'; exact ⟨rfl, rfl⟩))
        · cases hq
    · cases hR

end
end Go.Rx
