/- A slice's literal: its cells. -/
import Derived.Test.YtbnabpmfdnfigaaRxKe
namespace Go.Rx
open Go.RowKit

theorem foldl_set : ∀ (cs : List Value) (off k : Nat) (A : Array Value), off + k + cs.length ≤ A.size →
    ((cs.zipIdx k).foldl (fun (B : Array Value) (x : Value × Nat) => B.setIfInBounds (off + x.2) x.1) A).size = A.size ∧
    ∀ q, ((cs.zipIdx k).foldl (fun (B : Array Value) (x : Value × Nat) => B.setIfInBounds (off + x.2) x.1) A).getD q undef = if off + k ≤ q ∧ q < off + k + cs.length then cs.getD (q - (off + k)) undef else A.getD q undef
  | [], off, k, A, _ => ⟨rfl, fun q => by
    rw [if_neg (by simp only [List.length_nil]; omega)]; rfl⟩
  | c :: cs, off, k, A, h => by
    simp only [List.length_cons] at h
    obtain ⟨h1, h2⟩ := foldl_set cs off (k + 1) (A.setIfInBounds (off + k) c) (by simp; omega)
    refine ⟨by rw [List.zipIdx_cons, List.foldl_cons, h1]; simp, fun q => ?_⟩
    rw [List.zipIdx_cons, List.foldl_cons, h2 q]
    simp only [List.length_cons]
    by_cases e : q = off + k
    · subst e
      rw [if_neg (by omega), if_pos (by omega), Nat.sub_self]
      have : off + k < A.size := by omega
      simp [Array.getD, this]
    · by_cases hq : off + (k + 1) ≤ q ∧ q < off + (k + 1) + cs.length
      · rw [if_pos hq, if_pos (by omega)]
        obtain ⟨m, hm⟩ : ∃ m, q - (off + k) = m + 1 := ⟨q - (off + k) - 1, by omega⟩
        rw [hm, show q - (off + (k + 1)) = m by omega]; rfl
      · rw [if_neg hq, if_neg (by omega)]
        have hg : ∀ (B : Array Value), B.getD q undef = (B[q]?).getD undef := fun B => by simp [Array.getD, Option.getD]; split <;> simp_all
        rw [hg, hg, Array.getElem?_setIfInBounds_ne (Ne.symm e)]

theorem fill_rows (sz : Nat) : ∀ (ps : List (Nat × Value)) (i : Nat) (A : Array Value), (∀ k, k < ps.length → ∃ v, ps[k]? = some (i + k, v) ∧ v.cells.size = sz) → (i + ps.length) * sz ≤ A.size →
    ∃ B, Instr.fill (fun i => some (i * sz, sz)) A ps = some B ∧ B.size = A.size ∧ (∀ q, q < i * sz → B.getD q undef = A.getD q undef) ∧
      ∀ k j v, ps[k]? = some (i + k, v) → j < sz → B.getD ((i + k) * sz + j) undef = v.cells.toList.getD j undef
  | [], i, A, _, _ => ⟨A, rfl, rfl, fun _ _ => rfl, fun k j v h => by simp at h⟩
  | (i0, v0) :: ps, i, A, h, hs => by
    obtain ⟨v, hv, hsz⟩ := h 0 (by simp)
    simp only [List.getElem?_cons_zero, Option.some.injEq, Prod.mk.injEq, Nat.add_zero] at hv
    obtain ⟨rfl, rfl⟩ := hv
    simp only [List.length_cons] at hs
    have e1 : (i0 + (ps.length + 1)) * sz = i0 * sz + (ps.length * sz + sz) := by rw [Nat.add_mul, Nat.add_mul, Nat.one_mul]
    have hl : v0.cells.toList.length = sz := by simpa using hsz
    obtain ⟨f1, f2⟩ := foldl_set v0.cells.toList (i0 * sz) 0 A (by rw [hl]; omega)
    have hstep : Instr.fill (fun i => some (i * sz, sz)) A ((i0, v0) :: ps) = Instr.fill (fun i => some (i * sz, sz)) ((v0.cells.toList.zipIdx 0).foldl (fun (B : Array Value) (x : Value × Nat) => B.setIfInBounds (i0 * sz + x.2) x.1) A) ps := by
      simp only [Instr.fill]
      rw [if_neg (by simp only [hsz, ne_eq, not_true_eq_false, decide_false, Bool.false_or, decide_eq_true_eq]; omega)]
      congr 1
      rw [← Array.foldl_toList, Array.toList_zipIdx]
    obtain ⟨B, b1, b2, b3, b4⟩ := fill_rows sz ps (i0 + 1) _ (fun k hk => by
      obtain ⟨v, h1, h2⟩ := h (k + 1) (by simpa using hk)
      exact ⟨v, by rw [List.getElem?_cons_succ] at h1; rw [h1]; congr 2; omega, h2⟩) (by rw [f1, Nat.add_mul, Nat.add_mul, Nat.one_mul]; omega)
    refine ⟨B, hstep.trans b1, b2.trans f1, fun q hq => ?_, fun k j v hk hj => ?_⟩
    · rw [b3 q (by rw [Nat.add_mul]; omega), f2, if_neg (by omega)]
    · cases k with
      | zero =>
        simp only [List.getElem?_cons_zero, Option.some.injEq, Prod.mk.injEq] at hk
        obtain ⟨_, rfl⟩ := hk
        rw [Nat.add_zero, b3 _ (by rw [Nat.add_mul, Nat.one_mul]; omega), f2, if_pos (by rw [hl]; omega)]
        congr 1; omega
      | succ k =>
        rw [List.getElem?_cons_succ] at hk
        rw [show i0 + (k + 1) = i0 + 1 + k by omega] at hk ⊢
        exact b4 k j v hk hj
end Go.Rx
