/- ReadEntry: both ways come to the same. -/
import Derived.Test.YtennhlaibefacaaDoorW10
namespace Go.Proofs.YtennhlaibefacaaDoor
open Go.RowKit Go.Rx
set_option linter.unusedSimpArgs false
set_option maxRecDepth 100000

theorem numB_false {s : ByteArray} {a : Nat} {b : Bool} (h : numB s a b = false) : b = false ∧ ∃ n x, rvO s a = some (n, x) ∧ numN s a b = n ∧ numA s a b = x := by
  cases b with
  | true => simp [numB] at h
  | false =>
    cases hr : rvO s a with
    | none => simp [numB, hr] at h
    | some p =>
      obtain ⟨n, x⟩ := p
      exact ⟨rfl, n, x, rfl, by simp [numN, hr], by simp [numA, hr]⟩
theorem takeB_false {s : ByteArray} {a n : Nat} {b : Bool} (h : takeB s a b n = false) : b = false ∧ a + n ≤ s.size ∧ takeA s a b n = a + n ∧ takeT s a b n = s.extract a (a + n) := by
  have ho : takeOk s a b n = true := by simpa [takeB] using h
  refine ⟨?_, ?_, by simp only [takeA, ho, if_true], by simp only [takeT, ho, if_true]⟩
  · simp [takeOk] at ho; exact ho.1
  · simp [takeOk] at ho; exact ho.2
theorem seg_all (s : ByteArray) : seg s 0 s.size = s.data.toList := by
  unfold seg
  have : s.data.toList.length = s.size := by rw [Array.length_toList]; rfl
  rw [List.drop_zero, ← this, List.take_length]
/-! ### where the parts stand -/
def eA1 (s : ByteArray) : Nat := takeA s 0 false 1
def eB1 (s : ByteArray) : Bool := takeB s 0 false 1
def eN1 (s : ByteArray) : Nat := numN s (eA1 s) (eB1 s)
def eA2 (s : ByteArray) : Nat := numA s (eA1 s) (eB1 s)
def eB2 (s : ByteArray) : Bool := numB s (eA1 s) (eB1 s)
def eN2 (s : ByteArray) : Nat := numN s (eA2 s) (eB2 s)
def eA3 (s : ByteArray) : Nat := numA s (eA2 s) (eB2 s)
def eB3 (s : ByteArray) : Bool := numB s (eA2 s) (eB2 s)
def eK (s : ByteArray) : Nat := octN s (eA3 s) (eB3 s)
def eA4 (s : ByteArray) : Nat := takeA s (eA3 s) (eB3 s) 1
def eB4 (s : ByteArray) : Bool := takeB s (eA3 s) (eB3 s) 1
def eD (s : ByteArray) : ByteArray := s.extract (eA4 s) s.size
def eOk (s : ByteArray) : Bool := (!eB4 s && decide (takeT s 0 false 1 = ⟨#[69]⟩)) && (inR (eN1 s) 1 1000000 && eoB (eN2 s) (eK s) (eD s))
def eX (s : ByteArray) : List X := if eOk s then [i64 (eN1 s), .agg (entC (eN2 s) (eK s) (eD s)), bo true] else [i64 0, .agg (entC 0 0 ⟨#[]⟩), bo false]
theorem eX_true {s : ByteArray} (h : eOk s = true) : eX s = [i64 (eN1 s), .agg (entC (eN2 s) (eK s) (eD s)), bo true] := by simp only [eX, h, if_true]
theorem eX_false {s : ByteArray} (h : eOk s = false) : eX s = [i64 0, .agg (entC 0 0 ⟨#[]⟩), bo false] := by simp only [eX, h, Bool.false_eq_true, if_false]
theorem eA1_le (s : ByteArray) : eA1 s ≤ s.size := takeA_le (Nat.zero_le _)
theorem eA2_le (s : ByteArray) : eA2 s ≤ s.size := numA_le (eA1_le s)
theorem eA3_le (s : ByteArray) : eA3 s ≤ s.size := numA_le (eA2_le s)
theorem eA4_le (s : ByteArray) : eA4 s ≤ s.size := takeA_le (eA3_le s)
theorem e_iff {s : ByteArray} (h : eB4 s = false) : etB (eN1 s) (eN2 s) (eK s) (eD s) = s ↔ takeT s 0 false 1 = ⟨#[69]⟩ := by
  obtain ⟨h3, hs4, ha4, _⟩ := takeB_false h
  obtain ⟨h2, n2, x3, r2, e2, f2⟩ := numB_false h3
  obtain ⟨h1, n1, x2, r1, e1, f1⟩ := numB_false h2
  obtain ⟨_, hs1, ha1, ht1⟩ := takeB_false h1
  have hA1 : eA1 s = 1 := by rw [eA1, ha1]
  have hN1 : eN1 s = n1 := e1
  have hA2 : eA2 s = x2 := f1
  have hN2 : eN2 s = n2 := e2
  have hA3 : eA3 s = x3 := f2
  rw [hA1] at r1
  rw [hA2] at r2
  rw [hA3] at hs4
  have hA4 : eA4 s = x3 + 1 := by rw [eA4, ha4, hA3]
  have hK : eK s = (bu s x3).toNat := by
    have ho : takeOk s (eA3 s) (eB3 s) 1 = true := by simpa [eB4, takeB] using h
    rw [eK, octN, if_pos ho, hA3]
  have c1 := rvO_canon r1
  have c2 := rvO_canon r2
  obtain ⟨_, _, b1, b1'⟩ := rvO_bound r1
  obtain ⟨_, _, b2, b2'⟩ := rvO_bound r2
  have g3 : seg s x3 1 = [bu s x3] := by rw [show (1 : Nat) = 0 + 1 from rfl, seg_succ (by omega), seg_zero]; rfl
  have L : (etB (eN1 s) (eN2 s) (eK s) (eD s)).data.toList = [69] ++ (seg s 1 (x2 - 1) ++ (seg s x2 (x3 - x2) ++ (seg s x3 1 ++ seg s (x3 + 1) (s.size - (x3 + 1))))) := by
    unfold etB eD
    rw [app_list, app_list, app_list, app_list, varB_list, varB_list, hN1, hN2, c1, c2, hK, hA4, extract_list, g3]
    simp
  have R : s.data.toList = seg s 0 1 ++ (seg s 1 (x2 - 1) ++ (seg s x2 (x3 - x2) ++ (seg s x3 1 ++ seg s (x3 + 1) (s.size - (x3 + 1))))) := by
    rw [← seg_all s, show s.size = 1 + ((x2 - 1) + ((x3 - x2) + (1 + (s.size - (x3 + 1))))) by omega]
    rw [seg_append, show (0 : Nat) + 1 = 1 from rfl, seg_append, show 1 + (x2 - 1) = x2 by omega, seg_append, show x2 + (x3 - x2) = x3 by omega, seg_append]
    rw [show 1 + (x2 - 1 + (x3 - x2 + (1 + (s.size - (x3 + 1))))) - (x3 + 1) = s.size - (x3 + 1) by omega]
  have T : (takeT s 0 false 1).data.toList = seg s 0 1 := by rw [ht1, extract_list]
  constructor
  · intro hh
    refine bytes_ext ?_
    rw [T]
    have : (etB (eN1 s) (eN2 s) (eK s) (eD s)).data.toList = s.data.toList := by rw [hh]
    rw [L] at this
    conv at this => rhs; rw [R]
    exact (List.append_cancel_right this).symm
  · intro hh
    refine bytes_ext ?_
    rw [L]
    conv => rhs; rw [R]
    rw [← T, hh]

end Go.Proofs.YtennhlaibefacaaDoor

