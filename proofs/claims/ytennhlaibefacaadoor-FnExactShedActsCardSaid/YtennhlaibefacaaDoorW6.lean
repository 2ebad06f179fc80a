/- Frames of a file: both ways come to the same. -/
import Derived.Test.YtennhlaibefacaaDoorW5
namespace Go.Proofs.YtennhlaibefacaaDoor
open Go.RowKit Go.Rx
set_option linter.unusedSimpArgs false
set_option maxRecDepth 100000

theorem frO_bound {s : ByteArray} {a x : Nat} {t : ByteArray} (h : frO s a = some (t, x)) : a < x ∧ x ≤ s.size := by
  unfold frO at h
  split at h
  · rename_i n y hr
    have hb := rvO_bound hr
    split at h
    · rename_i hc
      obtain ⟨_, rfl⟩ := Prod.mk.inj (Option.some.inj h)
      omega
    · cases h
  · cases h
def frL (s : ByteArray) : Nat → Nat → List (ByteArray × Nat)
  | 0, _ => []
  | k + 1, a => match frO s a with
    | some (t, x) => (t, x) :: frL s k x
    | none => []
def frs (s : ByteArray) : List (ByteArray × Nat) := if s.size ≤ 20000 then frL s (s.size + 1) 0 else []
theorem frL_len (s : ByteArray) : ∀ (k a : Nat), (frL s k a).length ≤ s.size - a
  | 0, a => by simp [frL]
  | k + 1, a => by
    rw [frL]
    cases h : frO s a with
    | none => simp
    | some p =>
      obtain ⟨t, x⟩ := p
      have hb := frO_bound h
      have := frL_len s k x
      simp only [List.length_cons]; omega
theorem frs_len (s : ByteArray) : (frs s).length ≤ 20000 := by
  unfold frs
  split
  · have := frL_len s (s.size + 1) 0; omega
  · simp
/-- More fuel changes nothing. -/
theorem frL_fuel (s : ByteArray) : ∀ (k k' a : Nat), s.size < k + a → s.size < k' + a → frL s k a = frL s k' a
  | 0, 0, _, _, _ => rfl
  | 0, k' + 1, a, h, _ => by
    rw [frL, frL]
    cases hf : frO s a with
    | none => rfl
    | some p => obtain ⟨t, x⟩ := p; have := frO_bound hf; omega
  | k + 1, 0, a, _, h => by
    rw [frL, frL]
    cases hf : frO s a with
    | none => rfl
    | some p => obtain ⟨t, x⟩ := p; have := frO_bound hf; omega
  | k + 1, k' + 1, a, h, h' => by
    rw [frL, frL]
    cases hf : frO s a with
    | none => rfl
    | some p =>
      obtain ⟨t, x⟩ := p
      have := frO_bound hf
      simp only
      rw [frL_fuel s k k' x (by omega) (by omega)]
def frLast (l : List (ByteArray × Nat)) : Nat := (l.getLast?.map (·.2)).getD 0
def frTs (l : List (ByteArray × Nat)) : List ByteArray := l.map (·.1)
def frEs (l : List (ByteArray × Nat)) : List Int := l.map fun p => (p.2 : Int)

def unfT (s : ByteArray) : List ByteArray := frTs (frs s)
def unfE (s : ByteArray) : Nat := frLast (frs s)
end Go.Proofs.YtennhlaibefacaaDoor

