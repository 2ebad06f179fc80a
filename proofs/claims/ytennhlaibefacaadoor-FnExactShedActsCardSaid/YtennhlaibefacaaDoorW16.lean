/- ReadCommand: both ways come to the same. -/
import Derived.Test.YtennhlaibefacaaDoorW15
namespace Go.Proofs.YtennhlaibefacaaDoor
open Go.RowKit Go.Rx
set_option linter.unusedSimpArgs false
set_option maxRecDepth 100000

/-! ### where the parts stand, the reference's way -/
def cO (s : ByteArray) : Nat := octN s 0 false
def cA1 (s : ByteArray) : Nat := takeA s 0 false 1
def cB1 (s : ByteArray) : Bool := takeB s 0 false 1
def cTok (s : ByteArray) : Nat := numN s (cA1 s) (cB1 s)
def cA2 (s : ByteArray) : Nat := numA s (cA1 s) (cB1 s)
def cB2 (s : ByteArray) : Bool := numB s (cA1 s) (cB1 s)
def cSeq (s : ByteArray) : Nat := numN s (cA2 s) (cB2 s)
def cA3 (s : ByteArray) : Nat := numA s (cA2 s) (cB2 s)
def cB3 (s : ByteArray) : Bool := numB s (cA2 s) (cB2 s)
def cText (s : ByteArray) : ByteArray := l5T s (cA3 s) (cB3 s)
def cA4 (s : ByteArray) : Nat := l5A s (cA3 s) (cB3 s)
def cB4 (s : ByteArray) : Bool := l5B s (cA3 s) (cB3 s)
def cTask (s : ByteArray) : ByteArray := l5T s (cA4 s) (cB4 s)
def cA5 (s : ByteArray) : Nat := l5A s (cA4 s) (cB4 s)
def cB5 (s : ByteArray) : Bool := l5B s (cA4 s) (cB4 s)
def cNum (s : ByteArray) : Nat := numN s (cA5 s) (cB5 s)
def cA6 (s : ByteArray) : Nat := numA s (cA5 s) (cB5 s)
def cB6 (s : ByteArray) : Bool := numB s (cA5 s) (cB5 s)
def cTo (s : ByteArray) : Nat := numN s (cA6 s) (cB6 s)
def cA7 (s : ByteArray) : Nat := numA s (cA6 s) (cB6 s)
def cB7 (s : ByteArray) : Bool := numB s (cA6 s) (cB6 s)
def cY (s : ByteArray) : Nat := octN s (cA7 s) (cB7 s)
def cA8 (s : ByteArray) : Nat := takeA s (cA7 s) (cB7 s) 1
def cB8 (s : ByteArray) : Bool := takeB s (cA7 s) (cB7 s) 1
def cYes (s : ByteArray) : Bool := decide ((cY s : Int) = 1)
def cX (s : ByteArray) : Cmd := mkC (cO s) (cTok s) (cSeq s) (cText s) (cTask s) (cNum s) (cTo s) (cYes s)
def cT (s : ByteArray) : ByteArray := ctB (cO s) (cTok s) (cSeq s) (cText s) (cTask s) (cNum s) (cTo s) (cYes s)
theorem l5A_le {s : ByteArray} {a : Nat} {b : Bool} (ha : a ≤ s.size) : l5A s a b ≤ s.size := takeA_le (numA_le ha)
theorem cA1_le (s : ByteArray) : cA1 s ≤ s.size := takeA_le (Nat.zero_le _)
theorem cA2_le (s : ByteArray) : cA2 s ≤ s.size := numA_le (cA1_le s)
theorem cA3_le (s : ByteArray) : cA3 s ≤ s.size := numA_le (cA2_le s)
theorem cA4_le (s : ByteArray) : cA4 s ≤ s.size := l5A_le (cA3_le s)
theorem cA5_le (s : ByteArray) : cA5 s ≤ s.size := l5A_le (cA4_le s)
theorem cA6_le (s : ByteArray) : cA6 s ≤ s.size := numA_le (cA5_le s)
theorem cA7_le (s : ByteArray) : cA7 s ≤ s.size := numA_le (cA6_le s)
theorem takeT_size (s : ByteArray) (a : Nat) (b : Bool) (n : Nat) : (takeT s a b n).size ≤ s.size := by
  unfold takeT
  split
  · rw [ByteArray.size_extract]; omega
  · exact Nat.zero_le _

/-- A number that was read well. -/
theorem num_good {s : ByteArray} {a : Nat} {b : Bool} (h : numB s a b = false) : b = false ∧ a < numA s a b ∧ numA s a b ≤ s.size ∧ varL (numN s a b) = seg s a (numA s a b - a) := by
  obtain ⟨h1, n, x, hr, e1, e2⟩ := numB_false h
  obtain ⟨_, _, h2, h3⟩ := rvO_bound hr
  rw [e1, e2]
  exact ⟨h1, by omega, h3, rvO_canon hr⟩
theorem short_good {s : ByteArray} {a : Nat} {b : Bool} (h : l5B s a b = false) : b = false ∧ a < l5A s a b ∧ l5A s a b ≤ s.size ∧ (shortB (l5T s a b)).data.toList = seg s a (l5A s a b - a) ∧ (l5T s a b).size = numN s a b := by
  obtain ⟨h1, h2, h3, h4⟩ := takeB_false (show takeB s (numA s a b) (numB s a b) (numN s a b) = false from h)
  obtain ⟨k1, k2, k3, k4⟩ := num_good h1
  have e : l5A s a b = numA s a b + numN s a b := h3
  have et : l5T s a b = s.extract (numA s a b) (numA s a b + numN s a b) := h4
  have hsz : (l5T s a b).size = numN s a b := by rw [et, ByteArray.size_extract]; omega
  refine ⟨k1, by omega, by omega, ?_, hsz⟩
  unfold shortB
  rw [app_list, hsz, varB_list, k4, et, extract_list, e, show numA s a b + numN s a b - a = (numA s a b - a) + numN s a b by omega, seg_append,
    show a + (numA s a b - a) = numA s a b by omega, show numA s a b + numN s a b - numA s a b = numN s a b by omega]
theorem oct_good {s : ByteArray} {a : Nat} {b : Bool} (h : takeB s a b 1 = false) : b = false ∧ takeA s a b 1 = a + 1 ∧ a + 1 ≤ s.size ∧ octN s a b = (bu s a).toNat ∧ seg s a 1 = [bu s a] := by
  obtain ⟨h1, h2, h3, _⟩ := takeB_false h
  have ho : takeOk s a b 1 = true := by simpa [takeB] using h
  refine ⟨h1, h3, h2, by rw [octN, if_pos ho], ?_⟩
  rw [show (1 : Nat) = 0 + 1 from rfl, seg_succ (by omega), seg_zero]; rfl
theorem flB_list (y : Bool) : (flB y).data.toList = [if y then 1 else 0] := by cases y <;> rfl

theorem c_iff {s : ByteArray} (h : cB8 s = false) : cT s = s ↔ cY s ≤ 1 ∧ cA8 s = s.size := by
  obtain ⟨h7, a8, l8, y8, g8⟩ := oct_good (show takeB s (cA7 s) (cB7 s) 1 = false from h)
  obtain ⟨h6, p7, q7, v7⟩ := num_good (show numB s (cA6 s) (cB6 s) = false from h7)
  obtain ⟨h5, p6, q6, v6⟩ := num_good (show numB s (cA5 s) (cB5 s) = false from h6)
  obtain ⟨h4, p5, q5, v5, _⟩ := short_good (show l5B s (cA4 s) (cB4 s) = false from h5)
  obtain ⟨h3, p4, q4, v4, _⟩ := short_good (show l5B s (cA3 s) (cB3 s) = false from h4)
  obtain ⟨h2, p3, q3, v3⟩ := num_good (show numB s (cA2 s) (cB2 s) = false from h3)
  obtain ⟨h1, p2, q2, v2⟩ := num_good (show numB s (cA1 s) (cB1 s) = false from h2)
  obtain ⟨_, a1, l1, y1, g1⟩ := oct_good (show takeB s 0 false 1 = false from h1)
  have e8 : cA8 s = cA7 s + 1 := a8
  have e1 : cA1 s = 0 + 1 := a1
  change varL (cTok s) = seg s (cA1 s) (cA2 s - cA1 s) at v2
  change varL (cSeq s) = seg s (cA2 s) (cA3 s - cA2 s) at v3
  change (shortB (cText s)).data.toList = seg s (cA3 s) (cA4 s - cA3 s) at v4
  change (shortB (cTask s)).data.toList = seg s (cA4 s) (cA5 s - cA4 s) at v5
  change varL (cNum s) = seg s (cA5 s) (cA6 s - cA5 s) at v6
  change varL (cTo s) = seg s (cA6 s) (cA7 s - cA6 s) at v7
  change cA1 s < cA2 s at p2
  change cA2 s < cA3 s at p3
  change cA3 s < cA4 s at p4
  change cA4 s < cA5 s at p5
  change cA5 s < cA6 s at p6
  change cA6 s < cA7 s at p7
  change cY s = (bu s (cA7 s)).toNat at y8
  change cO s = (bu s 0).toNat at y1
  have L : (cT s).data.toList = (seg s 0 1 ++ (seg s (cA1 s) (cA2 s - cA1 s) ++ (seg s (cA2 s) (cA3 s - cA2 s) ++ (seg s (cA3 s) (cA4 s - cA3 s) ++ (seg s (cA4 s) (cA5 s - cA4 s) ++ (seg s (cA5 s) (cA6 s - cA5 s) ++ seg s (cA6 s) (cA7 s - cA6 s))))))) ++ [if cYes s then 1 else 0] := by
    unfold cT ctB
    rw [app_list, app_list, app_list, app_list, app_list, app_list, app_list, varB_list, varB_list, varB_list, varB_list, v2, v3, v4, v5, v6, v7, flB_list]
    have : (oneB (cO s)).data.toList = seg s 0 1 := by rw [g1, y1]; simp [oneB]
    rw [this]
    simp only [List.append_assoc]
  have R : s.data.toList = (seg s 0 1 ++ (seg s (cA1 s) (cA2 s - cA1 s) ++ (seg s (cA2 s) (cA3 s - cA2 s) ++ (seg s (cA3 s) (cA4 s - cA3 s) ++ (seg s (cA4 s) (cA5 s - cA4 s) ++ (seg s (cA5 s) (cA6 s - cA5 s) ++ seg s (cA6 s) (cA7 s - cA6 s))))))) ++ (bu s (cA7 s) :: seg s (cA8 s) (s.size - cA8 s)) := by
    have hsplit : s.size = 1 + ((cA2 s - cA1 s) + ((cA3 s - cA2 s) + ((cA4 s - cA3 s) + ((cA5 s - cA4 s) + ((cA6 s - cA5 s) + ((cA7 s - cA6 s) + (1 + (s.size - cA8 s)))))))) := by omega
    rw [← seg_all s]
    conv => lhs; rw [hsplit]
    rw [seg_append, show 0 + 1 = cA1 s by omega, seg_append, show cA1 s + (cA2 s - cA1 s) = cA2 s by omega, seg_append, show cA2 s + (cA3 s - cA2 s) = cA3 s by omega, seg_append,
      show cA3 s + (cA4 s - cA3 s) = cA4 s by omega, seg_append, show cA4 s + (cA5 s - cA4 s) = cA5 s by omega, seg_append, show cA5 s + (cA6 s - cA5 s) = cA6 s by omega, seg_append,
      show cA6 s + (cA7 s - cA6 s) = cA7 s by omega, seg_append, show cA7 s + 1 = cA8 s by omega, g8]
    simp only [List.append_assoc, List.singleton_append]
  have hb := u8_lt (bu s (cA7 s))
  constructor
  · intro hh
    have : (cT s).data.toList = s.data.toList := by rw [hh]
    rw [L] at this
    conv at this => rhs; rw [R]
    have := List.append_cancel_left this
    simp only [List.cons.injEq] at this
    refine ⟨?_, ?_⟩
    · rw [y8, ← this.1]
      cases cYes s <;> decide
    · have h0 := congrArg List.length this.2
      rw [seg_len (show cA8 s + (s.size - cA8 s) ≤ s.size by omega)] at h0
      simp only [List.length_nil] at h0
      omega
  · rintro ⟨hy, ha⟩
    refine bytes_ext ?_
    rw [L]
    conv => rhs; rw [R]
    congr 1
    rw [ha, Nat.sub_self, seg_zero]
    congr 1
    have hbe : (bu s (cA7 s)).toNat = cY s := y8.symm
    rcases Nat.lt_or_ge (cY s) 1 with hlt | hge
    · have h0 : cY s = 0 := by omega
      have hf : cYes s = false := decide_eq_false (by omega)
      rw [hf]
      apply UInt8.toNat_inj.1
      rw [hbe, h0]; rfl
    · have h0 : cY s = 1 := by omega
      have hf : cYes s = true := decide_eq_true (by omega)
      rw [hf]
      apply UInt8.toNat_inj.1
      rw [hbe, h0]; rfl

def cOk (s : ByteArray) : Bool := (!cB8 s && cokB (cX s)) && decide (cT s = s)
def cR (s : ByteArray) : List X := if cOk s then [.agg (cX s).enc, bo true] else [.agg (mkC 0 0 0 ⟨#[]⟩ ⟨#[]⟩ 0 0 false).enc, bo false]
theorem cR_true {s : ByteArray} (h : cOk s = true) : cR s = [.agg (cX s).enc, bo true] := by simp only [cR, h, if_true]
theorem cR_false {s : ByteArray} (h : cOk s = false) : cR s = [.agg (mkC 0 0 0 ⟨#[]⟩ ⟨#[]⟩ 0 0 false).enc, bo false] := by simp only [cR, h, Bool.false_eq_true, if_false]

end Go.Proofs.YtennhlaibefacaaDoor

