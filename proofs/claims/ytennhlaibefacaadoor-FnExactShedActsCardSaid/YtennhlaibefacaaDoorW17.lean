/- ReadCommand, the program's way; its law. -/
import Derived.Test.YtennhlaibefacaaDoorW16
namespace Go.Proofs.YtennhlaibefacaaDoor
open Go.RowKit Go.Rx
set_option linter.unusedSimpArgs false
set_option maxRecDepth 100000

def dText (s : ByteArray) : ByteArray := shT s (cA3 s) (cB3 s)
def dA4 (s : ByteArray) : Nat := shA s (cA3 s) (cB3 s)
def dB4 (s : ByteArray) : Bool := shBB s (cA3 s) (cB3 s)
def dTask (s : ByteArray) : ByteArray := shT s (dA4 s) (dB4 s)
def dA5 (s : ByteArray) : Nat := shA s (dA4 s) (dB4 s)
def dB5 (s : ByteArray) : Bool := shBB s (dA4 s) (dB4 s)
def dNum (s : ByteArray) : Nat := numN s (dA5 s) (dB5 s)
def dA6 (s : ByteArray) : Nat := numA s (dA5 s) (dB5 s)
def dB6 (s : ByteArray) : Bool := numB s (dA5 s) (dB5 s)
def dTo (s : ByteArray) : Nat := numN s (dA6 s) (dB6 s)
def dA7 (s : ByteArray) : Nat := numA s (dA6 s) (dB6 s)
def dB7 (s : ByteArray) : Bool := numB s (dA6 s) (dB6 s)
def dYes (s : ByteArray) : Bool := decide ((octN s (dA7 s) (dB7 s) : Int) = 1)
def dA8 (s : ByteArray) : Nat := takeA s (dA7 s) (dB7 s) 1
def dB8 (s : ByteArray) : Bool := flagB s (dA7 s) (dB7 s)
def dX (s : ByteArray) : Cmd := mkC (cO s) (cTok s) (cSeq s) (dText s) (dTask s) (dNum s) (dTo s) (dYes s)
def dOk (s : ByteArray) : Bool := (!dB8 s && decide ((dA8 s : Int) = (s.size : Int))) && cokB (dX s)
def dR (s : ByteArray) : List X := if dOk s then [.agg (dX s).enc, bo true] else [.agg (mkC 0 0 0 ⟨#[]⟩ ⟨#[]⟩ 0 0 false).enc, bo false]
theorem dR_true {s : ByteArray} (h : dOk s = true) : dR s = [.agg (dX s).enc, bo true] := by simp only [dR, h, if_true]
theorem dR_false {s : ByteArray} (h : dOk s = false) : dR s = [.agg (mkC 0 0 0 ⟨#[]⟩ ⟨#[]⟩ 0 0 false).enc, bo false] := by simp only [dR, h, Bool.false_eq_true, if_false]
theorem shA_le {s : ByteArray} {a : Nat} {b : Bool} (ha : a ≤ s.size) : shA s a b ≤ s.size := takeA_le (numA_le ha)
theorem dA4_le (s : ByteArray) : dA4 s ≤ s.size := shA_le (cA3_le s)
theorem dA5_le (s : ByteArray) : dA5 s ≤ s.size := shA_le (dA4_le s)
theorem dA6_le (s : ByteArray) : dA6 s ≤ s.size := numA_le (dA5_le s)
theorem dA7_le (s : ByteArray) : dA7 s ≤ s.size := numA_le (dA6_le s)

/-! ### the two ways are one -/
theorem take_bad (s : ByteArray) (a n : Nat) : takeB s a true n = true := rfl
theorem num_bad (s : ByteArray) (a : Nat) : numB s a true = true := rfl
theorem sh_bad {s : ByteArray} {a : Nat} {b : Bool} (h : shB s a b = true) : shBB s a b = true := by unfold shBB; rw [h]; rfl
theorem shB_true (s : ByteArray) (a : Nat) : shB s a true = true := by unfold shB; split <;> rfl
theorem flag_bad (s : ByteArray) (a : Nat) : flagB s a true = true := by unfold flagB; split <;> rfl
theorem sh_small {s : ByteArray} {a : Nat} {b : Bool} (h : numN s a b ≤ 20000) : shT s a b = l5T s a b ∧ shA s a b = l5A s a b ∧ shBB s a b = l5B s a b := by
  have e : shB s a b = numB s a b := if_neg (by omega)
  unfold shT shA shBB l5T l5A l5B
  rw [e]; exact ⟨rfl, rfl, rfl⟩
theorem dR_eq (s : ByteArray) : dR s = cR s := by
  have bad : dB8 s = true → (cB8 s = false → cokB (cX s) = false) → dR s = cR s := fun h h2 => by
    rw [dR_false (by rw [dOk, h]; rfl)]
    cases hc : cB8 s with
    | true => rw [cR_false (by rw [cOk, hc]; rfl)]
    | false => rw [cR_false (by rw [cOk, h2 hc, Bool.and_false, Bool.false_and])]
  have down : dB5 s = true → dB8 s = true := fun h => by
    have h6 : dB6 s = true := by rw [dB6, h]; rfl
    have h7 : dB7 s = true := by rw [dB7, h6]; rfl
    rw [dB8, h7]; exact flag_bad _ _
  have up : cB8 s = false → cB5 s = false := fun h => by
    have h7 := (oct_good (show takeB s (cA7 s) (cB7 s) 1 = false from h)).1
    have h6 := (num_good (show numB s (cA6 s) (cB6 s) = false from h7)).1
    exact (num_good (show numB s (cA5 s) (cB5 s) = false from h6)).1
  by_cases n4 : numN s (cA3 s) (cB3 s) ≤ 20000
  · obtain ⟨t1, t2, t3⟩ := sh_small n4
    have e4 : dText s = cText s := t1
    have f4 : dA4 s = cA4 s := t2
    have g4 : dB4 s = cB4 s := t3
    by_cases n5 : numN s (cA4 s) (cB4 s) ≤ 20000
    · obtain ⟨u1, u2, u3⟩ := sh_small n5
      have e5 : dTask s = cTask s := by rw [dTask, f4, g4]; exact u1
      have f5 : dA5 s = cA5 s := by rw [dA5, f4, g4]; exact u2
      have g5 : dB5 s = cB5 s := by rw [dB5, f4, g4]; exact u3
      have e6 : dNum s = cNum s := by rw [dNum, f5, g5]; rfl
      have f6 : dA6 s = cA6 s := by rw [dA6, f5, g5]; rfl
      have g6 : dB6 s = cB6 s := by rw [dB6, f5, g5]; rfl
      have e7 : dTo s = cTo s := by rw [dTo, f6, g6]; rfl
      have f7 : dA7 s = cA7 s := by rw [dA7, f6, g6]; rfl
      have g7 : dB7 s = cB7 s := by rw [dB7, f6, g6]; rfl
      have e8 : dYes s = cYes s := by rw [dYes, f7, g7]; rfl
      have f8 : dA8 s = cA8 s := by rw [dA8, f7, g7]; rfl
      have g8 : dB8 s = if 1 < cY s then true else cB8 s := by rw [dB8, f7, g7]; rfl
      have eX : dX s = cX s := by unfold dX cX; rw [e4, e5, e6, e7, e8]
      have hok : dOk s = cOk s := by
        unfold dOk cOk
        rw [eX, f8, g8]
        cases hc : cB8 s with
        | true => simp
        | false =>
          have hi := c_iff hc
          by_cases h1 : 1 < cY s
          · have : decide (cT s = s) = false := decide_eq_false fun h => by have := (hi.1 h).1; omega
            rw [this, if_pos h1]; simp
          · rw [if_neg h1]
            by_cases h2 : cA8 s = s.size
            · have : decide (cT s = s) = true := decide_eq_true (hi.2 ⟨by omega, h2⟩)
              rw [this, h2]; simp
            · have h3 : decide (cT s = s) = false := decide_eq_false fun h => h2 (hi.1 h).2
              have h4 : decide ((cA8 s : Int) = (s.size : Int)) = false := decide_eq_false (by omega)
              rw [h3, h4]; simp
      unfold dR cR
      rw [hok, eX]
    · refine bad (down ?_) fun h => ?_
      · rw [dB5, f4, g4]; exact sh_bad (if_pos (by omega))
      · have h5 := up h
        have := (short_good (show l5B s (cA4 s) (cB4 s) = false from h5)).2.2.2.2
        cases hk : cokB (cX s) with
        | false => rfl
        | true =>
          have h9 := (cok_len hk).2
          change (cTask s).size ≤ 600 at h9
          change (cTask s).size = _ at this
          omega
  · have b4 : dB4 s = true := sh_bad (if_pos (by omega))
    refine bad (down ?_) fun h => ?_
    · rw [dB5, b4]; exact sh_bad (shB_true _ _)
    · have h5 := up h
      have h4 := (short_good (show l5B s (cA4 s) (cB4 s) = false from h5)).1
      have := (short_good (show l5B s (cA3 s) (cB3 s) = false from h4)).2.2.2.2
      cases hk : cokB (cX s) with
      | false => rfl
      | true =>
        have h9 := (cok_len hk).1
        change (cText s).size ≤ 600 at h9
        change (cText s).size = _ at this
        omega

theorem cR_form (s : ByteArray) : ∃ (x : Cmd) (b : Bool), cR s = [.agg x.enc, bo b] := by
  cases h : cOk s with
  | true => exact ⟨_, _, cR_true h⟩
  | false => exact ⟨_, _, cR_false h⟩
end Go.Proofs.YtennhlaibefacaaDoor

