/- Commands told and read: by their code. -/
import Derived.Test.YtennhlaibefacaaDoorW14
namespace Go.Proofs.YtennhlaibefacaaDoor
open Go.RowKit Go.Rx
set_option linter.unusedSimpArgs false
set_option maxRecDepth 100000

def oneB (n : Nat) : ByteArray := ⟨[UInt8.ofNat n].toArray⟩
def shortB (t : ByteArray) : ByteArray := varB t.size ++ t
def flB (y : Bool) : ByteArray := if y then ⟨#[1]⟩ else ⟨#[0]⟩
theorem rest_text {x : Cmd} {a n o y : Bool} (h : restB x false a n o y = true) : x.text.size ≤ 600 := by
  simp only [restB, Bool.and_eq_true, Bool.or_eq_true, Bool.false_eq_true, false_or, decide_eq_true_eq] at h
  rw [h.1.1.1.1]; decide
theorem rest_task {x : Cmd} {t n o y : Bool} (h : restB x t false n o y = true) : x.task.size ≤ 600 := by
  simp only [restB, Bool.and_eq_true, Bool.or_eq_true, Bool.false_eq_true, false_or, decide_eq_true_eq] at h
  rw [h.1.1.1.2]; decide
theorem name_len {s : ByteArray} (h : nameB s = true) : s.size ≤ 600 := by
  simp only [nameB, Bool.and_eq_true] at h
  have := inR_spec.1 h.2
  omega
theorem cok_len {x : Cmd} (h : cokB x = true) : x.text.size ≤ 600 ∧ x.task.size ≤ 600 := by
  unfold cokB at h
  rw [Bool.and_eq_true] at h
  have h := h.2
  split at h
  · rw [Bool.and_eq_true] at h; exact ⟨rest_text h.2, rest_task h.2⟩
  split at h
  · rw [Bool.and_eq_true] at h; exact ⟨by have := of_decide_eq_true h.1; omega, rest_task h.2⟩
  split at h
  · rw [Bool.and_eq_true] at h; exact ⟨name_len h.1, rest_task h.2⟩
  split at h
  · rw [Bool.and_eq_true] at h; exact ⟨rest_text h.2, rest_task h.2⟩
  split at h
  · exact ⟨rest_text h, rest_task h⟩
  split at h
  · rw [Bool.and_eq_true] at h; exact ⟨rest_text h.2, rest_task h.2⟩
  split at h
  · rw [Bool.and_eq_true] at h; exact ⟨rest_text h.2, rest_task h.2⟩
  split at h
  · simp only [Bool.and_eq_true] at h; exact ⟨name_len h.1.1.1, rest_task h.2⟩
  split at h
  · simp only [Bool.and_eq_true] at h; exact ⟨name_len h.1.1.1, name_len h.1.2⟩
  · cases h

def mkC (o tok seq : Nat) (text task : ByteArray) (num to_ : Nat) (yes : Bool) : Cmd := ⟨o, tok, seq, text, task, num, to_, yes⟩
def ctB (o tok seq : Nat) (text task : ByteArray) (num to_ : Nat) (yes : Bool) : ByteArray :=
  ((((((oneB o ++ varB tok) ++ varB seq) ++ shortB text) ++ shortB task) ++ varB num) ++ varB to_) ++ flB yes
end Go.Proofs.YtennhlaibefacaaDoor

