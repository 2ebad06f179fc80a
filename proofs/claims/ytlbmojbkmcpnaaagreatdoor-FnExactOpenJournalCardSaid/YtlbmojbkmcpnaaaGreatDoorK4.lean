/- Names with numbers; right disks. -/
import Derived.Test.YtlbmojbkmcpnaaaGreatDoorK3
namespace Go.Proofs.YtlbmojbkmcpnaaaGreatDoor
open Go.RowKit Go.Rx
set_option linter.unusedSimpArgs false
set_option maxRecDepth 100000

/-! ### a mark cut off -/
/-! ### names: a letter and a number -/
def ltr1 (b : UInt8) : ByteArray := ⟨#[b]⟩
def nmR (c : UInt8) (s : ByteArray) : ByteArray := if preB s (ltr1 c) then s.extract 1 s.size else s
def nmB (c : UInt8) (M : Int) (s : ByteArray) : Bool := (preB s (ltr1 c) && rdB (nmR c s)) && inR (rdN (nmR c s)) 0 M
def nmN (c : UInt8) (s : ByteArray) : Nat := rdN (nmR c s)
def nmT (c : UInt8) (n : Nat) : ByteArray := ltr1 c ++ decB n
theorem pre_iff {c : UInt8} {s : ByteArray} : preB s (ltr1 c) = true ↔ 1 ≤ s.size ∧ s.extract 0 1 = ltr1 c := by
  have h1 : (ltr1 c).size = 1 := rfl
  simp only [preB, h1, Bool.and_eq_true, decide_eq_true_eq]
  constructor
  · rintro ⟨a, b⟩; exact ⟨by omega, b⟩
  · rintro ⟨a, b⟩; exact ⟨by omega, b⟩
theorem cut_app (s : ByteArray) (h : 1 ≤ s.size) : s.extract 0 1 ++ s.extract 1 s.size = s := by
  refine bytes_ext ?_
  rw [app_list, extract_list, extract_list, ← seg_append, show 1 - 0 + (s.size - 1) = s.size by omega, seg_all]
theorem app_cut (c : UInt8) (t : ByteArray) : preB (ltr1 c ++ t) (ltr1 c) = true ∧ (ltr1 c ++ t).extract 1 (ltr1 c ++ t).size = t := by
  have hs : (ltr1 c ++ t).size = 1 + t.size := by rw [ByteArray.size_append]; rfl
  have h0 : (ltr1 c ++ t).extract 0 1 = ltr1 c := by
    refine bytes_ext ?_
    rw [extract_list, seg, app_list]
    rfl
  refine ⟨pre_iff.2 ⟨by omega, h0⟩, ?_⟩
  refine bytes_ext ?_
  rw [extract_list, seg, app_list, hs]
  show ((c :: t.data.toList).drop 1).take _ = _
  rw [List.drop_succ_cons, List.drop_zero]
  exact List.take_of_length_le (by rw [Array.length_toList]; show t.size ≤ _; omega)
theorem nm_spec {c : UInt8} {M : Int} {s : ByteArray} (h : nmB c M s = true) : s = nmT c (nmN c s) ∧ (nmN c s : Int) ≤ M ∧ nmN c s ≤ 1000000000 := by
  simp only [nmB, Bool.and_eq_true] at h
  obtain ⟨⟨h1, h2⟩, h3⟩ := h
  obtain ⟨h4, h5⟩ := rdB_spec h2
  refine ⟨?_, (inR_spec.1 h3).2, h4⟩
  have h6 := pre_iff.1 h1
  have hr : nmR c s = s.extract 1 s.size := by unfold nmR; rw [if_pos h1]
  unfold nmT nmN
  rw [h5, hr, ← h6.2, cut_app s h6.1]
theorem nm_of {c : UInt8} {M : Int} {n : Nat} (h1 : (n : Int) ≤ M) (h2 : n ≤ 1000000000) : nmB c M (nmT c n) = true ∧ nmN c (nmT c n) = n := by
  obtain ⟨k1, k2⟩ := app_cut c (decB n)
  have hr : nmR c (nmT c n) = decB n := by unfold nmR nmT; rw [if_pos k1, k2]
  refine ⟨?_, by unfold nmN; rw [hr, rdN_dec]⟩
  simp only [nmB, Bool.and_eq_true]
  refine ⟨⟨k1, by rw [hr]; exact rdB_dec h2⟩, ?_⟩
  rw [hr, rdN_dec]
  exact inR_spec.2 ⟨by omega, h1⟩
theorem nmR_size (c : UInt8) (s : ByteArray) : (nmR c s).size ≤ s.size := by
  unfold nmR; split
  · exact extract_size _ _ _
  · exact Nat.le_refl _
theorem rdX_eq (s : ByteArray) : rdX s = [i64 (if rdB s then (rdN s : Int) else 0), bo (rdB s)] := by
  unfold rdX; split <;> simp_all

end Go.Proofs.YtlbmojbkmcpnaaaGreatDoor

