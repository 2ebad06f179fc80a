/- Names with numbers; right disks. -/
import Derived.Test.YtennhlaibefacaaDoorK3
namespace Go.Proofs.YtennhlaibefacaaDoor
open Go.RowKit Go.Rx
set_option linter.unusedSimpArgs false
set_option maxRecDepth 100000

/-! ### a mark cut off -/
def preB (s c : ByteArray) : Bool := decide ((c.size : Int) ≤ (s.size : Int)) && decide (s.extract 0 c.size = c)
theorem hasPrefix_ok (s c : ByteArray) : PureFn Tryd.prog 86 [st s, st c] [bo (preB s c)] := by
  refine PureFn_of_Go Tryd.func86 rfl (by decide) mo (by decide +kernel) ?_
  unfold preB
  by_cases h : (c.size : Int) ≤ (s.size : Int)
  · have h2 : c.size ≤ s.size := by omega
    simp only [Tryd.ntmps86, Tryd.results86, push_cast, seval, h, h2, Nat.zero_le]
  · simp only [Tryd.ntmps86, Tryd.results86, push_cast, seval, h]
theorem cutPrefixL_ok (s c : ByteArray) : PureFn Tryd.prog 72 [st s, st c] [st (if preB s c then s.extract c.size s.size else s), bo (preB s c)] := by
  refine PureFn_of_Go Tryd.func72 rfl (by decide) mo (by decide +kernel) ?_
  simp only [Tryd.ntmps72, Tryd.results72, push_cast, seval]
  refine GoL_call rfl rfl (hasPrefix_ok s c) rfl rfl ?_
  cases h : preB s c with
  | true =>
    have h2 : c.size ≤ s.size := by simp [preB] at h; exact h.1
    simp only [Tryd.ntmps72, Tryd.results72, push_cast, seval, h2, Nat.le_refl]
  | false => simp only [Tryd.ntmps72, Tryd.results72, push_cast, seval, Bool.false_eq_true]
theorem cutPrefix_ok (s c : ByteArray) : PureFn Tryd.prog 49 [st s, st c] [st (if preB s c then s.extract c.size s.size else s), bo (preB s c)] := by
  refine PureFn_of_Go Tryd.func49 rfl (by decide) mo (by decide +kernel) ?_
  simp only [Tryd.ntmps49, Tryd.results49, push_cast, seval]
  refine GoL_call rfl rfl (cutPrefixL_ok s c) rfl rfl ?_
  simp only [Tryd.ntmps49, Tryd.results49, push_cast, seval]

/-! ### names: a letter and a number -/
def ltr1 (b : UInt8) : ByteArray := ⟨#[b]⟩
def nmR (c : UInt8) (s : ByteArray) : ByteArray := if preB s (ltr1 c) then s.extract 1 s.size else s
def nmB (c : UInt8) (M : Int) (s : ByteArray) : Bool := (preB s (ltr1 c) && rdB (nmR c s)) && inR (rdN (nmR c s)) 0 M
def nmN (c : UInt8) (s : ByteArray) : Nat := rdN (nmR c s)
def nmT (c : UInt8) (n : Nat) : ByteArray := ltr1 c ++ decB n
theorem pre_iff {c : UInt8} {s : ByteArray} : preB s (ltr1 c) = true ↔ 1 ≤ s.size ∧ s.extract 0 1 = ltr1 c := by
  have h1 : (ltr1 c).size = 1 := rfl
  simp only [preB, h1, Bool.and_eq_true, decide_eq_true_eq]
  constructor
  · rintro ⟨a, b⟩; exact ⟨by omega, b⟩
  · rintro ⟨a, b⟩; exact ⟨by omega, b⟩
theorem cut_app (s : ByteArray) (h : 1 ≤ s.size) : s.extract 0 1 ++ s.extract 1 s.size = s := by
  refine bytes_ext ?_
  rw [app_list, extract_list, extract_list, ← seg_append, show 1 - 0 + (s.size - 1) = s.size by omega, seg_all]
theorem app_cut (c : UInt8) (t : ByteArray) : preB (ltr1 c ++ t) (ltr1 c) = true ∧ (ltr1 c ++ t).extract 1 (ltr1 c ++ t).size = t := by
  have hs : (ltr1 c ++ t).size = 1 + t.size := by rw [ByteArray.size_append]; rfl
  have h0 : (ltr1 c ++ t).extract 0 1 = ltr1 c := by
    refine bytes_ext ?_
    rw [extract_list, seg, app_list]
    rfl
  refine ⟨pre_iff.2 ⟨by omega, h0⟩, ?_⟩
  refine bytes_ext ?_
  rw [extract_list, seg, app_list, hs]
  show ((c :: t.data.toList).drop 1).take _ = _
  rw [List.drop_succ_cons, List.drop_zero]
  exact List.take_of_length_le (by rw [Array.length_toList]; show t.size ≤ _; omega)
theorem nm_spec {c : UInt8} {M : Int} {s : ByteArray} (h : nmB c M s = true) : s = nmT c (nmN c s) ∧ (nmN c s : Int) ≤ M ∧ nmN c s ≤ 1000000000 := by
  simp only [nmB, Bool.and_eq_true] at h
  obtain ⟨⟨h1, h2⟩, h3⟩ := h
  obtain ⟨h4, h5⟩ := rdB_spec h2
  refine ⟨?_, (inR_spec.1 h3).2, h4⟩
  have h6 := pre_iff.1 h1
  have hr : nmR c s = s.extract 1 s.size := by unfold nmR; rw [if_pos h1]
  unfold nmT nmN
  rw [h5, hr, ← h6.2, cut_app s h6.1]
theorem nm_of {c : UInt8} {M : Int} {n : Nat} (h1 : (n : Int) ≤ M) (h2 : n ≤ 1000000000) : nmB c M (nmT c n) = true ∧ nmN c (nmT c n) = n := by
  obtain ⟨k1, k2⟩ := app_cut c (decB n)
  have hr : nmR c (nmT c n) = decB n := by unfold nmR nmT; rw [if_pos k1, k2]
  refine ⟨?_, by unfold nmN; rw [hr, rdN_dec]⟩
  simp only [nmB, Bool.and_eq_true]
  refine ⟨⟨k1, by rw [hr]; exact rdB_dec h2⟩, ?_⟩
  rw [hr, rdN_dec]
  exact inR_spec.2 ⟨by omega, h1⟩
theorem nmR_size (c : UInt8) (s : ByteArray) : (nmR c s).size ≤ s.size := by
  unfold nmR; split
  · exact extract_size _ _ _
  · exact Nat.le_refl _
theorem rdX_eq (s : ByteArray) : rdX s = [i64 (if rdB s then (rdN s : Int) else 0), bo (rdB s)] := by
  unfold rdX; split <;> simp_all

theorem snapNameI_ok (n : Nat) (hn : n ≤ 1000000) : PureFn Tryd.prog 34 [i64 n] [st (nmT 115 n)] := by
  refine PureFn_of_Go Tryd.func34 rfl (by decide) mo (by decide +kernel) ?_
  have k1 := isIndex_ok n
  rw [inR_spec.2 ⟨by omega, by omega⟩] at k1
  have hs := decB_size n (by omega)
  have hr : (ltr1 115).size + (decB n).size ≤ 9223372036854775807 := by have : (ltr1 115).size = 1 := rfl; omega
  unfold nmT
  have hc : (⟨#[115]⟩ : ByteArray) = ltr1 115 := rfl
  simp only [Tryd.ntmps34, Tryd.results34, push_cast, seval]
  refine GoL_call rfl rfl k1 rfl rfl ?_
  simp only [Tryd.ntmps34, Tryd.results34, push_cast, seval]
  refine GoL_call rfl rfl (decimalI_ok n (by omega)) rfl rfl ?_
  simp only [Tryd.ntmps34, Tryd.results34, push_cast, seval, hc, hr]
theorem snapNameS_ok (n : Nat) : PureFn Tryd.prog 41 [i64 n] [st (if n ≤ 1000000 then nmT 115 n else ⟨#[]⟩)] := by
  refine PureFn_of_Go Tryd.func41 rfl (by decide) mo (by decide +kernel) ?_
  have k1 := l01In_ok n 0 1000000
  rw [show (decide ((0 : Int) ≤ (n : Int)) && decide ((n : Int) ≤ 1000000)) = inR n 0 1000000 from rfl] at k1
  simp only [Tryd.ntmps41, Tryd.results41, push_cast, seval]
  refine GoL_call rfl rfl k1 rfl rfl ?_
  by_cases h : n ≤ 1000000
  · rw [if_pos h, inR_spec.2 ⟨by omega, by omega⟩]
    have hs := decB_size n (by omega)
    have hr : (ltr1 115).size + (decB n).size ≤ 9223372036854775807 := by have : (ltr1 115).size = 1 := rfl; omega
    unfold nmT
    have hc : (⟨#[115]⟩ : ByteArray) = ltr1 115 := rfl
    simp only [Tryd.ntmps41, Tryd.results41, push_cast, seval]
    refine GoL_call rfl rfl (decimalS_ok n (by omega)) rfl rfl ?_
    simp only [Tryd.ntmps41, Tryd.results41, push_cast, seval, hc, hr]
  · have : inR (n : Int) 0 1000000 = false := by
      cases e : inR (n : Int) 0 1000000 with
      | false => rfl
      | true => have := inR_spec.1 e; omega
    rw [if_neg h, this]
    simp only [Tryd.ntmps41, Tryd.results41, push_cast, seval]
theorem snapIndexI_ok (s : ByteArray) (hs : s.size ≤ 140737488355328) : ∃ x : Int, (nmB 115 1000000 s = true → x = (nmN 115 s : Int)) ∧ PureFn Tryd.prog 25 [st s] [i64 x, bo (nmB 115 1000000 s)] := by
  refine ⟨if rdB (nmR 115 s) then (rdN (nmR 115 s) : Int) else 0, fun h => ?_, ?_⟩
  · simp only [nmB, Bool.and_eq_true] at h
    rw [if_pos h.1.2]; rfl
  refine PureFn_of_Go Tryd.func25 rfl (by decide) mo (by decide +kernel) ?_
  have k1 := cutPrefix_ok s (ltr1 115)
  rw [show (if preB s (ltr1 115) then s.extract (ltr1 115).size s.size else s) = nmR 115 s from rfl] at k1
  have k2 := readDecI_ok (nmR 115 s) (Nat.le_trans (nmR_size _ _) hs)
  rw [rdX_eq] at k2
  have hc : (⟨#[115]⟩ : ByteArray) = ltr1 115 := rfl
  unfold nmB
  simp only [Tryd.ntmps25, Tryd.results25, push_cast, seval, hc]
  refine GoL_call rfl rfl k1 rfl rfl ?_
  simp only [Tryd.ntmps25, Tryd.results25, push_cast, seval]
  refine GoL_call rfl rfl k2 rfl rfl ?_
  cases c1 : preB s (ltr1 115) with
  | false => simp only [Tryd.ntmps25, Tryd.results25, push_cast, seval, Bool.false_eq_true]
  | true =>
    cases c2 : rdB (nmR 115 s) with
    | false => simp only [Tryd.ntmps25, Tryd.results25, push_cast, seval, Bool.false_eq_true]
    | true =>
      have k3 := isIndex_ok (rdN (nmR 115 s))
      simp only [Tryd.ntmps25, Tryd.results25, push_cast, seval]
      refine GoL_call rfl rfl k3 rfl rfl ?_
      simp only [Tryd.ntmps25, Tryd.results25, push_cast, seval]
theorem l08Index_ok (s : ByteArray) (hs : s.size ≤ 140737488355328) : PureFn Tryd.prog 21 [st s] [i64 (if nmB 115 1000000 s then (nmN 115 s : Int) else -1)] := by
  refine PureFn_of_Go Tryd.func21 rfl (by decide) mo (by decide +kernel) ?_
  by_cases h2 : (s.size : Int) < 2
  · have : nmB 115 1000000 s = false := by
      cases e : nmB 115 1000000 s with
      | false => rfl
      | true =>
        simp only [nmB, Bool.and_eq_true] at e
        have h6 := pre_iff.1 e.1.1
        have hr : nmR 115 s = s.extract 1 s.size := by unfold nmR; rw [if_pos e.1.1]
        rw [hr, rd_empty (by rw [ByteArray.size_extract]; omega)] at e
        cases e.1.2
    rw [this]
    simp only [Tryd.ntmps21, Tryd.results21, push_cast, seval, h2, Bool.false_eq_true]
  have h1 : 1 ≤ s.size := by omega
  have k1 := readDecS_ok (s.extract 1 s.size) (Nat.le_trans (extract_size _ _ _) hs)
  simp only [Tryd.ntmps21, Tryd.results21, push_cast, seval, h2, h1, Nat.le_refl]
  have hpre : preB s (ltr1 115) = true → nmR 115 s = s.extract 1 s.size := fun h => by unfold nmR; rw [if_pos h]
  cases c1 : rdB (s.extract 1 s.size) with
  | false =>
    have : nmB 115 1000000 s = false := by
      cases e : preB s (ltr1 115) with
      | false => simp [nmB, e]
      | true => simp [nmB, hpre e, c1]
    rw [rdX_false c1] at k1
    refine GoL_call rfl rfl k1 rfl rfl ?_
    rw [this]
    simp only [Tryd.ntmps21, Tryd.results21, push_cast, seval, Bool.false_eq_true]
  | true =>
    rw [rdX_true c1] at k1
    obtain ⟨hd1, hd2⟩ := rdB_spec c1
    have k2 := snapNameS_ok (rdN (s.extract 1 s.size))
    refine GoL_call rfl rfl k1 rfl rfl ?_
    simp only [Tryd.ntmps21, Tryd.results21, push_cast, seval]
    refine GoL_call rfl rfl k2 rfl rfl ?_
    by_cases hn : rdN (s.extract 1 s.size) ≤ 1000000
    · rw [if_pos hn]
      by_cases he : nmT 115 (rdN (s.extract 1 s.size)) = s
      · have hp : preB s (ltr1 115) = true := by rw [← he]; exact (app_cut 115 _).1
        have hb : nmB 115 1000000 s = true := by simp only [nmB, hp, hpre hp, c1, Bool.true_and]; exact inR_spec.2 ⟨by omega, by omega⟩
        have hnn : nmN 115 s = rdN (s.extract 1 s.size) := by unfold nmN; rw [hpre hp]
        rw [hb, if_pos rfl, hnn]
        simp only [Tryd.ntmps21, Tryd.results21, push_cast, seval, he]
      · have hb : nmB 115 1000000 s = false := by
          cases e : nmB 115 1000000 s with
          | false => rfl
          | true =>
            have h3 := (nm_spec e).1
            simp only [nmB, Bool.and_eq_true] at e
            unfold nmN at h3
            rw [hpre e.1.1] at h3
            exact absurd h3.symm he
        rw [hb, if_neg Bool.false_ne_true]
        simp only [Tryd.ntmps21, Tryd.results21, push_cast, seval, he]
    · have hb : nmB 115 1000000 s = false := by
        cases e : nmB 115 1000000 s with
        | false => rfl
        | true =>
          simp only [nmB, Bool.and_eq_true] at e
          have := (inR_spec.1 e.2).2
          rw [hpre e.1.1] at this
          omega
      have he : ¬ (⟨#[]⟩ : ByteArray) = s := fun e => by rw [← e] at h1; exact absurd h1 (by decide)
      rw [if_neg hn, hb, if_neg Bool.false_ne_true]
      simp only [Tryd.ntmps21, Tryd.results21, push_cast, seval, he]
end Go.Proofs.YtennhlaibefacaaDoor

