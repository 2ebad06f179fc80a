/- Journals' names, by both ways. -/
import Derived.Test.YtlbmojbkmcpnaaaGreatDoorO5
namespace Go.Proofs.YtlbmojbkmcpnaaaGreatDoor
open Go.RowKit Go.Rx
set_option linter.unusedSimpArgs false
set_option maxRecDepth 100000

def jnm (n : Int) : ByteArray := if inR n 0 999 then nmT 106 n.toNat else ⟨#[]⟩
theorem journalNameI_ok (n : Int) : PureFn Tryz.prog 33 [i64 n] [st (jnm n)] := by
  refine PureFn_of_Go Tryz.func33 rfl (by decide) mo (by decide +kernel) ?_
  have k1 := inRange_ok n 0 999
  rw [show (decide ((0 : Int) ≤ n) && decide (n ≤ 999)) = inR n 0 999 from rfl] at k1
  simp only [Tryz.ntmps33, Tryz.results33, push_cast, seval]
  refine GoL_call rfl rfl k1 rfl rfl ?_
  cases c : inR n 0 999 with
  | false =>
    rw [show jnm n = ⟨#[]⟩ from by simp only [jnm, c, Bool.false_eq_true, if_false]]
    simp only [Tryz.ntmps33, Tryz.results33, push_cast, seval]
  | true =>
    rw [show jnm n = nmT 106 n.toNat from by simp only [jnm, c, if_true]]
    obtain ⟨h1, h2⟩ := inR_spec.1 c
    obtain ⟨m, rfl⟩ := Int.eq_ofNat_of_zero_le h1
    have hs := decB_size m (by omega)
    have hr : (ltr1 106).size + (decB m).size ≤ 9223372036854775807 := by have : (ltr1 106).size = 1 := rfl; omega
    unfold nmT
    rw [Int.toNat_natCast]
    have hc : (⟨#[106]⟩ : ByteArray) = ltr1 106 := rfl
    simp only [Tryz.ntmps33, Tryz.results33, push_cast, seval]
    refine GoL_call rfl rfl (decimalI_ok m (by omega)) rfl rfl ?_
    simp only [Tryz.ntmps33, Tryz.results33, push_cast, seval, hc, hr]
theorem journalNameS_ok (n : Int) : PureFn Tryz.prog 25 [i64 n] [st (jnm n)] := by
  refine PureFn_of_Go Tryz.func25 rfl (by decide) mo (by decide +kernel) ?_
  have k1 := l01In_ok n 0 999
  rw [show (decide ((0 : Int) ≤ n) && decide (n ≤ 999)) = inR n 0 999 from rfl] at k1
  simp only [Tryz.ntmps25, Tryz.results25, push_cast, seval]
  refine GoL_call rfl rfl k1 rfl rfl ?_
  cases c : inR n 0 999 with
  | false =>
    rw [show jnm n = ⟨#[]⟩ from by simp only [jnm, c, Bool.false_eq_true, if_false]]
    simp only [Tryz.ntmps25, Tryz.results25, push_cast, seval]
  | true =>
    rw [show jnm n = nmT 106 n.toNat from by simp only [jnm, c, if_true]]
    obtain ⟨h1, h2⟩ := inR_spec.1 c
    obtain ⟨m, rfl⟩ := Int.eq_ofNat_of_zero_le h1
    have hs := decB_size m (by omega)
    have hr : (ltr1 106).size + (decB m).size ≤ 9223372036854775807 := by have : (ltr1 106).size = 1 := rfl; omega
    unfold nmT
    rw [Int.toNat_natCast]
    have hc : (⟨#[106]⟩ : ByteArray) = ltr1 106 := rfl
    simp only [Tryz.ntmps25, Tryz.results25, push_cast, seval]
    refine GoL_call rfl rfl (decimalS_ok m (by omega)) rfl rfl ?_
    simp only [Tryz.ntmps25, Tryz.results25, push_cast, seval, hc, hr]
theorem journalNameS_nat (n : Nat) : PureFn Tryz.prog 25 [i64 n] [st (if n ≤ 999 then nmT 106 n else ⟨#[]⟩)] := by
  have k := journalNameS_ok n
  have : jnm n = if n ≤ 999 then nmT 106 n else ⟨#[]⟩ := by
    unfold jnm
    by_cases h : n ≤ 999
    · rw [if_pos h, if_pos (inR_spec.2 ⟨by omega, by omega⟩), Int.toNat_natCast]
    · rw [if_neg h, if_neg (fun e => h (by have := (inR_spec.1 e).2; omega))]
  rw [this] at k; exact k
theorem journalNumber_ok (s : ByteArray) (hs : s.size ≤ 140737488355328) : ∃ x : Int, (nmB 106 999 s = true → x = (nmN 106 s : Int)) ∧ PureFn Tryz.prog 32 [st s] [i64 x, bo (nmB 106 999 s)] := by
  refine ⟨if rdB (nmR 106 s) then (rdN (nmR 106 s) : Int) else 0, fun h => ?_, ?_⟩
  · simp only [nmB, Bool.and_eq_true] at h
    rw [if_pos h.1.2]; rfl
  refine PureFn_of_Go Tryz.func32 rfl (by decide) mo (by decide +kernel) ?_
  have k1 := cutPrefix_ok s (ltr1 106)
  rw [show (if preB s (ltr1 106) then s.extract (ltr1 106).size s.size else s) = nmR 106 s from rfl] at k1
  have k2 := readDecI_ok (nmR 106 s) (Nat.le_trans (nmR_size _ _) hs)
  rw [rdX_eq] at k2
  have hc : (⟨#[106]⟩ : ByteArray) = ltr1 106 := rfl
  have hb : nmB 106 999 s = (preB s (ltr1 106) && (rdB (nmR 106 s) && decide ((rdN (nmR 106 s) : Int) ≤ 999))) := by
    unfold nmB
    rw [Bool.and_assoc]
    congr 2
  rw [hb]
  simp only [Tryz.ntmps32, Tryz.results32, push_cast, seval, hc]
  refine GoL_call rfl rfl k1 rfl rfl ?_
  simp only [Tryz.ntmps32, Tryz.results32, push_cast, seval]
  refine GoL_call rfl rfl k2 rfl rfl ?_
  cases c1 : preB s (ltr1 106) with
  | false => simp only [Tryz.ntmps32, Tryz.results32, push_cast, seval, Bool.false_eq_true]
  | true =>
    cases c2 : rdB (nmR 106 s) with
    | false => simp only [Tryz.ntmps32, Tryz.results32, push_cast, seval, Bool.false_eq_true]
    | true => simp only [Tryz.ntmps32, Tryz.results32, push_cast, seval]
theorem l07Number_ok (s : ByteArray) (hs : s.size ≤ 140737488355328) : PureFn Tryz.prog 23 [st s] [i64 (if nmB 106 999 s then (nmN 106 s : Int) else -1)] := by
  refine PureFn_of_Go Tryz.func23 rfl (by decide) mo (by decide +kernel) ?_
  by_cases h2 : (s.size : Int) < 2
  · have : nmB 106 999 s = false := by
      cases e : nmB 106 999 s with
      | false => rfl
      | true =>
        simp only [nmB, Bool.and_eq_true] at e
        have h6 := pre_iff.1 e.1.1
        have hr : nmR 106 s = s.extract 1 s.size := by unfold nmR; rw [if_pos e.1.1]
        rw [hr, rd_empty (by rw [ByteArray.size_extract]; omega)] at e
        cases e.1.2
    rw [this]
    simp only [Tryz.ntmps23, Tryz.results23, push_cast, seval, h2, Bool.false_eq_true]
  have h1 : 1 ≤ s.size := by omega
  have k1 := readDecS_ok (s.extract 1 s.size) (Nat.le_trans (extract_size _ _ _) hs)
  simp only [Tryz.ntmps23, Tryz.results23, push_cast, seval, h2, h1, Nat.le_refl]
  have hpre : preB s (ltr1 106) = true → nmR 106 s = s.extract 1 s.size := fun h => by unfold nmR; rw [if_pos h]
  cases c1 : rdB (s.extract 1 s.size) with
  | false =>
    have : nmB 106 999 s = false := by
      cases e : preB s (ltr1 106) with
      | false => simp [nmB, e]
      | true => simp [nmB, hpre e, c1]
    rw [rdX_false c1] at k1
    refine GoL_call rfl rfl k1 rfl rfl ?_
    rw [this]
    simp only [Tryz.ntmps23, Tryz.results23, push_cast, seval, Bool.false_eq_true]
  | true =>
    rw [rdX_true c1] at k1
    obtain ⟨hd1, hd2⟩ := rdB_spec c1
    have k2 := journalNameS_nat (rdN (s.extract 1 s.size))
    refine GoL_call rfl rfl k1 rfl rfl ?_
    simp only [Tryz.ntmps23, Tryz.results23, push_cast, seval]
    refine GoL_call rfl rfl k2 rfl rfl ?_
    by_cases hn : rdN (s.extract 1 s.size) ≤ 999
    · rw [if_pos hn]
      by_cases he : nmT 106 (rdN (s.extract 1 s.size)) = s
      · have hp : preB s (ltr1 106) = true := by rw [← he]; exact (app_cut 106 _).1
        have hb : nmB 106 999 s = true := by simp only [nmB, hp, hpre hp, c1, Bool.true_and]; exact inR_spec.2 ⟨by omega, by omega⟩
        have hnn : nmN 106 s = rdN (s.extract 1 s.size) := by unfold nmN; rw [hpre hp]
        rw [hb, if_pos rfl, hnn]
        simp only [Tryz.ntmps23, Tryz.results23, push_cast, seval, he]
      · have hb : nmB 106 999 s = false := by
          cases e : nmB 106 999 s with
          | false => rfl
          | true =>
            have h3 := (nm_spec e).1
            simp only [nmB, Bool.and_eq_true] at e
            unfold nmN at h3
            rw [hpre e.1.1] at h3
            exact absurd h3.symm he
        rw [hb, if_neg Bool.false_ne_true]
        simp only [Tryz.ntmps23, Tryz.results23, push_cast, seval, he]
    · have hb : nmB 106 999 s = false := by
        cases e : nmB 106 999 s with
        | false => rfl
        | true =>
          simp only [nmB, Bool.and_eq_true] at e
          have := (inR_spec.1 e.2).2
          rw [hpre e.1.1] at this
          omega
      have he : ¬ (⟨#[]⟩ : ByteArray) = s := fun e => by rw [← e] at h1; exact absurd h1 (by decide)
      rw [if_neg hn, hb, if_neg Bool.false_ne_true]
      simp only [Tryz.ntmps23, Tryz.results23, push_cast, seval, he]
end Go.Proofs.YtlbmojbkmcpnaaaGreatDoor

