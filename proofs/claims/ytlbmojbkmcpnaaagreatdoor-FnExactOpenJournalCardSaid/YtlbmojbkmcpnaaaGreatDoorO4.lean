/- Journals' texts, by both ways. -/
import Derived.Test.YtlbmojbkmcpnaaaGreatDoorO3
namespace Go.Proofs.YtlbmojbkmcpnaaaGreatDoor
open Go.RowKit Go.Rx
set_option linter.unusedSimpArgs false
set_option maxRecDepth 100000

theorem rise_ok : ∀ (t : Int) (es : List Ent), riseB t es = true → ∀ e ∈ es, entOk e = true
  | _, [], _, e, he => by cases he
  | t, x :: es, h, e, he => by
    simp only [riseB, Bool.and_eq_true] at h
    rcases List.mem_cons.1 he with rfl | he
    · first | exact h.1.1 | exact h.1.2 | exact h.1
    · first | exact rise_ok _ es h.2 e he | exact rise_ok _ es h.2.2 e he
theorem LgF.ofB {l : Lg} (h : logB l = true) : LgF l := LgF.of h (rise_ok _ _ (by simp only [logB, Bool.and_eq_true] at h; exact h.2))

def jokB (j : Jn) : Bool := ((inR j.number 0 999 && inR j.term 0 100000) && inR j.vote 0 4) && logB j.log
theorem journalOkI_ok (j : Jn) (h : fineE j.log.es) : PureFn Tryz.prog 51 [.agg (jnC j (.sh 3 (vR (ents j.log.es))))] [bo (jokB j)] := by
  refine PureFn_of_Go Tryz.func51 rfl (by decide) mo (by decide +kernel) ?_
  obtain ⟨number, term, vote, start, sterm, es⟩ := j
  have k1 := inRange_ok number 0 999
  have k2 := isTerm_ok term
  have k3 := inRange_ok vote 0 4
  have k4 := logOkI_ok ⟨start, sterm, es⟩ h
  rw [show (decide ((0 : Int) ≤ number) && decide (number ≤ 999)) = inR number 0 999 from rfl] at k1
  rw [show (decide ((0 : Int) ≤ vote) && decide (vote ≤ 4)) = inR vote 0 4 from rfl] at k3
  simp only [lgC] at k4
  unfold jokB
  simp only
  simp only [Tryz.ntmps51, Tryz.results51, push_cast, seval, jnC]
  refine GoL_call rfl rfl k1 rfl rfl ?_
  cases c1 : inR number 0 999 with
  | false => simp only [push_cast, seval]
  | true =>
    simp only [push_cast, seval]
    refine GoL_call rfl rfl k2 rfl rfl ?_
    cases c2 : inR term 0 100000 with
    | false => simp only [push_cast, seval]
    | true =>
      simp only [push_cast, seval]
      refine GoL_call rfl rfl k3 rfl rfl ?_
      cases c3 : inR vote 0 4 with
      | false => simp only [push_cast, seval]
      | true =>
        simp only [push_cast, seval]
        refine GoL_call rfl rfl k4 rfl rfl ?_
        simp only [push_cast, seval]
theorem journalOkS_ok (j : Jn) (h : fineE j.log.es) : PureFn Tryz.prog 45 [.agg (jnC j (.sh 3 (vR (ents j.log.es))))] [bo (jokB j)] := by
  refine PureFn_of_Go Tryz.func45 rfl (by decide) mo (by decide +kernel) ?_
  obtain ⟨number, term, vote, start, sterm, es⟩ := j
  have k1 := l01In_ok number 0 999
  have k2 := l01In_ok term 0 100000
  have k3 := l01In_ok vote 0 4
  have k4 := logOkS_ok ⟨start, sterm, es⟩ h
  rw [show (decide ((0 : Int) ≤ number) && decide (number ≤ 999)) = inR number 0 999 from rfl] at k1
  rw [show (decide ((0 : Int) ≤ term) && decide (term ≤ 100000)) = inR term 0 100000 from rfl] at k2
  rw [show (decide ((0 : Int) ≤ vote) && decide (vote ≤ 4)) = inR vote 0 4 from rfl] at k3
  simp only [lgC] at k4
  unfold jokB
  simp only
  simp only [Tryz.ntmps45, Tryz.results45, push_cast, seval, jnC]
  refine GoL_call rfl rfl k1 rfl rfl ?_
  cases c1 : inR number 0 999 with
  | false => simp only [push_cast, seval]
  | true =>
    simp only [push_cast, seval]
    refine GoL_call rfl rfl k2 rfl rfl ?_
    cases c2 : inR term 0 100000 with
    | false => simp only [push_cast, seval]
    | true =>
      simp only [push_cast, seval]
      refine GoL_call rfl rfl k3 rfl rfl ?_
      cases c3 : inR vote 0 4 with
      | false => simp only [push_cast, seval]
      | true =>
        simp only [push_cast, seval]
        refine GoL_call rfl rfl k4 rfl rfl ?_
        simp only [push_cast, seval]

/-! ### the head of a journal -/
def prB (c : UInt8) (a b : Nat) : ByteArray := (⟨#[c]⟩ ++ varB a) ++ varB b
def prF (c : UInt8) (a b : Nat) : ByteArray := frameB (prB c a b)
theorem prB_size (c : UInt8) {a b : Nat} (ha : a ≤ 1000000) (hb : b ≤ 1000000) : 1 ≤ (prB c a b).size ∧ (prB c a b).size ≤ 7 := by
  have v1 := varB_le 2 a (by omega)
  have v2 := varB_le 2 b (by omega)
  have e1 : (⟨#[c]⟩ : ByteArray).size = 1 := rfl
  unfold prB
  rw [ByteArray.size_append, ByteArray.size_append]
  omega
theorem prF_size (c : UInt8) {a b : Nat} (ha : a ≤ 1000000) (hb : b ≤ 1000000) : (prF c a b).size ≤ 20 := by
  obtain ⟨h1, h2⟩ := prB_size c ha hb
  have v := varB_le 0 (prB c a b).size (by omega)
  unfold prF frameB
  rw [ByteArray.size_append, ByteArray.size_append, four_size]
  omega
theorem prX (c : UInt8) {a b : Nat} (ha : a ≤ 1000000) (hb : b ≤ 1000000) : frameX (prB c a b) = [st (prF c a b), bo true] := by
  obtain ⟨h1, h2⟩ := prB_size c ha hb
  have : okLen (prB c a b) = true := by simp only [okLen, Bool.and_eq_true, decide_eq_true_eq]; omega
  simp only [frameX, this, if_true]; rfl
theorem headFrame_ok (a b : Nat) (ha : a ≤ 1000000) (hb : b ≤ 1000000) : PureFn Tryz.prog 55 [i64 a, i64 b] [st (prF 72 a b)] := by
  refine PureFn_of_Go Tryz.func55 rfl (by decide) mo (by decide +kernel) ?_
  have v1 := varB_le 2 a (by omega)
  have v2 := varB_le 2 b (by omega)
  have e1 : (⟨#[72]⟩ : ByteArray).size = 1 := rfl
  have r1 : (⟨#[72]⟩ : ByteArray).size + (varB a).size ≤ 9223372036854775807 := by omega
  have r2 : (⟨#[72]⟩ ++ varB a).size + (varB b).size ≤ 9223372036854775807 := by rw [ByteArray.size_append]; omega
  obtain ⟨_, hs⟩ := prB_size 72 ha hb
  simp only [Tryz.ntmps55, Tryz.results55, push_cast, seval]
  refine GoL_call rfl rfl (varText_ok a (by omega)) rfl rfl ?_
  simp only [push_cast, seval, r1]
  refine GoL_call rfl rfl (varText_ok b (by omega)) rfl rfl ?_
  simp only [push_cast, seval, r1, r2]
  refine GoL_call rfl rfl (frame_ok (prB 72 a b) (by omega)) rfl rfl ?_
  simp only [Tryz.ntmps55, Tryz.results55, push_cast, seval, prF]
theorem l07Hard_ok (a b : Nat) (ha : a ≤ 1000000) (hb : b ≤ 1000000) : PureFn Tryz.prog 48 [i64 a, i64 b] [st (prF 72 a b)] := by
  refine PureFn_of_Go Tryz.func48 rfl (by decide) mo (by decide +kernel) ?_
  have v1 := varB_le 2 a (by omega)
  have v2 := varB_le 2 b (by omega)
  have e1 : (⟨#[72]⟩ : ByteArray).size = 1 := rfl
  have r1 : (⟨#[72]⟩ : ByteArray).size + (varB a).size ≤ 9223372036854775807 := by omega
  have r2 : (⟨#[72]⟩ ++ varB a).size + (varB b).size ≤ 9223372036854775807 := by rw [ByteArray.size_append]; omega
  obtain ⟨_, hs⟩ := prB_size 72 ha hb
  have k := frameS_ok (prB 72 a b) (by omega)
  rw [prX 72 ha hb] at k
  simp only [Tryz.ntmps48, Tryz.results48, push_cast, seval]
  refine GoL_call rfl rfl (l01Var_ok a (by omega)) rfl rfl ?_
  simp only [push_cast, seval, r1]
  refine GoL_call rfl rfl (l01Var_ok b (by omega)) rfl rfl ?_
  simp only [push_cast, seval, r1, r2]
  refine GoL_call rfl rfl k rfl rfl ?_
  simp only [Tryz.ntmps48, Tryz.results48, push_cast, seval]
end Go.Proofs.YtlbmojbkmcpnaaaGreatDoor

