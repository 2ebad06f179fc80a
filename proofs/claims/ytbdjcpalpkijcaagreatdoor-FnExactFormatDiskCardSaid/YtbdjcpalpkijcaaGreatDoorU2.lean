/- Texts O4 O5 O6 M1 D3 P1 P2 P3 P4 P5 P6, merged. -/
import Derived.Test.YtbdjcpalpkijcaaGreatDoorU1
/- Journals' texts, by both ways. -/
namespace Go.Proofs.YtbdjcpalpkijcaaGreatDoor
open Go.RowKit Go.Rx
set_option linter.unusedSimpArgs false
set_option maxRecDepth 100000

theorem rise_ok : ∀ (t : Int) (es : List Ent), riseB t es = true → ∀ e ∈ es, entOk e = true
  | _, [], _, e, he => by cases he
  | t, x :: es, h, e, he => by
    simp only [riseB, Bool.and_eq_true] at h
    rcases List.mem_cons.1 he with rfl | he
    · first | exact h.1.1 | exact h.1.2 | exact h.1
    · first | exact rise_ok _ es h.2 e he | exact rise_ok _ es h.2.2 e he
theorem LgF.ofB {l : Lg} (h : logB l = true) : LgF l := LgF.of h (rise_ok _ _ (by simp only [logB, Bool.and_eq_true] at h; exact h.2))

def jokB (j : Jn) : Bool := ((inR j.number 0 999 && inR j.term 0 100000) && inR j.vote 0 4) && logB j.log
theorem journalOkI_ok (j : Jn) (h : fineE j.log.es) : PureFn Tryz.prog 52 [.agg (jnC j (.sh 3 (vR (ents j.log.es))))] [bo (jokB j)] := by
  refine PureFn_of_Go Tryz.func52 rfl (by decide) mo (by decide +kernel) ?_
  obtain ⟨number, term, vote, start, sterm, es⟩ := j
  have k1 := inRange_ok number 0 999
  have k2 := isTerm_ok term
  have k3 := inRange_ok vote 0 4
  have k4 := logOkI_ok ⟨start, sterm, es⟩ h
  rw [show (decide ((0 : Int) ≤ number) && decide (number ≤ 999)) = inR number 0 999 from rfl] at k1
  rw [show (decide ((0 : Int) ≤ vote) && decide (vote ≤ 4)) = inR vote 0 4 from rfl] at k3
  simp only [lgC] at k4
  unfold jokB
  simp only
  simp only [Tryz.ntmps52, Tryz.results52, push_cast, seval, jnC]
  refine GoL_call rfl rfl k1 rfl rfl ?_
  cases c1 : inR number 0 999 with
  | false => simp only [push_cast, seval]
  | true =>
    simp only [push_cast, seval]
    refine GoL_call rfl rfl k2 rfl rfl ?_
    cases c2 : inR term 0 100000 with
    | false => simp only [push_cast, seval]
    | true =>
      simp only [push_cast, seval]
      refine GoL_call rfl rfl k3 rfl rfl ?_
      cases c3 : inR vote 0 4 with
      | false => simp only [push_cast, seval]
      | true =>
        simp only [push_cast, seval]
        refine GoL_call rfl rfl k4 rfl rfl ?_
        simp only [push_cast, seval]
theorem journalOkS_ok (j : Jn) (h : fineE j.log.es) : PureFn Tryz.prog 27 [.agg (jnC j (.sh 3 (vR (ents j.log.es))))] [bo (jokB j)] := by
  refine PureFn_of_Go Tryz.func27 rfl (by decide) mo (by decide +kernel) ?_
  obtain ⟨number, term, vote, start, sterm, es⟩ := j
  have k1 := l01In_ok number 0 999
  have k2 := l01In_ok term 0 100000
  have k3 := l01In_ok vote 0 4
  have k4 := logOkS_ok ⟨start, sterm, es⟩ h
  rw [show (decide ((0 : Int) ≤ number) && decide (number ≤ 999)) = inR number 0 999 from rfl] at k1
  rw [show (decide ((0 : Int) ≤ term) && decide (term ≤ 100000)) = inR term 0 100000 from rfl] at k2
  rw [show (decide ((0 : Int) ≤ vote) && decide (vote ≤ 4)) = inR vote 0 4 from rfl] at k3
  simp only [lgC] at k4
  unfold jokB
  simp only
  simp only [Tryz.ntmps27, Tryz.results27, push_cast, seval, jnC]
  refine GoL_call rfl rfl k1 rfl rfl ?_
  cases c1 : inR number 0 999 with
  | false => simp only [push_cast, seval]
  | true =>
    simp only [push_cast, seval]
    refine GoL_call rfl rfl k2 rfl rfl ?_
    cases c2 : inR term 0 100000 with
    | false => simp only [push_cast, seval]
    | true =>
      simp only [push_cast, seval]
      refine GoL_call rfl rfl k3 rfl rfl ?_
      cases c3 : inR vote 0 4 with
      | false => simp only [push_cast, seval]
      | true =>
        simp only [push_cast, seval]
        refine GoL_call rfl rfl k4 rfl rfl ?_
        simp only [push_cast, seval]

/-! ### the head of a journal -/
def prB (c : UInt8) (a b : Nat) : ByteArray := (⟨#[c]⟩ ++ varB a) ++ varB b
def prF (c : UInt8) (a b : Nat) : ByteArray := frameB (prB c a b)
theorem prB_size (c : UInt8) {a b : Nat} (ha : a ≤ 1000000) (hb : b ≤ 1000000) : 1 ≤ (prB c a b).size ∧ (prB c a b).size ≤ 7 := by
  have v1 := varBk_le 2 a (by omega)
  have v2 := varBk_le 2 b (by omega)
  have e1 : (⟨#[c]⟩ : ByteArray).size = 1 := rfl
  unfold prB
  rw [ByteArray.size_append, ByteArray.size_append]
  omega
theorem prF_size (c : UInt8) {a b : Nat} (ha : a ≤ 1000000) (hb : b ≤ 1000000) : (prF c a b).size ≤ 20 := by
  obtain ⟨h1, h2⟩ := prB_size c ha hb
  have v := varBk_le 0 (prB c a b).size (by omega)
  unfold prF frameB
  rw [ByteArray.size_append, ByteArray.size_append, four_size]
  omega
theorem prX (c : UInt8) {a b : Nat} (ha : a ≤ 1000000) (hb : b ≤ 1000000) : frameX (prB c a b) = [st (prF c a b), bo true] := by
  obtain ⟨h1, h2⟩ := prB_size c ha hb
  have : okLen (prB c a b) = true := by simp only [okLen, Bool.and_eq_true, decide_eq_true_eq]; omega
  simp only [frameX, this, if_true]; rfl
theorem headFrame_ok (a b : Nat) (ha : a ≤ 1000000) (hb : b ≤ 1000000) : PureFn Tryz.prog 54 [i64 a, i64 b] [st (prF 72 a b)] := by
  refine PureFn_of_Go Tryz.func54 rfl (by decide) mo (by decide +kernel) ?_
  have v1 := varBk_le 2 a (by omega)
  have v2 := varBk_le 2 b (by omega)
  have e1 : (⟨#[72]⟩ : ByteArray).size = 1 := rfl
  have r1 : (⟨#[72]⟩ : ByteArray).size + (varB a).size ≤ 9223372036854775807 := by omega
  have r2 : (⟨#[72]⟩ ++ varB a).size + (varB b).size ≤ 9223372036854775807 := by rw [ByteArray.size_append]; omega
  obtain ⟨_, hs⟩ := prB_size 72 ha hb
  simp only [Tryz.ntmps54, Tryz.results54, push_cast, seval]
  refine GoL_call rfl rfl (varText_ok a (by omega)) rfl rfl ?_
  simp only [push_cast, seval, r1]
  refine GoL_call rfl rfl (varText_ok b (by omega)) rfl rfl ?_
  simp only [push_cast, seval, r1, r2]
  refine GoL_call rfl rfl (frame_ok (prB 72 a b) (by omega)) rfl rfl ?_
  simp only [Tryz.ntmps54, Tryz.results54, push_cast, seval, prF]
theorem l07Hard_ok (a b : Nat) (ha : a ≤ 1000000) (hb : b ≤ 1000000) : PureFn Tryz.prog 30 [i64 a, i64 b] [st (prF 72 a b)] := by
  refine PureFn_of_Go Tryz.func30 rfl (by decide) mo (by decide +kernel) ?_
  have v1 := varBk_le 2 a (by omega)
  have v2 := varBk_le 2 b (by omega)
  have e1 : (⟨#[72]⟩ : ByteArray).size = 1 := rfl
  have r1 : (⟨#[72]⟩ : ByteArray).size + (varB a).size ≤ 9223372036854775807 := by omega
  have r2 : (⟨#[72]⟩ ++ varB a).size + (varB b).size ≤ 9223372036854775807 := by rw [ByteArray.size_append]; omega
  obtain ⟨_, hs⟩ := prB_size 72 ha hb
  have k := frameS_ok (prB 72 a b) (by omega)
  rw [prX 72 ha hb] at k
  simp only [Tryz.ntmps30, Tryz.results30, push_cast, seval]
  refine GoL_call rfl rfl (l01Var_ok a (by omega)) rfl rfl ?_
  simp only [push_cast, seval, r1]
  refine GoL_call rfl rfl (l01Var_ok b (by omega)) rfl rfl ?_
  simp only [push_cast, seval, r1, r2]
  refine GoL_call rfl rfl k rfl rfl ?_
  simp only [Tryz.ntmps30, Tryz.results30, push_cast, seval]
end Go.Proofs.YtbdjcpalpkijcaaGreatDoor

/- Journals' texts, by both ways. -/
namespace Go.Proofs.YtbdjcpalpkijcaaGreatDoor
open Go.RowKit Go.Rx
set_option linter.unusedSimpArgs false
set_option maxRecDepth 100000

def jtB (j : Jn) : ByteArray := (prF 66 j.log.start.toNat j.log.sterm.toNat ++ prF 72 j.term.toNat j.vote.toNat) ++ efT j.log 0 j.log.es.length
def jtOk (j : Jn) : Bool := jokB j && decide ((jtB j).size ≤ 20000)
def jtX (j : Jn) : List X := if jtOk j then [st (jtB j), bo true] else [st ⟨#[]⟩, bo false]
theorem jokB_spec {j : Jn} (h : jokB j = true) : 0 ≤ j.number ∧ j.number ≤ 999 ∧ 0 ≤ j.term ∧ j.term ≤ 100000 ∧ 0 ≤ j.vote ∧ j.vote ≤ 4 ∧ 0 ≤ j.log.sterm ∧ j.log.sterm ≤ 100000 ∧ 0 ≤ j.log.start ∧ j.log.start ≤ 1000000 ∧ logB j.log = true := by
  simp only [jokB, Bool.and_eq_true, inR_spec] at h
  obtain ⟨⟨⟨h1, h2⟩, h3⟩, h4⟩ := h
  have h5 := h4
  simp only [logB, Bool.and_eq_true, inR_spec] at h5
  exact ⟨by omega, by omega, by omega, by omega, by omega, by omega, by omega, by omega, by omega, by omega, h4⟩
theorem journalTextI_ok (j : Jn) (h : fineE j.log.es) : PureFn Tryz.prog 20 [.agg (jnC j (.sh 3 (vR (ents j.log.es))))] (jtX j) := by
  refine PureFn_of_Go Tryz.func20 rfl (by decide) mo (by decide +kernel) ?_
  have k0 := journalOkI_ok j h
  obtain ⟨number, term, vote, start, sterm, es⟩ := j
  simp only [jnC] at k0
  simp only [Tryz.ntmps20, Tryz.results20, push_cast, seval, jnC]
  refine GoL_call rfl rfl k0 rfl rfl ?_
  cases c : jokB ⟨number, term, vote, ⟨start, sterm, es⟩⟩ with
  | false =>
    rw [show jtX ⟨number, term, vote, ⟨start, sterm, es⟩⟩ = [st ⟨#[]⟩, bo false] from by simp only [jtX, jtOk, c, Bool.false_and, Bool.false_eq_true, if_false]]
    simp only [push_cast, seval]
  | true =>
    obtain ⟨a1, a2, a3, a4, a5, a6, a7, a8, a9, a10, a11⟩ := jokB_spec c
    simp only at a1 a2 a3 a4 a5 a6 a7 a8 a9 a10 a11
    have hl := LgF.ofB a11
    have ke := entryFrames_ok ⟨start, sterm, es⟩ hl h 0 (Nat.zero_le _)
    have hes := efT_size hl 0 es.length (by simp)
    have h60 : es.length ≤ 60 := hl.n
    obtain ⟨s0, rfl⟩ := Int.eq_ofNat_of_zero_le a9
    obtain ⟨s1, rfl⟩ := Int.eq_ofNat_of_zero_le a7
    obtain ⟨t0, rfl⟩ := Int.eq_ofNat_of_zero_le a3
    obtain ⟨t1, rfl⟩ := Int.eq_ofNat_of_zero_le a5
    simp only [lgC, Nat.sub_zero] at ke
    rw [show (((0 : Nat) : Int)) = 0 from rfl] at ke
    obtain ⟨z, hz⟩ : ∃ z, z = efT ⟨(s0 : Int), (s1 : Int), es⟩ 0 es.length := ⟨_, rfl⟩
    rw [← hz] at ke hes
    obtain ⟨_, p1⟩ := prB_size 66 (a := s0) (b := s1) (by omega) (by omega)
    have p2 := prF_size 66 (a := s0) (b := s1) (by omega) (by omega)
    have p3 := prF_size 72 (a := t0) (b := t1) (by omega) (by omega)
    have v1 := varBk_le 2 s0 (by omega)
    have v2 := varBk_le 2 s1 (by omega)
    have e1 : (⟨#[66]⟩ : ByteArray).size = 1 := rfl
    have r1 : (⟨#[66]⟩ : ByteArray).size + (varB s0).size ≤ 9223372036854775807 := by omega
    have r2 : (⟨#[66]⟩ ++ varB s0).size + (varB s1).size ≤ 9223372036854775807 := by rw [ByteArray.size_append]; omega
    have kf := frame_ok (prB 66 s0 s1) (by omega)
    rw [show frameB (prB 66 s0 s1) = prF 66 s0 s1 from rfl] at kf
    have kh := headFrame_ok t0 t1 (by omega) (by omega)
    have hj : jtB ⟨number, (t0 : Int), (t1 : Int), ⟨(s0 : Int), (s1 : Int), es⟩⟩ = (prF 66 s0 s1 ++ prF 72 t0 t1) ++ z := by simp [jtB, hz]
    have hx : jtX ⟨number, (t0 : Int), (t1 : Int), ⟨(s0 : Int), (s1 : Int), es⟩⟩ = if ((((prF 66 s0 s1 ++ prF 72 t0 t1) ++ z).size : Nat) : Int) ≤ 20000 then [st ((prF 66 s0 s1 ++ prF 72 t0 t1) ++ z), bo true] else [st ⟨#[]⟩, bo false] := by
      unfold jtX jtOk
      rw [c, hj, Bool.true_and]
      by_cases q : ((prF 66 s0 s1 ++ prF 72 t0 t1) ++ z).size ≤ 20000
      · rw [if_pos (by simpa using q), if_pos (by omega)]
      · rw [if_neg (by simpa using q), if_neg (by omega)]
    rw [hx]
    obtain ⟨x1, hx1⟩ : ∃ x1, x1 = prF 66 s0 s1 := ⟨_, rfl⟩
    obtain ⟨x2, hx2⟩ : ∃ x2, x2 = prF 72 t0 t1 := ⟨_, rfl⟩
    rw [← hx1] at kf p2 ⊢
    rw [← hx2] at kh p3 ⊢
    have r3 : x1.size + x2.size ≤ 9223372036854775807 := by omega
    have r4 : (x1 ++ x2).size + z.size ≤ 9223372036854775807 := by rw [ByteArray.size_append]; omega
    simp only [push_cast, seval]
    refine GoD_call rfl rfl (varText_ok s0 (by omega)) rfl rfl ?_
    simp only [push_cast, seval, r1]
    refine GoD_call rfl rfl (varText_ok s1 (by omega)) rfl rfl ?_
    simp only [push_cast, seval, r1, r2]
    refine GoD_call rfl rfl kf rfl rfl ?_
    simp only [push_cast, seval]
    refine GoD_call rfl rfl kh rfl rfl ?_
    simp only [push_cast, seval, r3]
    refine GoD_call rfl rfl ke rfl rfl ?_
    obtain ⟨y, hy⟩ : ∃ y, y = (x1 ++ x2) ++ z := ⟨_, rfl⟩
    rw [← hy]
    by_cases q : ((y.size : Nat) : Int) ≤ 20000
    · have q' : ¬ (20000 : Int) < (y.size : Int) := by omega
      simp only [push_cast, seval, r3, r4, ← hy, q, q']
    · have q' : (20000 : Int) < (y.size : Int) := by omega
      simp only [push_cast, seval, r3, r4, ← hy, q, q']
theorem journalTextS_ok (j : Jn) (h : fineE j.log.es) : PureFn Tryz.prog 12 [.agg (jnC j (.sh 3 (vR (ents j.log.es))))] (jtX j) := by
  refine PureFn_of_Go Tryz.func12 rfl (by decide) mo (by decide +kernel) ?_
  have k0 := journalOkS_ok j h
  obtain ⟨number, term, vote, start, sterm, es⟩ := j
  simp only [jnC] at k0
  simp only [Tryz.ntmps12, Tryz.results12, push_cast, seval, jnC]
  refine GoL_call rfl rfl k0 rfl rfl ?_
  cases c : jokB ⟨number, term, vote, ⟨start, sterm, es⟩⟩ with
  | false =>
    rw [show jtX ⟨number, term, vote, ⟨start, sterm, es⟩⟩ = [st ⟨#[]⟩, bo false] from by simp only [jtX, jtOk, c, Bool.false_and, Bool.false_eq_true, if_false]]
    simp only [push_cast, seval]
  | true =>
    obtain ⟨a1, a2, a3, a4, a5, a6, a7, a8, a9, a10, a11⟩ := jokB_spec c
    simp only at a1 a2 a3 a4 a5 a6 a7 a8 a9 a10 a11
    have hl := LgF.ofB a11
    have ke := l07Frames_ok ⟨start, sterm, es⟩ hl h 0 (Nat.zero_le _)
    have hes := efT_size hl 0 es.length (by simp)
    have h60 : es.length ≤ 60 := hl.n
    obtain ⟨s0, rfl⟩ := Int.eq_ofNat_of_zero_le a9
    obtain ⟨s1, rfl⟩ := Int.eq_ofNat_of_zero_le a7
    obtain ⟨t0, rfl⟩ := Int.eq_ofNat_of_zero_le a3
    obtain ⟨t1, rfl⟩ := Int.eq_ofNat_of_zero_le a5
    simp only [lgC, Nat.sub_zero] at ke
    rw [show (((0 : Nat) : Int)) = 0 from rfl] at ke
    obtain ⟨z, hz⟩ : ∃ z, z = efT ⟨(s0 : Int), (s1 : Int), es⟩ 0 es.length := ⟨_, rfl⟩
    rw [← hz] at ke hes
    obtain ⟨_, p1⟩ := prB_size 66 (a := s0) (b := s1) (by omega) (by omega)
    have p2 := prF_size 66 (a := s0) (b := s1) (by omega) (by omega)
    have p3 := prF_size 72 (a := t0) (b := t1) (by omega) (by omega)
    have v1 := varBk_le 2 s0 (by omega)
    have v2 := varBk_le 2 s1 (by omega)
    have e1 : (⟨#[66]⟩ : ByteArray).size = 1 := rfl
    have r1 : (⟨#[66]⟩ : ByteArray).size + (varB s0).size ≤ 9223372036854775807 := by omega
    have r2 : (⟨#[66]⟩ ++ varB s0).size + (varB s1).size ≤ 9223372036854775807 := by rw [ByteArray.size_append]; omega
    have kf := frameS_ok (prB 66 s0 s1) (by omega)
    rw [prX 66 (by omega) (by omega)] at kf
    have kh := l07Hard_ok t0 t1 (by omega) (by omega)
    have hj : jtB ⟨number, (t0 : Int), (t1 : Int), ⟨(s0 : Int), (s1 : Int), es⟩⟩ = (prF 66 s0 s1 ++ prF 72 t0 t1) ++ z := by simp [jtB, hz]
    have hx : jtX ⟨number, (t0 : Int), (t1 : Int), ⟨(s0 : Int), (s1 : Int), es⟩⟩ = if ((((prF 66 s0 s1 ++ prF 72 t0 t1) ++ z).size : Nat) : Int) ≤ 20000 then [st ((prF 66 s0 s1 ++ prF 72 t0 t1) ++ z), bo true] else [st ⟨#[]⟩, bo false] := by
      unfold jtX jtOk
      rw [c, hj, Bool.true_and]
      by_cases q : ((prF 66 s0 s1 ++ prF 72 t0 t1) ++ z).size ≤ 20000
      · rw [if_pos (by simpa using q), if_pos (by omega)]
      · rw [if_neg (by simpa using q), if_neg (by omega)]
    rw [hx]
    obtain ⟨x1, hx1⟩ : ∃ x1, x1 = prF 66 s0 s1 := ⟨_, rfl⟩
    obtain ⟨x2, hx2⟩ : ∃ x2, x2 = prF 72 t0 t1 := ⟨_, rfl⟩
    rw [← hx1] at kf p2 ⊢
    rw [← hx2] at kh p3 ⊢
    have r3 : x1.size + x2.size ≤ 9223372036854775807 := by omega
    have r4 : (x1 ++ x2).size + z.size ≤ 9223372036854775807 := by rw [ByteArray.size_append]; omega
    simp only [push_cast, seval]
    refine GoD_call rfl rfl (l01Var_ok s0 (by omega)) rfl rfl ?_
    simp only [push_cast, seval, r1]
    refine GoD_call rfl rfl (l01Var_ok s1 (by omega)) rfl rfl ?_
    simp only [push_cast, seval, r1, r2]
    refine GoD_call rfl rfl kf rfl rfl ?_
    simp only [push_cast, seval]
    refine GoD_call rfl rfl kh rfl rfl ?_
    simp only [push_cast, seval, r3]
    refine GoD_call rfl rfl ke rfl rfl ?_
    obtain ⟨y, hy⟩ : ∃ y, y = (x1 ++ x2) ++ z := ⟨_, rfl⟩
    rw [← hy]
    by_cases q : ((y.size : Nat) : Int) ≤ 20000
    · have q' : ¬ (20000 : Int) < (y.size : Int) := by omega
      simp only [push_cast, seval, r3, r4, ← hy, q, q']
    · have q' : (20000 : Int) < (y.size : Int) := by omega
      simp only [push_cast, seval, r3, r4, ← hy, q, q']
end Go.Proofs.YtbdjcpalpkijcaaGreatDoor

/- Journals' names, by both ways. -/
namespace Go.Proofs.YtbdjcpalpkijcaaGreatDoor
open Go.RowKit Go.Rx
set_option linter.unusedSimpArgs false
set_option maxRecDepth 100000

def jnm (n : Int) : ByteArray := if inR n 0 999 then nmT 106 n.toNat else ⟨#[]⟩
theorem journalNameI_ok (n : Int) : PureFn Tryz.prog 22 [i64 n] [st (jnm n)] := by
  refine PureFn_of_Go Tryz.func22 rfl (by decide) mo (by decide +kernel) ?_
  have k1 := inRange_ok n 0 999
  rw [show (decide ((0 : Int) ≤ n) && decide (n ≤ 999)) = inR n 0 999 from rfl] at k1
  simp only [Tryz.ntmps22, Tryz.results22, push_cast, seval]
  refine GoL_call rfl rfl k1 rfl rfl ?_
  cases c : inR n 0 999 with
  | false =>
    rw [show jnm n = ⟨#[]⟩ from by simp only [jnm, c, Bool.false_eq_true, if_false]]
    simp only [Tryz.ntmps22, Tryz.results22, push_cast, seval]
  | true =>
    rw [show jnm n = nmT 106 n.toNat from by simp only [jnm, c, if_true]]
    obtain ⟨h1, h2⟩ := inR_spec.1 c
    obtain ⟨m, rfl⟩ := Int.eq_ofNat_of_zero_le h1
    have hs := decB_size m (by omega)
    have hr : (ltr1 106).size + (decB m).size ≤ 9223372036854775807 := by have : (ltr1 106).size = 1 := rfl; omega
    unfold nmT
    rw [Int.toNat_natCast]
    have hc : (⟨#[106]⟩ : ByteArray) = ltr1 106 := rfl
    simp only [Tryz.ntmps22, Tryz.results22, push_cast, seval]
    refine GoL_call rfl rfl (decimalI_ok m (by omega)) rfl rfl ?_
    simp only [Tryz.ntmps22, Tryz.results22, push_cast, seval, hc, hr]
theorem journalNameS_ok (n : Int) : PureFn Tryz.prog 15 [i64 n] [st (jnm n)] := by
  refine PureFn_of_Go Tryz.func15 rfl (by decide) mo (by decide +kernel) ?_
  have k1 := l01In_ok n 0 999
  rw [show (decide ((0 : Int) ≤ n) && decide (n ≤ 999)) = inR n 0 999 from rfl] at k1
  simp only [Tryz.ntmps15, Tryz.results15, push_cast, seval]
  refine GoL_call rfl rfl k1 rfl rfl ?_
  cases c : inR n 0 999 with
  | false =>
    rw [show jnm n = ⟨#[]⟩ from by simp only [jnm, c, Bool.false_eq_true, if_false]]
    simp only [Tryz.ntmps15, Tryz.results15, push_cast, seval]
  | true =>
    rw [show jnm n = nmT 106 n.toNat from by simp only [jnm, c, if_true]]
    obtain ⟨h1, h2⟩ := inR_spec.1 c
    obtain ⟨m, rfl⟩ := Int.eq_ofNat_of_zero_le h1
    have hs := decB_size m (by omega)
    have hr : (ltr1 106).size + (decB m).size ≤ 9223372036854775807 := by have : (ltr1 106).size = 1 := rfl; omega
    unfold nmT
    rw [Int.toNat_natCast]
    have hc : (⟨#[106]⟩ : ByteArray) = ltr1 106 := rfl
    simp only [Tryz.ntmps15, Tryz.results15, push_cast, seval]
    refine GoL_call rfl rfl (decimalS_ok m (by omega)) rfl rfl ?_
    simp only [Tryz.ntmps15, Tryz.results15, push_cast, seval, hc, hr]
theorem journalNameS_nat (n : Nat) : PureFn Tryz.prog 15 [i64 n] [st (if n ≤ 999 then nmT 106 n else ⟨#[]⟩)] := by
  have k := journalNameS_ok n
  have : jnm n = if n ≤ 999 then nmT 106 n else ⟨#[]⟩ := by
    unfold jnm
    by_cases h : n ≤ 999
    · rw [if_pos h, if_pos (inR_spec.2 ⟨by omega, by omega⟩), Int.toNat_natCast]
    · rw [if_neg h, if_neg (fun e => h (by have := (inR_spec.1 e).2; omega))]
  rw [this] at k; exact k
end Go.Proofs.YtbdjcpalpkijcaaGreatDoor

/- Whole numbers marked. -/
namespace Go.Proofs.YtbdjcpalpkijcaaGreatDoor
open Go.RowKit Go.Rx
set_option linter.unusedSimpArgs false
set_option maxRecDepth 100000

def iotaL (k n : Nat) : List Int := (List.range n).map fun j => ((k + j : Nat) : Int)
theorem iotaL_length (k n : Nat) : (iotaL k n).length = n := by simp [iotaL]
theorem iotaL_getD (k : Nat) {n i : Nat} (h : i < n) : at_ (iotaL k n) i = ((k + i : Nat) : Int) := by
  simp [at_, iotaL, List.getD_eq_getElem?_getD, List.getElem?_map, h]
theorem markIntS_ok (l : List Int) (hl : l.length ≤ 1073741824) (k : Nat) (hk2 : k ≤ 1073741824) (e : Nat) (he : e = k + l.length) :
    IoFn Tryz.prog 9 .sl 1 (ints l) [i64 k] (ints (iotaL k l.length)) [i64 e] := by
  have hm : ints (iotaL k l.length) = mix (fun j => [.int .i64 ((k + j : Nat) : Int)]) (ints l) l.length := by
    have := mix_all (fun j => [.int .i64 ((k + j : Nat) : Int)]) (ints l)
    rw [ints_length] at this
    rw [this, ints, iotaL, List.map_map]; rfl
  have hlen : (ints (iotaL k l.length)).length = (ints l).length := by rw [ints_length, ints_length, iotaL_length]
  refine IoFn_of_Go Tryz.func9 rfl (by decide) mo (by decide +kernel) (ioOk_sl (fun x => [Value.int .i64 x]) (fun _ => rfl) l) (ioOk_sl (fun x => [Value.int .i64 x]) (fun _ => rfl) (iotaL k l.length)) rfl hlen ?_
  rw [hm]
  simp only [Tryz.ntmps9, Tryz.results9, push_cast, seval, ints_length]
  refine Go_loop (α := {i : Nat // i ≤ l.length})
    (fun i => ⟨tp 19 [(0, .x (.one (.rs (0, 1) [] 1 0 l.length))), (1, int (k + i.1 : Nat)), (5, int i.1)], 1, [], [((0, 1), ⟨.sl, 1, vR (mix (fun j => [.int .i64 ((k + j : Nat) : Int)]) (ints l) i.1)⟩)]⟩) (fun i => l.length - i.1) ⟨0, by omega⟩ ?_ ?_
  · rw [mix_zero]
    exact Weak.same (by simp only [push_cast, seval, Int.ofNat_zero, Int.add_zero, Nat.add_zero])
  · rintro ⟨i, hi⟩ X hX
    obtain ⟨m, hmk⟩ : ∃ m, m = k + i := ⟨_, rfl⟩
    simp only
    rw [← hmk]
    by_cases hlt : (i : Int) < (l.length : Int)
    · have hi' : i < l.length := by omega
      have ws := wsucc hi' (by omega)
      have ws2 : IntKind.i64.wrap ((m : Int) + 1) = ((m + 1 : Nat) : Int) := wN (by omega) (by omega)
      obtain ⟨i', hi1⟩ : ∃ i', i' = i + 1 := ⟨_, rfl⟩
      obtain ⟨m', hm1⟩ : ∃ m', m' = m + 1 := ⟨_, rfl⟩
      rw [← hi1] at ws
      rw [← hm1] at ws2
      have his : i < (ints l).length := by rw [ints_length]; exact hi'
      have hmix := mix_length (fun j => [Value.int .i64 ((k + j : Nat) : Int)]) (ints l) (Nat.le_of_lt his)
      rw [ints_length] at hmix
      have hg := vR_mix_getD (fun j => [.int .i64 ((k + j : Nat) : Int)]) (ints l) his
      rw [ints_getD l hi'] at hg
      have hset := mix_set (fun j => [.int .i64 ((k + j : Nat) : Int)]) (ints l) his
      rw [← hi1, ← hmk] at hset
      simp only [List.map_cons, List.map_nil] at hg hset
      obtain ⟨F, hF⟩ : ∃ F : Nat → List Value, F = fun j => [.int .i64 ((k + j : Nat) : Int)] := ⟨_, rfl⟩
      rw [← hF] at hmix hg hset hX ⊢
      simp only [push_cast, seval, hlt, hi', hmix, hg, hset, ws, ws2]
      refine ⟨_, ?_, hX ⟨i', by omega⟩ (by simp only; omega)⟩
      have hmm : m' = k + i' := by omega
      simp only [← hmm]
      exact Weak.same (by simp only [push_cast, seval])
    · have hii : i = l.length := by omega
      have hfin : e = m := by rw [he, hmk, hii]
      subst hfin
      simp only [hii] at hlt ⊢
      simp only [Tryz.ntmps9, Tryz.results9, push_cast, seval, hlt]
end Go.Proofs.YtbdjcpalpkijcaaGreatDoor

/- Disks as a law's arguments. -/
namespace Go.Proofs.YtbdjcpalpkijcaaGreatDoor
open Go.RowKit Go.Rx
set_option linter.unusedSimpArgs false
set_option maxRecDepth 100000

theorem eqDisk_ok (l : List Fil) (hl : l.length ≤ 1048576) : PureFn Tryz.prog 7 [.agg [.sh 3 (vR (fils l))], .agg [.sh 3 (vR (fils l))]] [bo true] := by
  refine PureFn_of_Go Tryz.func7 rfl (by decide) mo (by decide +kernel) ?_
  simp only [Tryz.ntmps7, Tryz.results7, push_cast, seval, fils_length]
  refine GoL_call rfl (by simp only [push_cast, seval, fils_length, fils_take]) (eqFileS_ok l hl) rfl rfl ?_
  simp only [Tryz.ntmps7, Tryz.results7, push_cast, seval]
theorem markDisk_ok (l : List Fil) (hl : l.length ≤ 1048576) (k : Nat) (hk : 0 < k) (hk2 : k ≤ 1073741824) (e : Nat) (he : e = k + 3 * l.length) :
    IoFn2 Tryz.prog 10 .sl 3 (fils l) [.agg [.rs ioR [] 3 0 l.length], i64 k] (fils (marksFile k l.length)) [i64 e] := by
  have hlen : (fils (marksFile k l.length)).length = (fils l).length := by rw [fils_length, fils_length, marksFile_length]
  refine IoFn2_of_Go Tryz.func10 rfl (by decide) mo (by decide +kernel) (ioOk_sl filV (fun _ => rfl) l) (ioOk_sl filV (fun _ => rfl) (marksFile k l.length)) hlen ?_
  have km := markFileS_ok l hl k hk hk2 e he
  simp only [Tryz.ntmps10, Tryz.results10, push_cast, seval]
  refine GoL_io (0, 1) .sl 3 (fils l) rfl rfl (by rw [fils_length]; rfl) rfl (.inr rfl) rfl km rfl rfl ?_
  simp only [Tryz.ntmps10, Tryz.results10, push_cast, seval]
theorem fils_dec (R : List (List C)) (h : ∀ r ∈ R, HasKt (.st [.str, .str, .int .i64]) r) : ∃ l : List Fil, R = vR (fils l) ∧ ∀ a ∈ l, a.small := by
  obtain ⟨xs, rfl, hx⟩ := rows_dec filC Fil.small (K := .st [.str, .str, .int .i64]) (fun r hr => by
    simp only [HasKt, HasKts] at hr
    obtain ⟨_, _, rfl, ⟨a, rfl, ha⟩, _, _, rfl, ⟨b, rfl, hb⟩, _, _, rfl, ⟨c, rfl, _⟩, rfl⟩ := hr
    exact ⟨⟨a, b, c⟩, rfl, Nat.le_trans ha (by decide), Nat.le_trans hb (by decide)⟩) R h
  exact ⟨xs, by simp [vR, fils, filV, filC], hx⟩
theorem disk_arg {x : X} (h : HasX (.st [.sl 3 40 (.st [.str, .str, .int .i64])]) x) : ∃ l, x = .agg [.sh 3 (vR (fils l))] ∧ filSm l := by
  simp only [HasX, HasKts, HasKt, reachBytes] at h
  obtain ⟨cs, rfl, _, _, rfl, ⟨R, rfl, h1, _, h2⟩, rfl⟩ := h
  obtain ⟨l, rfl, h3⟩ := fils_dec R (fun r hr => by simp only [HasKt, HasKts]; exact h2 r hr)
  rw [vR_length, fils_length] at h1
  exact ⟨l, rfl, by omega, h3⟩
end Go.Proofs.YtbdjcpalpkijcaaGreatDoor

/- The empty board, by the program. -/
namespace Go.Proofs.YtbdjcpalpkijcaaGreatDoor
open Go.RowKit Go.Rx
set_option linter.unusedSimpArgs false
set_option maxRecDepth 100000

abbrev nilS : C := .v (.slice none 0 0)
def bNew : List C := [nilS, nilS, nilS, .v (.int .i64 0), .v (.int .i64 1)]
def bodyB : ByteArray := ⟨#[0, 0, 0, 0, 1]⟩
theorem boardNewI_ok : PureFn Tryz.prog 18 [] [.agg bNew] := by
  refine PureFn_of_Go Tryz.func18 rfl (by decide) mo (by decide +kernel) ?_
  simp only [Tryz.ntmps18, Tryz.results18, push_cast, seval, bNew]
theorem sessionsOk_nil : PureFn Tryz.prog 73 [.one nilS] [bo true] := by
  refine PureFn_of_Go Tryz.func73 rfl (by decide) mo (by decide +kernel) ?_
  simp only [Tryz.ntmps73, Tryz.results73, push_cast, seval]
  refine Go_loop (α := Unit) (fun _ => _) (fun _ => 0) () (Weak.refl _) ?_
  rintro _ X hX
  simp only [Tryz.ntmps73, Tryz.results73, push_cast, seval]
theorem plansOk_nil : PureFn Tryz.prog 74 [.one nilS] [bo true] := by
  refine PureFn_of_Go Tryz.func74 rfl (by decide) mo (by decide +kernel) ?_
  simp only [Tryz.ntmps74, Tryz.results74, push_cast, seval]
  refine Go_loop (α := Unit) (fun _ => _) (fun _ => 0) () (Weak.refl _) ?_
  rintro _ X hX
  simp only [Tryz.ntmps74, Tryz.results74, push_cast, seval]
theorem runsOk_nil : PureFn Tryz.prog 75 [.agg bNew] [bo true] := by
  refine PureFn_of_Go Tryz.func75 rfl (by decide) mo (by decide +kernel) ?_
  simp only [Tryz.ntmps75, Tryz.results75, push_cast, seval, bNew]
  refine Go_loop (α := Unit) (fun _ => _) (fun _ => 0) () (Weak.refl _) ?_
  rintro _ X hX
  simp only [Tryz.ntmps75, Tryz.results75, push_cast, seval]
theorem tokensOf_nil : PureFn Tryz.prog 104 [.agg bNew] [.one nilS] := by
  refine PureFn_of_Go Tryz.func104 rfl (by decide) mo (by decide +kernel) ?_
  simp only [Tryz.ntmps104, Tryz.results104, push_cast, seval, bNew]
  refine Go_loop (α := Unit) (fun _ => _) (fun _ => 0) () (Weak.refl _) ?_
  rintro _ X hX
  simp only [Tryz.ntmps104, Tryz.results104, push_cast, seval]
theorem tokensOk_nil : PureFn Tryz.prog 76 [.agg bNew] [bo true] := by
  refine PureFn_of_Go Tryz.func76 rfl (by decide) mo (by decide +kernel) ?_
  have k1 := tokensOf_nil
  have k2 := inRange_ok 1 0 999999991
  simp only [Tryz.ntmps76, Tryz.results76, push_cast, seval, bNew]
  refine GoL_call rfl rfl k1 rfl rfl ?_
  simp only [push_cast, seval]
  refine Go_loop (α := Unit) (fun _ => _) (fun _ => 0) () (Weak.refl _) ?_
  rintro _ X hX
  simp only [Tryz.ntmps76, Tryz.results76, push_cast, seval]
  refine GoL_call rfl rfl k2 rfl rfl ?_
  simp only [Tryz.ntmps76, Tryz.results76, push_cast, seval, inR]
theorem isMinute_zero : PureFn Tryz.prog 77 [i64 0] [bo true] := by
  refine PureFn_of_Go Tryz.func77 rfl (by decide) mo (by decide +kernel) ?_
  have k2 := inRange_ok 0 0 68374079
  simp only [Tryz.ntmps77, Tryz.results77, push_cast, seval]
  refine GoL_call rfl rfl k2 rfl rfl ?_
  simp only [Tryz.ntmps77, Tryz.results77, push_cast, seval, inR]
theorem boardOkI_nil : PureFn Tryz.prog 39 [.agg bNew] [bo true] := by
  refine PureFn_of_Go Tryz.func39 rfl (by decide) mo (by decide +kernel) ?_
  have k1 := sessionsOk_nil
  have k2 := plansOk_nil
  have k3 := runsOk_nil
  have k4 := tokensOk_nil
  have k5 := isMinute_zero
  simp only [bNew] at k3 k4 ⊢
  simp only [Tryz.ntmps39, Tryz.results39, push_cast, seval]
  refine GoL_call rfl rfl k1 rfl rfl ?_
  simp only [push_cast, seval]
  refine GoL_call rfl rfl k2 rfl rfl ?_
  simp only [push_cast, seval]
  refine GoL_call rfl rfl k3 rfl rfl ?_
  simp only [push_cast, seval]
  refine GoL_call rfl rfl k4 rfl rfl ?_
  simp only [push_cast, seval]
  refine GoL_call rfl rfl k5 rfl rfl ?_
  simp only [push_cast, seval]
  refine Go_loop (α := Unit) (fun _ => _) (fun _ => 0) () (Weak.refl _) ?_
  rintro _ X hX
  simp only [Tryz.ntmps39, Tryz.results39, push_cast, seval]
end Go.Proofs.YtbdjcpalpkijcaaGreatDoor

/- The empty board's text, by the program. -/
namespace Go.Proofs.YtbdjcpalpkijcaaGreatDoor
open Go.RowKit Go.Rx
set_option linter.unusedSimpArgs false
set_option linter.unusedVariables false
set_option maxRecDepth 100000

theorem bl_len (s : ByteArray) : BlFn Tryz.prog 46 (fun b => #[.pointer (some ⟨b, 0, none⟩)]) 69 5 s s (.int .i64 s.size) := by
  refine ⟨fn_ok Tryz.func46 (by decide) rfl, fun w b row h => ?_⟩
  have h' := h
  obtain ⟨hT, p, v, hb, hp, hown, hrow⟩ := h
  have hv : ∃ ao cap, v = .slice ao s.size cap := by
    rcases hown.2 with ⟨hv, h0⟩ | ⟨g, cap, cur, hv, _⟩
    · exact ⟨none, 0, by rw [hv, h0]⟩
    · exact ⟨_, cap, hv⟩
  obtain ⟨ao, cap, rfl⟩ := hv
  have c1 : w.cell? ⟨b, 1, none⟩ = some (.slice ao s.size cap) := by rw [Lib.cell_of_heap hb]; rfl
  go_enter Tryz.func46, Tryz.ntmps46
  go_wp2
  go_ret
  exact ⟨rfl, row, h', BFr.refl _ _ _, fun k hk => .inl hk⟩
theorem varB_zero : varB 0 = ⟨#[0]⟩ := by
  have := varL_small (n := 0) (by omega)
  unfold varB; rw [this]; rfl
theorem varB_one : varB 1 = ⟨#[1]⟩ := by
  have := varL_small (n := 1) (by omega)
  unfold varB; rw [this]; rfl
set_option maxHeartbeats 1000000 in
theorem boardTextI_nil : PureFn Tryz.prog 17 [.agg bNew] [st bodyB, bo true] := by
  refine PureFn_of_GoWX [28] Tryz.func17 rfl (by decide) mo (by decide +kernel) ?_
  have k1 := boardOkI_nil
  have k0 := varText_ok 0 (by omega)
  have k2 := varText_ok 1 (by omega)
  rw [varB_zero] at k0
  rw [varB_one] at k2
  simp only [bNew] at k1 ⊢
  simp only [Tryz.ntmps17, Tryz.results17, push_cast, seval, slimX, List.contains_cons, List.contains_nil, Nat.reduceBEq, Bool.or_false, Bool.and_true, Bool.and_false, Bool.true_and, Bool.false_and, if_true, if_false, Bool.false_eq_true]
  refine GoL_call rfl rfl k1 rfl rfl ?_
  simp only [push_cast, seval]
  refine GoL_blNew (e := 5) rfl (by decide +kernel) (z := .agg #[.pointer none, .slice none 0 0]) (by kernel_rfl) rfl rfl rfl (by decide) fun b => ?_
  simp only [push_cast, seval]
  refine GoL_call rfl rfl k0 rfl rfl ?_
  simp only [push_cast, seval]
  refine GoL_bl (r := (0, 256)) (bl_write ⟨#[]⟩ ⟨#[0]⟩ (by decide)) rfl rfl rfl (zx := .tup [.one (.v (.int .i64 (⟨#[0]⟩ : ByteArray).size)), .one (.v .nilIface)]) (fun w o g => ⟨_, rfl, rfl, fun j hj => ?_⟩) fun r1 => ?_
  · match j, hj with
    | 0, _ => exact rfl
    | 1, _ => exact rfl
  simp only [push_cast, seval]
  refine Go_loop (α := Unit) (fun _ => _) (fun _ => 0) () (Weak.refl _) ?_
  rintro _ X1 hX1
  simp only [push_cast, seval]
  refine GoL_call rfl rfl k0 rfl rfl ?_
  simp only [push_cast, seval]
  refine GoL_bl (r := (0, 256)) (bl_write _ ⟨#[0]⟩ (by decide)) rfl rfl rfl (zx := .tup [.one (.v (.int .i64 (⟨#[0]⟩ : ByteArray).size)), .one (.v .nilIface)]) (fun w o g => ⟨_, rfl, rfl, fun j hj => ?_⟩) fun r2 => ?_
  · match j, hj with
    | 0, _ => exact rfl
    | 1, _ => exact rfl
  simp only [push_cast, seval]
  refine Go_loop (α := Unit) (fun _ => _) (fun _ => 0) () (Weak.refl _) ?_
  rintro _ X2 hX2
  simp only [push_cast, seval]
  refine GoL_call rfl rfl k0 rfl rfl ?_
  simp only [push_cast, seval]
  refine GoL_bl (r := (0, 256)) (bl_write _ ⟨#[0]⟩ (by decide)) rfl rfl rfl (zx := .tup [.one (.v (.int .i64 (⟨#[0]⟩ : ByteArray).size)), .one (.v .nilIface)]) (fun w o g => ⟨_, rfl, rfl, fun j hj => ?_⟩) fun r3 => ?_
  · match j, hj with
    | 0, _ => exact rfl
    | 1, _ => exact rfl
  simp only [push_cast, seval]
  refine Go_loop (α := Unit) (fun _ => _) (fun _ => 0) () (Weak.refl _) ?_
  rintro _ X3 hX3
  simp only [push_cast, seval]
  have e5 : (⟨#[0]⟩ : ByteArray) ++ ⟨#[1]⟩ = ⟨#[0, 1]⟩ := rfl
  have e6 : (⟨#[0]⟩ : ByteArray).size + (⟨#[1]⟩ : ByteArray).size ≤ 9223372036854775807 := by decide
  have e7 : (⟨#[]⟩ : ByteArray) ++ ⟨#[0]⟩ ++ ⟨#[0]⟩ ++ ⟨#[0]⟩ ++ ⟨#[0, 1]⟩ = bodyB := rfl
  refine Go_anyK fun K hK => ?_
  refine AnyL_2 0 3 (by decide +kernel) rfl rfl ?_ ?_ <;> simp only [push_cast, seval]
  repeat' first
    | refine AnyL_2 1 3 (by decide +kernel) rfl rfl ?_ ?_ <;> simp only [push_cast, seval]
    | refine AnyL_2 0 4 (by decide +kernel) rfl rfl ?_ ?_ <;> simp only [push_cast, seval]
    | refine AnyL_2 1 4 (by decide +kernel) rfl rfl ?_ ?_ <;> simp only [push_cast, seval]
    | refine AnyL_2 2 3 (by decide +kernel) rfl rfl (GoL_call rfl rfl k0 rfl rfl ?_) ?_ <;> simp only [push_cast, seval]
    | refine AnyL_2 2 4 (by decide +kernel) rfl rfl (GoL_call rfl rfl k0 rfl rfl ?_) ?_ <;> simp only [push_cast, seval]
    | (refine AnyL_1 0 (by decide +kernel) rfl ?_; simp only [push_cast, seval])
    | (refine AnyL_1 1 (by decide +kernel) rfl ?_; simp only [push_cast, seval])
    | (refine AnyL_1 2 (by decide +kernel) rfl (GoL_call rfl rfl k0 rfl rfl ?_); simp only [push_cast, seval])
    | (refine AnyL_1 3 (by decide +kernel) rfl ?_; simp only [push_cast, seval])
    | (refine AnyL_1 4 (by decide +kernel) rfl ?_; simp only [push_cast, seval])
    | fail
  all_goals
    refine AnyL_1 5 (by decide +kernel) rfl (GoL_call rfl rfl k2 rfl rfl ?_)
    simp only [push_cast, seval]
    refine AnyL_1 6 (by decide +kernel) rfl ?_
    simp only [push_cast, seval, e5, e6]
    refine AnyL_1 7 (by decide +kernel) rfl ?_
    refine GoL_bl (r := (0, 256)) (bl_write _ ⟨#[0, 1]⟩ (by decide)) rfl rfl rfl (zx := .tup [.one (.v (.int .i64 (⟨#[0, 1]⟩ : ByteArray).size)), .one (.v .nilIface)]) (fun w o g => ⟨_, rfl, rfl, fun j hj => ?_⟩) fun r4 => ?_
    · match j, hj with
      | 0, _ => exact rfl
      | 1, _ => exact rfl
    simp only [push_cast, seval]
    refine AnyL_end (by decide +kernel) (hK _ ?_)
    simp only [push_cast, seval]
    refine GoL_bl (r := (0, 256)) (bl_len _) rfl rfl rfl (zx := .x (.one (.v (.int .i64 5)))) (fun w o g => rfl) fun r5 => ?_
    simp only [push_cast, seval]
    refine GoL_blEnd (r := (0, 256)) (bl_string _) rfl rfl rfl ?_
    simp only [Tryz.ntmps17, Tryz.results17, push_cast, seval, e7]
    refine ⟨_, Weak.refl _, ?_⟩
    simp only [Tryz.ntmps17, Tryz.results17, push_cast, seval]
end Go.Proofs.YtbdjcpalpkijcaaGreatDoor

/- The empty board, by the document. -/
namespace Go.Proofs.YtbdjcpalpkijcaaGreatDoor
open Go.RowKit Go.Rx
set_option linter.unusedSimpArgs false
set_option maxRecDepth 100000

theorem boardNewS_ok : PureFn Tryz.prog 37 [] [.agg bNew] := by
  refine PureFn_of_Go Tryz.func37 rfl (by decide) mo (by decide +kernel) ?_
  simp only [Tryz.ntmps37, Tryz.results37, push_cast, seval, bNew]
theorem l15Sessions_nil : PureFn Tryz.prog 94 [.one nilS] [bo true] := by
  refine PureFn_of_Go Tryz.func94 rfl (by decide) mo (by decide +kernel) ?_
  simp only [Tryz.ntmps94, Tryz.results94, push_cast, seval]
  refine Go_loop (α := Unit) (fun _ => _) (fun _ => 0) () (Weak.refl _) ?_
  rintro _ X hX
  simp only [Tryz.ntmps94, Tryz.results94, push_cast, seval]
theorem l15Plans_nil : PureFn Tryz.prog 95 [.agg bNew] [bo true] := by
  refine PureFn_of_Go Tryz.func95 rfl (by decide) mo (by decide +kernel) ?_
  simp only [Tryz.ntmps95, Tryz.results95, push_cast, seval, bNew]
  refine Go_loop (α := Unit) (fun _ => _) (fun _ => 0) () (Weak.refl _) ?_
  rintro _ X hX
  simp only [Tryz.ntmps95, Tryz.results95, push_cast, seval]
theorem l15Runs_nil : PureFn Tryz.prog 96 [.agg bNew] [bo true] := by
  refine PureFn_of_Go Tryz.func96 rfl (by decide) mo (by decide +kernel) ?_
  simp only [Tryz.ntmps96, Tryz.results96, push_cast, seval, bNew]
  refine Go_loop (α := Unit) (fun _ => _) (fun _ => 0) () (Weak.refl _) ?_
  rintro _ X hX
  simp only [Tryz.ntmps96, Tryz.results96, push_cast, seval]
theorem usedByS_nil (s : ByteArray) : PureFn Tryz.prog 97 [.agg bNew, st s] [i64 0] := by
  refine PureFn_of_Go Tryz.func97 rfl (by decide) mo (by decide +kernel) ?_
  simp only [Tryz.ntmps97, Tryz.results97, push_cast, seval, bNew]
  refine Go_loop (α := Unit) (fun _ => _) (fun _ => 0) () (Weak.refl _) ?_
  rintro _ X hX
  simp only [Tryz.ntmps97, Tryz.results97, push_cast, seval]
theorem boardOkS_nil : PureFn Tryz.prog 67 [.agg bNew] [bo true] := by
  refine PureFn_of_Go Tryz.func67 rfl (by decide) mo (by decide +kernel) ?_
  have k1 := l15Sessions_nil
  have k2 := l15Plans_nil
  have k3 := l15Runs_nil
  have k4 := usedByS_nil
  have k5 := l01In_ok 1 0 999999991
  have k6 := l01In_ok 0 0 68374079
  simp only [bNew] at k2 k3 k4 ⊢
  simp only [Tryz.ntmps67, Tryz.results67, push_cast, seval]
  refine GoL_call rfl rfl k1 rfl rfl ?_
  simp only [push_cast, seval]
  refine GoL_call rfl rfl k5 rfl rfl ?_
  simp only [push_cast, seval, inR]
  refine GoL_call rfl rfl k6 rfl rfl ?_
  simp only [push_cast, seval, inR]
  refine GoL_call rfl rfl k2 rfl rfl ?_
  simp only [push_cast, seval]
  refine GoL_call rfl rfl k3 rfl rfl ?_
  simp only [push_cast, seval]
  refine GoL_call rfl rfl (k4 _) rfl rfl ?_
  simp only [push_cast, seval]
  refine GoL_call rfl rfl (k4 _) rfl rfl ?_
  simp only [push_cast, seval]
  refine GoL_call rfl rfl (k4 _) rfl rfl ?_
  simp only [Tryz.ntmps67, Tryz.results67, push_cast, seval]
theorem boardTextS_nil : PureFn Tryz.prog 36 [.agg bNew] [st bodyB, bo true] := by
  refine PureFn_of_Go Tryz.func36 rfl (by decide) mo (by decide +kernel) ?_
  have k1 := boardOkS_nil
  have k0 := l01Var_ok 0 (by omega)
  have k2 := l01Var_ok 1 (by omega)
  rw [varB_zero] at k0
  rw [varB_one] at k2
  simp only [bNew] at k1 ⊢
  have s0 : (⟨#[0]⟩ : ByteArray) ++ ⟨#[0]⟩ = ⟨#[0, 0]⟩ := rfl
  have s1 : (⟨#[0, 0]⟩ : ByteArray) ++ ⟨#[0]⟩ = ⟨#[0, 0, 0]⟩ := rfl
  have s2 : (⟨#[0, 0, 0]⟩ : ByteArray) ++ ⟨#[0]⟩ = ⟨#[0, 0, 0, 0]⟩ := rfl
  have s3 : (⟨#[0, 0, 0, 0]⟩ : ByteArray) ++ ⟨#[1]⟩ = bodyB := rfl
  have z0 : (⟨#[0]⟩ : ByteArray).size + (⟨#[0]⟩ : ByteArray).size ≤ 9223372036854775807 := by decide
  have z1 : (⟨#[0, 0]⟩ : ByteArray).size + (⟨#[0]⟩ : ByteArray).size ≤ 9223372036854775807 := by decide
  have z2 : (⟨#[0, 0, 0]⟩ : ByteArray).size + (⟨#[0]⟩ : ByteArray).size ≤ 9223372036854775807 := by decide
  have z3 : (⟨#[0, 0, 0, 0]⟩ : ByteArray).size + (⟨#[1]⟩ : ByteArray).size ≤ 9223372036854775807 := by decide
  have e2 : (bodyB.size : Int) = 5 := rfl
  simp only [Tryz.ntmps36, Tryz.results36, push_cast, seval]
  refine GoL_call rfl rfl k1 rfl rfl ?_
  simp only [push_cast, seval, s0, s1, s2, s3, z0, z1, z2, z3, e2]
  refine GoL_call rfl rfl k0 rfl rfl ?_
  simp only [push_cast, seval, s0, s1, s2, s3, z0, z1, z2, z3, e2]
  refine Go_loop (α := Unit) (fun _ => _) (fun _ => 0) () (Weak.refl _) ?_
  rintro _ X hX
  simp only [push_cast, seval, s0, s1, s2, s3, z0, z1, z2, z3, e2]
  refine GoL_call rfl rfl k0 rfl rfl ?_
  simp only [push_cast, seval, s0, s1, s2, s3, z0, z1, z2, z3, e2]
  refine Go_loop (α := Unit) (fun _ => _) (fun _ => 0) () (Weak.refl _) ?_
  rintro _ Y hY
  simp only [push_cast, seval, s0, s1, s2, s3, z0, z1, z2, z3, e2]
  refine GoL_call rfl rfl k0 rfl rfl ?_
  simp only [push_cast, seval, s0, s1, s2, s3, z0, z1, z2, z3, e2]
  refine Go_loop (α := Unit) (fun _ => _) (fun _ => 0) () (Weak.refl _) ?_
  rintro _ Z hZ
  simp only [push_cast, seval, s0, s1, s2, s3, z0, z1, z2, z3, e2]
  refine GoD_call rfl rfl k0 rfl rfl ?_
  simp only [push_cast, seval, s0, s1, s2, s3, z0, z1, z2, z3, e2]
  refine GoD_call rfl rfl k2 rfl rfl ?_
  simp only [Tryz.ntmps36, Tryz.results36, push_cast, seval, s0, s1, s2, s3, z0, z1, z2, z3, e2]
theorem l20Empty_ok : PureFn Tryz.prog 14 [] [st bodyB] := by
  refine PureFn_of_Go Tryz.func14 rfl (by decide) mo (by decide +kernel) ?_
  have k1 := boardNewS_ok
  have k2 := boardTextS_nil
  simp only [bNew] at k1 k2
  simp only [Tryz.ntmps14, Tryz.results14, push_cast, seval]
  refine GoL_call rfl rfl k1 rfl rfl ?_
  simp only [push_cast, seval]
  refine GoL_call rfl rfl k2 rfl rfl ?_
  simp only [Tryz.ntmps14, Tryz.results14, push_cast, seval]
end Go.Proofs.YtbdjcpalpkijcaaGreatDoor

/- FormatDisk, by the program. -/
namespace Go.Proofs.YtbdjcpalpkijcaaGreatDoor
open Go.RowKit Go.Rx
set_option linter.unusedSimpArgs false
set_option maxRecDepth 100000

def fdS (l : List Int) : Snp := ⟨0, 0, l, bodyB⟩
def jT : ByteArray := if jtOk jnZ then jtB jnZ else ⟨#[]⟩
def fdJ : Fil := ⟨nmT 106 0, jT, jT.size⟩
def fdN (l : List Int) : Fil := ⟨nmT 115 0, seB (snI (fdS l)), (seB (snI (fdS l))).size⟩
def fdL (l : List Int) : List Fil := [fdJ, fdN l]
def fdX (l : List Int) : List X := if snF (fdS l) then [.agg [.own 3 (vR (fils (fdL l)))], bo true] else [.agg [.own 3 []], bo false]
theorem jtX_jT : ∃ b, jtX jnZ = [st jT, bo b] := by
  unfold jtX jT
  split
  · exact ⟨true, rfl⟩
  · exact ⟨false, rfl⟩
theorem names_lt : ltB (nmT 106 0) (nmT 115 0) = true := by
  unfold ltB nmT
  rw [app_list, app_list]
  rfl
theorem names_ne : ¬ nmT 106 0 = nmT 115 0 := fun e => by
  have := names_lt
  rw [e, ltB_irrefl] at this
  cases this
theorem PureFn_sub {P : Program} {f : FuncId} {xs xs' ret : List X} (h : PureFn P f xs ret) (hl : xs'.length = xs.length)
    (hs : ∀ i, i < xs.length → ∀ (w : World) (y : Value), XR w [] (Sall w) (xs'.getD i (.one .bad)) y → XR w [] (Sall w) (xs.getD i (.one .bad)) y) : PureFn P f xs' ret :=
  ⟨h.1, fun w ys _ hly hx => h.2 w ys (hly.trans hl) fun i hi => hs i hi w _ (hx i (by omega))⟩
theorem zero_sub {P : Program} {f : FuncId} {ret : List X} (h : PureFn P f [.agg (jnC jnZ (.sh 3 []))] ret) : PureFn P f [.agg (jnC jnZ nilS)] ret :=
  PureFn_sub h rfl fun i hi w y hy => by
    obtain rfl : i = 0 := by simp at hi; omega
    obtain ⟨ys, e1, e2, e3⟩ := hy
    refine ⟨ys, e1, e2, fun j hj => ?_⟩
    have h3 := e3 j hj
    match j, hj with
    | 0, _ => exact h3
    | 1, _ => exact h3
    | 2, _ => exact h3
    | 3, _ => exact h3
    | 4, _ => exact h3
    | 5, _ =>
      have h4 : ys.getD 5 undef = .slice none 0 0 := h3
      show Sh w _ (.sh 3 []) (ys.getD 5 undef)
      rw [h4]
      exact .nil 3
def iteV (b : Bool) (v : V) : V := if b = true then v else .x (.one .bad)
theorem iteV_t (v : V) : iteV true v = v := rfl
theorem keepV_ite (g : Store) (b : Bool) (v : V) : keepV g (iteV b v) = iteV b (keepV g v) := by cases b <;> rfl
abbrev pt6 : V := .x (.one (.pt (0, 640) [] 1 0 0))
theorem getD_set_eq (T : List V) (i : Nat) (v d : V) (h : i < T.length) : (T.set i v).getD i d = v := by rw [List.getD_eq_getElem?_getD, List.getElem?_set_self h]; rfl
theorem getD_set_ne (T : List V) (i j : Nat) (v : V) {d : V} (h : i ≠ j) : (T.set i v).getD j d = T.getD j d := by rw [List.getD_eq_getElem?_getD, List.getElem?_set_ne h, ← List.getD_eq_getElem?_getD]
def putG (L : List Fil) : Store := [((0, 641), ⟨.sl, 3, vR (fils L)⟩), ((0, 640), ⟨.box, 1, [[.rs (0, 641) [] 3 0 L.length]]⟩), ((0, 128), ⟨.box, 1, [[nilS]]⟩)]
def putL2 (L : List Fil) (f : Fil) : Store := [((2, 1600), ⟨.sl, 3, vR (fils (L ++ [f]))⟩), ((1, 1792), ⟨.sl, 3, [filC f]⟩), ((1, 192), ⟨.box, 3, [filC f]⟩)]
def putG2 (n : Nat) : Store := [((0, 640), ⟨.box, 1, [[.rs (2, 1600) [] 3 0 n]]⟩), ((0, 128), ⟨.box, 1, [[nilS]]⟩)]
set_option maxHeartbeats 2000000 in
theorem put_body (L : List Fil) (f : Fil) (hup : ∀ x ∈ L, ltB x.name f.name = true) (hn : L.length ≤ 30) (K : St → Prop) (hK : ∀ t2, K ⟨t2, 1, putL2 L f, putG2 (L.length + 1)⟩) {c : Code} (hb : Tryz.f21.body = some c) :
    Go Tryz.prog (slimX [3, 4] c) [] (startSt Tryz.f21 [.one (.pt (0, 640) [] 1 0 0), .agg (filC f)] 1 (putG L)) fun e σ' => (e = .normal ∨ e = .ret) ∧ K σ' := by
  obtain rfl : _ = c := Option.some.inj hb
  obtain ⟨name, text, kept⟩ := f
  simp only [filC, putG]
  simp only [Tryz.ntmps21, Tryz.results21, push_cast, seval, slimX, List.contains_cons, List.contains_nil, Nat.reduceBEq, Bool.or_false, Bool.and_true, Bool.and_false, Bool.true_and, Bool.false_and, if_true, if_false, Bool.false_eq_true]
  refine GoL_inl2 2 Tryz.func56 rfl (by decide) mo (by decide +kernel) rfl rfl (show 1 ≤ 2 by decide) rfl fun K2 hK2 => ?_
  simp only [Tryz.ntmps56, Tryz.results56, push_cast, seval]
  refine Go_loop (α := {i : Nat // i ≤ L.length})
    (fun i => ⟨tp 48 [(0, pt6), (1, .x (st name)), (6, int i.1)], 2, [], [((1, 192), ⟨.box, 3, [[.v (.string name), .v (.string text), .v (.int .i64 kept)]]⟩), ((0, 641), ⟨.sl, 3, vR (fils L)⟩), ((0, 640), ⟨.box, 1, [[.rs (0, 641) [] 3 0 L.length]]⟩), ((0, 128), ⟨.box, 1, [[nilS]]⟩)]⟩) (fun i => L.length - i.1) ⟨0, Nat.zero_le _⟩ ?_ ?_
  · exact Weak.same (by simp only [push_cast, seval, Int.ofNat_zero])
  · rintro ⟨i, hi⟩ X hX
    simp only
    by_cases hlt : (i : Int) < (L.length : Int)
    · have hi' : i < L.length := by omega
      have hg := fils_getD L hi'
      have hmem := getD_mem' L i hi'
      have ws := wsucc hi' (by omega)
      obtain ⟨i', hi1⟩ : ∃ i', i' = i + 1 := ⟨_, rfl⟩
      rw [← hi1] at ws
      obtain ⟨x, hx⟩ : ∃ x, x = L.getD i default := ⟨_, rfl⟩
      rw [← hx] at hg hmem
      have hl2 := hup x hmem
      simp only at hl2
      simp only [push_cast, seval, hlt, fils_length, hi', hg, filV, vR_getD, hl2, ws]
      refine ⟨_, ?_, hX ⟨i', by omega⟩ (by simp only; omega)⟩
      exact Weak.drop (by simp only [push_cast, seval]) (by simp only [push_cast, seval]) (by simp only [push_cast, seval])
    · obtain rfl : i = L.length := by omega
      simp only [push_cast, seval, hlt, fils_length]
      refine hK2 _ _ _ (Weak.refl _) rfl rfl rfl ?_
      simp only [Tryz.ntmps21, Tryz.results21, push_cast, seval]
      refine Go_anyK fun K3 hK3 => ?_
      have hfin : ∀ T, K3 ⟨T, 1, putL2 L ⟨name, text, kept⟩, putG2 (L.length + 1)⟩ := fun T => hK3 _ (by
        simp only [Tryz.ntmps21, Tryz.results21, push_cast, seval]
        exact hK T)
      clear hK3 hK
      simp only [push_cast, seval]
      generalize hdeps : depsL _ = deps
      have d2_1 : 1 ∈ deps.getD 2 [] := by rw [← hdeps]; decide +kernel
      have d3_2 : 2 ∈ deps.getD 3 [] := by rw [← hdeps]; decide +kernel
      have d4_3 : 3 ∈ deps.getD 4 [] := by rw [← hdeps]; decide +kernel
      have d7_6 : 6 ∈ deps.getD 7 [] := by rw [← hdeps]; decide +kernel
      have d8_4 : 4 ∈ deps.getD 8 [] := by rw [← hdeps]; decide +kernel
      have d8_5 : 5 ∈ deps.getD 8 [] := by rw [← hdeps]; decide +kernel
      have d8_7 : 7 ∈ deps.getD 8 [] := by rw [← hdeps]; decide +kernel
      have d9_0 : 0 ∈ deps.getD 9 [] := by rw [← hdeps]; decide +kernel
      have d9_8 : 8 ∈ deps.getD 9 [] := by rw [← hdeps]; decide +kernel
      have d10_9 : 9 ∈ deps.getD 10 [] := by rw [← hdeps]; decide +kernel
      have d11_10 : 10 ∈ deps.getD 11 [] := by rw [← hdeps]; decide +kernel
      have hlen : deps.length = 12 := by rw [← hdeps]; decide +kernel
      have hac : ∀ j, j < deps.length → ∀ k ∈ deps.getD j [], k < j := by rw [← hdeps]; decide +kernel
      clear hdeps
      have fls : ∀ (j k : Nat) (done : List Nat), j ≠ k → done.contains k = false → (j :: done).contains k = false := fun j k done h1 h2 => by
        rw [List.contains_cons, h2, Bool.or_false]; simp; exact fun e => h1 e.symm
      have tru : ∀ (j k : Nat) (done : List Nat), done.contains k = true → (j :: done).contains k = true := fun j k done h2 => by rw [List.contains_cons, h2, Bool.or_true]
      have slf : ∀ (j : Nat) (done : List Nat), (j :: done).contains j = true := fun j done => by rw [List.contains_cons]; simp
      have a8 : ∀ done, downC deps done → done.contains 8 = true → done.contains 1 = true ∧ done.contains 2 = true ∧ done.contains 3 = true ∧ done.contains 4 = true ∧ done.contains 5 = true ∧ done.contains 6 = true ∧ done.contains 7 = true := fun done hdc c8 => by
        have e4 := hdc 8 c8 4 d8_4
        have e5 := hdc 8 c8 5 d8_5
        have e7 := hdc 8 c8 7 d8_7
        have e3 := hdc 4 e4 3 d4_3
        have e2 := hdc 3 e3 2 d3_2
        exact ⟨hdc 2 e2 1 d2_1, e2, e3, e4, e5, hdc 7 e7 6 d7_6, e7⟩
      obtain ⟨Inv, hInv⟩ : ∃ Inv : List Nat → St → Prop, ∀ done σ, Inv done σ ↔
          (done.contains 7 = false ∧ done.contains 8 = false ∧ done.contains 9 = false ∧ done.contains 10 = false ∧ done.contains 11 = false ∧ σ = ⟨[pt6, .x (.agg [.v (.string name), .v (.string text), .v (.int .i64 kept)]), .x (.one .bad), .x (.one (.pt (1, 192) [] 3 0 0)), .x (i64 L.length), .x (bo false), .tup [i64 L.length, bo false], pt6, .x (.one (.pt (1, 192) [] 3 0 0)), .x (st name), .tup [i64 L.length, bo false], .x (i64 L.length), .x (bo false), .x (bo false), .x (.one .bad), .x (.one .bad), .x (.one .bad), .x (.one .bad), .x (.one .bad), .x (.one .bad), .x (.one .bad), iteV (done.contains 0) pt6, iteV (done.contains 1) pt6, iteV (done.contains 2) pt6, iteV (done.contains 3) pt6, iteV (done.contains 4) (.x (.one (.rs (0, 641) [] 3 0 L.length))), iteV (done.contains 5) (.x (i64 L.length)), iteV (done.contains 6) (.x (.agg [.v (.string name), .v (.string text), .v (.int .i64 kept)])), .x (.one .bad), .x (.one .bad), .x (.one .bad), .x (.one .bad)], 1, [((1, 192), ⟨.box, 3, [[.v (.string name), .v (.string text), .v (.int .i64 kept)]]⟩)], [((0, 641), ⟨.sl, 3, vR (fils L)⟩), ((0, 640), ⟨.box, 1, [[.rs (0, 641) [] 3 0 L.length]]⟩), ((0, 128), ⟨.box, 1, [[nilS]]⟩)]⟩) ∨
          (done.contains 6 = true ∧ done.contains 7 = true ∧ done.contains 8 = false ∧ done.contains 9 = false ∧ done.contains 10 = false ∧ done.contains 11 = false ∧ σ = ⟨[pt6, .x (.agg [.v (.string name), .v (.string text), .v (.int .i64 kept)]), .x (.one .bad), .x (.one (.pt (1, 192) [] 3 0 0)), .x (i64 L.length), .x (bo false), .tup [i64 L.length, bo false], pt6, .x (.one (.pt (1, 192) [] 3 0 0)), .x (st name), .tup [i64 L.length, bo false], .x (i64 L.length), .x (bo false), .x (bo false), .x (.one .bad), .x (.one .bad), .x (.one .bad), .x (.one .bad), .x (.one .bad), .x (.one .bad), .x (.one .bad), iteV (done.contains 0) pt6, iteV (done.contains 1) pt6, iteV (done.contains 2) pt6, iteV (done.contains 3) pt6, iteV (done.contains 4) (.x (.one (.rs (0, 641) [] 3 0 L.length))), iteV (done.contains 5) (.x (i64 L.length)), .x (.agg [.v (.string name), .v (.string text), .v (.int .i64 kept)]), .x (.one (.rs (1, 1792) [] 3 0 1)), .x (.one .bad), .x (.one .bad), .x (.one .bad)], 1, [((1, 1792), ⟨.sl, 3, [[.v (.string name), .v (.string text), .v (.int .i64 kept)]]⟩), ((1, 192), ⟨.box, 3, [[.v (.string name), .v (.string text), .v (.int .i64 kept)]]⟩)], [((0, 641), ⟨.sl, 3, vR (fils L)⟩), ((0, 640), ⟨.box, 1, [[.rs (0, 641) [] 3 0 L.length]]⟩), ((0, 128), ⟨.box, 1, [[nilS]]⟩)]⟩) ∨
          (done.contains 8 = true ∧ done.contains 9 = false ∧ done.contains 10 = false ∧ done.contains 11 = false ∧ ∃ T : List V, T.length = 32 ∧ T.getD 0 (.x (.one .bad)) = pt6 ∧ T.getD 21 (.x (.one .bad)) = iteV (done.contains 0) pt6 ∧ T.getD 29 (.x (.one .bad)) = .x (.one (.rs (2, 1600) [] 3 0 (L.length + 1))) ∧ σ = ⟨T, 1, putL2 L ⟨name, text, kept⟩, [((0, 640), ⟨.box, 1, [[.bad]]⟩), ((0, 128), ⟨.box, 1, [[nilS]]⟩)]⟩) ∨
          (done.contains 8 = true ∧ done.contains 9 = true ∧ done.contains 10 = false ∧ done.contains 11 = false ∧ ∃ T : List V, T.length = 32 ∧ T.getD 30 (.x (.one .bad)) = pt6 ∧ T.getD 29 (.x (.one .bad)) = .x (.one (.rs (2, 1600) [] 3 0 (L.length + 1))) ∧ σ = ⟨T, 1, putL2 L ⟨name, text, kept⟩, [((0, 640), ⟨.box, 1, [[.bad]]⟩), ((0, 128), ⟨.box, 1, [[nilS]]⟩)]⟩) ∨
          (done.contains 8 = true ∧ done.contains 9 = true ∧ done.contains 10 = true ∧ done.contains 11 = false ∧ ∃ T : List V, T.getD 31 (.x (.one .bad)) = pt6 ∧ T.getD 29 (.x (.one .bad)) = .x (.one (.rs (2, 1600) [] 3 0 (L.length + 1))) ∧ σ = ⟨T, 1, putL2 L ⟨name, text, kept⟩, [((0, 640), ⟨.box, 1, [[.bad]]⟩), ((0, 128), ⟨.box, 1, [[nilS]]⟩)]⟩) ∨
          (done.contains 11 = true ∧ ∃ T : List V, σ = ⟨T, 1, putL2 L ⟨name, text, kept⟩, putG2 (L.length + 1)⟩) := ⟨_, fun _ _ => Iff.rfl⟩
      refine AnyL_by (Inv := Inv) 12 hlen hac (fun done σ hinv hdc j hj hjn hd => ?_) (fun done σ hinv hall => ?_) 12 [] _ rfl (downC_nil _) ?_
      · rcases (hInv _ _).1 hinv with ⟨c7, c8, c9, c10, c11, rfl⟩ | ⟨c6, c7, c8, c9, c10, c11, rfl⟩ | ⟨c8, c9, c10, c11, T, t1, t2, t3, t4, rfl⟩ | ⟨c8, c9, c10, c11, T, t1, t2, t3, rfl⟩ | ⟨c8, c9, c10, c11, T, t1, t2, rfl⟩ | ⟨c11, T, rfl⟩
        · have hjs : j = 0 ∨ j = 1 ∨ j = 2 ∨ j = 3 ∨ j = 4 ∨ j = 5 ∨ j = 6 ∨ j = 7 ∨ j = 8 ∨ j = 9 ∨ j = 10 ∨ j = 11 := by omega
          rcases hjs with rfl | rfl | rfl | rfl | rfl | rfl | rfl | rfl | rfl | rfl | rfl | rfl
          · refine ⟨_, rfl, ?_⟩
            simp only [push_cast, seval, iteV_t]
            refine (hInv _ _).2 (.inl ⟨fls _ _ _ (by decide) c7, fls _ _ _ (by decide) c8, fls _ _ _ (by decide) c9, fls _ _ _ (by decide) c10, fls _ _ _ (by decide) c11, ?_⟩)
            simp only [List.contains_cons, Nat.reduceBEq, Bool.false_or, Bool.true_or, iteV_t]
          · refine ⟨_, rfl, ?_⟩
            simp only [push_cast, seval, iteV_t]
            refine (hInv _ _).2 (.inl ⟨fls _ _ _ (by decide) c7, fls _ _ _ (by decide) c8, fls _ _ _ (by decide) c9, fls _ _ _ (by decide) c10, fls _ _ _ (by decide) c11, ?_⟩)
            simp only [List.contains_cons, Nat.reduceBEq, Bool.false_or, Bool.true_or, iteV_t]
          · have hq := hd 1 d2_1
            refine ⟨_, rfl, ?_⟩
            simp only [push_cast, seval, hq, iteV_t]
            refine (hInv _ _).2 (.inl ⟨fls _ _ _ (by decide) c7, fls _ _ _ (by decide) c8, fls _ _ _ (by decide) c9, fls _ _ _ (by decide) c10, fls _ _ _ (by decide) c11, ?_⟩)
            simp only [List.contains_cons, Nat.reduceBEq, Bool.false_or, Bool.true_or, hq, iteV_t]
          · have hq := hd 2 d3_2
            refine ⟨_, rfl, ?_⟩
            simp only [push_cast, seval, hq, iteV_t]
            refine (hInv _ _).2 (.inl ⟨fls _ _ _ (by decide) c7, fls _ _ _ (by decide) c8, fls _ _ _ (by decide) c9, fls _ _ _ (by decide) c10, fls _ _ _ (by decide) c11, ?_⟩)
            simp only [List.contains_cons, Nat.reduceBEq, Bool.false_or, Bool.true_or, hq, iteV_t]
          · have hq := hd 3 d4_3
            refine ⟨_, rfl, ?_⟩
            simp only [push_cast, seval, hq, iteV_t]
            refine (hInv _ _).2 (.inl ⟨fls _ _ _ (by decide) c7, fls _ _ _ (by decide) c8, fls _ _ _ (by decide) c9, fls _ _ _ (by decide) c10, fls _ _ _ (by decide) c11, ?_⟩)
            simp only [List.contains_cons, Nat.reduceBEq, Bool.false_or, Bool.true_or, hq, iteV_t]
          · refine ⟨_, rfl, ?_⟩
            simp only [push_cast, seval, iteV_t]
            refine (hInv _ _).2 (.inl ⟨fls _ _ _ (by decide) c7, fls _ _ _ (by decide) c8, fls _ _ _ (by decide) c9, fls _ _ _ (by decide) c10, fls _ _ _ (by decide) c11, ?_⟩)
            simp only [List.contains_cons, Nat.reduceBEq, Bool.false_or, Bool.true_or, iteV_t]
          · refine ⟨_, rfl, ?_⟩
            simp only [push_cast, seval, iteV_t]
            refine (hInv _ _).2 (.inl ⟨fls _ _ _ (by decide) c7, fls _ _ _ (by decide) c8, fls _ _ _ (by decide) c9, fls _ _ _ (by decide) c10, fls _ _ _ (by decide) c11, ?_⟩)
            simp only [List.contains_cons, Nat.reduceBEq, Bool.false_or, Bool.true_or, iteV_t]
          · have hq := hd 6 d7_6
            refine ⟨_, rfl, ?_⟩
            simp only [push_cast, seval, hq, iteV_t]
            refine (hInv _ _).2 (.inr (.inl ⟨tru _ _ _ hq, slf _ _, fls _ _ _ (by decide) c8, fls _ _ _ (by decide) c9, fls _ _ _ (by decide) c10, fls _ _ _ (by decide) c11, ?_⟩))
            simp only [List.contains_cons, Nat.reduceBEq, Bool.false_or, Bool.true_or, hq, iteV_t]
          · exact absurd (hd 7 d8_7) (by rw [c7]; exact Bool.false_ne_true)
          · exact absurd (hd 8 d9_8) (by rw [c8]; exact Bool.false_ne_true)
          · exact absurd (hd 9 d10_9) (by rw [c9]; exact Bool.false_ne_true)
          · exact absurd (hd 10 d11_10) (by rw [c10]; exact Bool.false_ne_true)
        · have hjs : j = 0 ∨ j = 1 ∨ j = 2 ∨ j = 3 ∨ j = 4 ∨ j = 5 ∨ j = 6 ∨ j = 7 ∨ j = 8 ∨ j = 9 ∨ j = 10 ∨ j = 11 := by omega
          rcases hjs with rfl | rfl | rfl | rfl | rfl | rfl | rfl | rfl | rfl | rfl | rfl | rfl
          · refine ⟨_, rfl, ?_⟩
            simp only [push_cast, seval, iteV_t]
            refine (hInv _ _).2 (.inr (.inl ⟨tru _ _ _ c6, tru _ _ _ c7, fls _ _ _ (by decide) c8, fls _ _ _ (by decide) c9, fls _ _ _ (by decide) c10, fls _ _ _ (by decide) c11, ?_⟩))
            simp only [List.contains_cons, Nat.reduceBEq, Bool.false_or, Bool.true_or, iteV_t]
          · refine ⟨_, rfl, ?_⟩
            simp only [push_cast, seval, iteV_t]
            refine (hInv _ _).2 (.inr (.inl ⟨tru _ _ _ c6, tru _ _ _ c7, fls _ _ _ (by decide) c8, fls _ _ _ (by decide) c9, fls _ _ _ (by decide) c10, fls _ _ _ (by decide) c11, ?_⟩))
            simp only [List.contains_cons, Nat.reduceBEq, Bool.false_or, Bool.true_or, iteV_t]
          · have hq := hd 1 d2_1
            refine ⟨_, rfl, ?_⟩
            simp only [push_cast, seval, hq, iteV_t]
            refine (hInv _ _).2 (.inr (.inl ⟨tru _ _ _ c6, tru _ _ _ c7, fls _ _ _ (by decide) c8, fls _ _ _ (by decide) c9, fls _ _ _ (by decide) c10, fls _ _ _ (by decide) c11, ?_⟩))
            simp only [List.contains_cons, Nat.reduceBEq, Bool.false_or, Bool.true_or, hq, iteV_t]
          · have hq := hd 2 d3_2
            refine ⟨_, rfl, ?_⟩
            simp only [push_cast, seval, hq, iteV_t]
            refine (hInv _ _).2 (.inr (.inl ⟨tru _ _ _ c6, tru _ _ _ c7, fls _ _ _ (by decide) c8, fls _ _ _ (by decide) c9, fls _ _ _ (by decide) c10, fls _ _ _ (by decide) c11, ?_⟩))
            simp only [List.contains_cons, Nat.reduceBEq, Bool.false_or, Bool.true_or, hq, iteV_t]
          · have hq := hd 3 d4_3
            refine ⟨_, rfl, ?_⟩
            simp only [push_cast, seval, hq, iteV_t]
            refine (hInv _ _).2 (.inr (.inl ⟨tru _ _ _ c6, tru _ _ _ c7, fls _ _ _ (by decide) c8, fls _ _ _ (by decide) c9, fls _ _ _ (by decide) c10, fls _ _ _ (by decide) c11, ?_⟩))
            simp only [List.contains_cons, Nat.reduceBEq, Bool.false_or, Bool.true_or, hq, iteV_t]
          · refine ⟨_, rfl, ?_⟩
            simp only [push_cast, seval, iteV_t]
            refine (hInv _ _).2 (.inr (.inl ⟨tru _ _ _ c6, tru _ _ _ c7, fls _ _ _ (by decide) c8, fls _ _ _ (by decide) c9, fls _ _ _ (by decide) c10, fls _ _ _ (by decide) c11, ?_⟩))
            simp only [List.contains_cons, Nat.reduceBEq, Bool.false_or, Bool.true_or, iteV_t]
          · exact absurd (c6) (by rw [hjn]; exact Bool.false_ne_true)
          · exact absurd (c7) (by rw [hjn]; exact Bool.false_ne_true)
          · have h4 := hd 4 d8_4
            have h5 := hd 5 d8_5
            have h3 := hdc 4 h4 3 d4_3
            have h2 := hdc 3 h3 2 d3_2
            have h1 := hdc 2 h2 1 d2_1
            have b1 : L.length ≤ 9223372036854775806 := by omega
            have b2 : (L.length + 1 + (L.length + 1) / 4 + 192) * 40 ≤ 281474976710656 := by omega
            have hsn : vR (fils L) ++ [[.v (.string name), .v (.string text), .v (.int .i64 kept)]] = vR (fils (L ++ [⟨name, text, kept⟩])) := by simp [vR, fils, filV]
            have iteF : ∀ v, iteV false v = .x (.one .bad) := fun _ => rfl
            have h0 : done.contains 0 = true ∨ done.contains 0 = false := by cases done.contains 0 <;> simp
            refine ⟨_, rfl, ?_⟩
            rcases h0 with h0 | h0
            all_goals
              refine GoL_inl2 (xs := [.one (.rs (0, 641) [] 3 0 L.length), i64 L.length, .one (.rs (1, 1792) [] 3 0 1)]) 2 Tryz.func57 rfl (by decide) mo (by decide +kernel) rfl (by simp only [push_cast, seval, h4, h5, iteV_t]) (show 1 ≤ 2 by decide) rfl fun K4 hK4 => ?_
              simp only [Tryz.ntmps57, Tryz.results57, push_cast, seval, h0, h1, h2, h3, h4, h5, iteV_t, iteF, fils_length, b1, b2, hsn]
              refine hK4 _ _ _ (Weak.refl _) rfl rfl rfl ?_
              simp only [push_cast, seval, h0, h1, h2, h3, h4, h5, iteV_t, iteF]
              refine (hInv _ _).2 (.inr (.inr (.inl ⟨slf _ _, fls _ _ _ (by decide) c9, fls _ _ _ (by decide) c10, fls _ _ _ (by decide) c11, _, rfl, rfl, ?_, rfl, rfl⟩)))
              simp only [List.contains_cons, Nat.reduceBEq, Bool.false_or, h0, iteV_t, iteF]
              rfl
          · exact absurd (hd 8 d9_8) (by rw [c8]; exact Bool.false_ne_true)
          · exact absurd (hd 9 d10_9) (by rw [c9]; exact Bool.false_ne_true)
          · exact absurd (hd 10 d11_10) (by rw [c10]; exact Bool.false_ne_true)
        · obtain ⟨e1, e2, e3, e4, e5, e6, e7⟩ := a8 done hdc c8
          have hjs : j = 0 ∨ j = 1 ∨ j = 2 ∨ j = 3 ∨ j = 4 ∨ j = 5 ∨ j = 6 ∨ j = 7 ∨ j = 8 ∨ j = 9 ∨ j = 10 ∨ j = 11 := by omega
          rcases hjs with rfl | rfl | rfl | rfl | rfl | rfl | rfl | rfl | rfl | rfl | rfl | rfl
          · refine ⟨_, rfl, ?_⟩
            simp only [push_cast, seval, t1, t2, t3, t4]
            refine (hInv _ _).2 (.inr (.inr (.inl ⟨tru _ _ _ c8, fls _ _ _ (by decide) c9, fls _ _ _ (by decide) c10, fls _ _ _ (by decide) c11, _, by rw [List.length_set]; exact t1, ?_, ?_, ?_, rfl⟩)))
            · rw [getD_set_ne _ _ _ _ (by decide)]; exact t2
            · rw [slf]; exact getD_set_eq _ _ _ _ (by rw [t1]; decide)
            · rw [getD_set_ne _ _ _ _ (by decide)]; exact t4
          · exact absurd (e1) (by rw [hjn]; exact Bool.false_ne_true)
          · exact absurd (e2) (by rw [hjn]; exact Bool.false_ne_true)
          · exact absurd (e3) (by rw [hjn]; exact Bool.false_ne_true)
          · exact absurd (e4) (by rw [hjn]; exact Bool.false_ne_true)
          · exact absurd (e5) (by rw [hjn]; exact Bool.false_ne_true)
          · exact absurd (e6) (by rw [hjn]; exact Bool.false_ne_true)
          · exact absurd (e7) (by rw [hjn]; exact Bool.false_ne_true)
          · exact absurd (c8) (by rw [hjn]; exact Bool.false_ne_true)
          · have h0 := hd 0 d9_0
            rw [h0, iteV_t] at t3
            refine ⟨_, rfl, ?_⟩
            simp only [push_cast, seval, t1, t2, t3, t4]
            refine (hInv _ _).2 (.inr (.inr (.inr (.inl ⟨tru _ _ _ c8, slf _ _, fls _ _ _ (by decide) c10, fls _ _ _ (by decide) c11, _, by rw [List.length_set]; exact t1, ?_, ?_, rfl⟩))))
            · exact getD_set_eq _ _ _ _ (by rw [t1]; decide)
            · rw [getD_set_ne _ _ _ _ (by decide)]; exact t4
          · exact absurd (hd 9 d10_9) (by rw [c9]; exact Bool.false_ne_true)
          · exact absurd (hd 10 d11_10) (by rw [c10]; exact Bool.false_ne_true)
        · obtain ⟨e1, e2, e3, e4, e5, e6, e7⟩ := a8 done hdc c8
          have hjs : j = 0 ∨ j = 1 ∨ j = 2 ∨ j = 3 ∨ j = 4 ∨ j = 5 ∨ j = 6 ∨ j = 7 ∨ j = 8 ∨ j = 9 ∨ j = 10 ∨ j = 11 := by omega
          rcases hjs with rfl | rfl | rfl | rfl | rfl | rfl | rfl | rfl | rfl | rfl | rfl | rfl
          · exact absurd (hdc 9 c9 0 d9_0) (by rw [hjn]; exact Bool.false_ne_true)
          · exact absurd (e1) (by rw [hjn]; exact Bool.false_ne_true)
          · exact absurd (e2) (by rw [hjn]; exact Bool.false_ne_true)
          · exact absurd (e3) (by rw [hjn]; exact Bool.false_ne_true)
          · exact absurd (e4) (by rw [hjn]; exact Bool.false_ne_true)
          · exact absurd (e5) (by rw [hjn]; exact Bool.false_ne_true)
          · exact absurd (e6) (by rw [hjn]; exact Bool.false_ne_true)
          · exact absurd (e7) (by rw [hjn]; exact Bool.false_ne_true)
          · exact absurd (c8) (by rw [hjn]; exact Bool.false_ne_true)
          · exact absurd (c9) (by rw [hjn]; exact Bool.false_ne_true)
          · refine ⟨_, rfl, ?_⟩
            simp only [push_cast, seval, t1, t2, t3]
            refine (hInv _ _).2 (.inr (.inr (.inr (.inr (.inl ⟨tru _ _ _ c8, tru _ _ _ c9, slf _ _, fls _ _ _ (by decide) c11, _, ?_, ?_, rfl⟩)))))
            · exact getD_set_eq _ _ _ _ (by rw [t1]; decide)
            · rw [getD_set_ne _ _ _ _ (by decide)]; exact t3
          · exact absurd (hd 10 d11_10) (by rw [c10]; exact Bool.false_ne_true)
        · obtain ⟨e1, e2, e3, e4, e5, e6, e7⟩ := a8 done hdc c8
          have hjs : j = 0 ∨ j = 1 ∨ j = 2 ∨ j = 3 ∨ j = 4 ∨ j = 5 ∨ j = 6 ∨ j = 7 ∨ j = 8 ∨ j = 9 ∨ j = 10 ∨ j = 11 := by omega
          rcases hjs with rfl | rfl | rfl | rfl | rfl | rfl | rfl | rfl | rfl | rfl | rfl | rfl
          · exact absurd (hdc 9 c9 0 d9_0) (by rw [hjn]; exact Bool.false_ne_true)
          · exact absurd (e1) (by rw [hjn]; exact Bool.false_ne_true)
          · exact absurd (e2) (by rw [hjn]; exact Bool.false_ne_true)
          · exact absurd (e3) (by rw [hjn]; exact Bool.false_ne_true)
          · exact absurd (e4) (by rw [hjn]; exact Bool.false_ne_true)
          · exact absurd (e5) (by rw [hjn]; exact Bool.false_ne_true)
          · exact absurd (e6) (by rw [hjn]; exact Bool.false_ne_true)
          · exact absurd (e7) (by rw [hjn]; exact Bool.false_ne_true)
          · exact absurd (c8) (by rw [hjn]; exact Bool.false_ne_true)
          · exact absurd (c9) (by rw [hjn]; exact Bool.false_ne_true)
          · exact absurd (c10) (by rw [hjn]; exact Bool.false_ne_true)
          · refine ⟨_, rfl, ?_⟩
            simp only [push_cast, seval, t1, t2, putL2, filC]
            refine (hInv _ _).2 (.inr (.inr (.inr (.inr (.inr ⟨slf _ _, _, rfl⟩)))))
        · have c10 := hdc 11 c11 10 d11_10
          have c9 := hdc 10 c10 9 d10_9
          have c8 := hdc 9 c9 8 d9_8
          obtain ⟨e1, e2, e3, e4, e5, e6, e7⟩ := a8 done hdc c8
          have hjs : j = 0 ∨ j = 1 ∨ j = 2 ∨ j = 3 ∨ j = 4 ∨ j = 5 ∨ j = 6 ∨ j = 7 ∨ j = 8 ∨ j = 9 ∨ j = 10 ∨ j = 11 := by omega
          rcases hjs with rfl | rfl | rfl | rfl | rfl | rfl | rfl | rfl | rfl | rfl | rfl | rfl
          · exact absurd (hdc 9 c9 0 d9_0) (by rw [hjn]; exact Bool.false_ne_true)
          · exact absurd (e1) (by rw [hjn]; exact Bool.false_ne_true)
          · exact absurd (e2) (by rw [hjn]; exact Bool.false_ne_true)
          · exact absurd (e3) (by rw [hjn]; exact Bool.false_ne_true)
          · exact absurd (e4) (by rw [hjn]; exact Bool.false_ne_true)
          · exact absurd (e5) (by rw [hjn]; exact Bool.false_ne_true)
          · exact absurd (e6) (by rw [hjn]; exact Bool.false_ne_true)
          · exact absurd (e7) (by rw [hjn]; exact Bool.false_ne_true)
          · exact absurd (c8) (by rw [hjn]; exact Bool.false_ne_true)
          · exact absurd (c9) (by rw [hjn]; exact Bool.false_ne_true)
          · exact absurd (c10) (by rw [hjn]; exact Bool.false_ne_true)
          · exact absurd (c11) (by rw [hjn]; exact Bool.false_ne_true)
      · have h11 := hall 11 (by decide)
        rcases (hInv _ _).1 hinv with ⟨c7, c8, c9, c10, c11, _⟩ | ⟨c6, c7, c8, c9, c10, c11, _⟩ | ⟨c8, c9, c10, c11, _⟩ | ⟨c8, c9, c10, c11, _⟩ | ⟨c8, c9, c10, c11, _⟩ | ⟨c11, T, rfl⟩
        · rw [h11] at c11; cases c11
        · rw [h11] at c11; cases c11
        · rw [h11] at c11; cases c11
        · rw [h11] at c11; cases c11
        · rw [h11] at c11; cases c11
        · exact hfin T
      · refine (hInv _ _).2 (.inl ⟨rfl, rfl, rfl, rfl, rfl, ?_⟩)
        rfl
set_option maxHeartbeats 1000000 in
theorem formatDiskI_ok (l : List Int) (hl : l.length ≤ 140737488355328) : PureFn Tryz.prog 6 [.one (.sh 1 (vR (ints l)))] (fdX l) := by
  refine PureFn_of_GoW Tryz.func6 rfl (by decide) mo (by decide +kernel) ?_
  have k1 := boardNewI_ok
  have k2 := boardTextI_nil
  have k3 := snapTextI_ok (fdS l) hl
  have hz : fineE jnZ.log.es := ⟨Nat.zero_le _, fun e he => by cases he⟩
  have k4 := zero_sub (journalTextI_ok jnZ hz)
  obtain ⟨jb, hjb⟩ := jtX_jT
  rw [hjb] at k4
  have k5 := journalNameI_ok 0
  have k6 := snapNameI_ok 0 (by omega)
  rw [show jnm 0 = nmT 106 0 from rfl] at k5
  simp only [bNew] at k1 k2
  simp only [Snp.enc, fdS] at k3
  simp only [jnC, jnZ] at k4
  simp only [Tryz.ntmps6, Tryz.results6, push_cast, seval]
  refine GoL_call rfl rfl k1 rfl rfl ?_
  simp only [push_cast, seval]
  refine GoL_call rfl rfl k2 rfl rfl ?_
  simp only [push_cast, seval]
  cases c : snF (fdS l) with
  | false =>
    rw [show snX ⟨0, 0, l, bodyB⟩ = [st ⟨#[]⟩, bo false] from by show snX (fdS l) = _; simp only [snX, c, Bool.false_eq_true, if_false]] at k3
    refine GoL_call rfl rfl k3 rfl rfl ?_
    simp only [push_cast, seval]
    refine ⟨_, Weak.nilCell (0, 129) (0, 128) 3 0 rfl rfl rfl rfl, ?_⟩
    simp only [push_cast, seval, List.set, fdX, c]
  | true =>
    rw [show snX ⟨0, 0, l, bodyB⟩ = [st (seB (snI (fdS l))), bo true] from by show snX (fdS l) = _; simp only [snX, c, if_true]] at k3
    refine GoL_call rfl rfl k3 rfl rfl ?_
    simp only [push_cast, seval]
    refine GoL_call rfl rfl k4 rfl rfl ?_
    simp only [push_cast, seval]
    refine GoL_callW rfl rfl k5 rfl rfl (Weak.nilCell (0, 641) (0, 640) 3 0 rfl rfl rfl rfl) ?_
    simp only [push_cast, seval, List.set]
    refine GoL_inl2X [3, 4] 1 Tryz.func21 rfl (by decide) mo (by decide +kernel) rfl rfl (show 0 ≤ 1 by decide) rfl fun K hK => ?_
    refine put_body [] ⟨nmT 106 0, jT, jT.size⟩ (fun x hx => by cases hx) (Nat.zero_le _) K (fun t2 => ?_) rfl
    refine hK _ _ [] (Weak.refl _) rfl rfl rfl ?_
    simp only [push_cast, seval, putL2, putG2, filC, List.nil_append]
    refine GoL_callW (σ2 := ⟨tp 44 [(2, .x (.one (.pt (0, 128) [] 1 0 0))), (6, .x (st (seB (snI (fdS l))))), (10, pt6), (37, .x (st (nmT 115 0)))], 0, [((0, 641), ⟨.sl, 3, vR (fils [⟨nmT 106 0, jT, jT.size⟩])⟩), ((0, 640), ⟨.box, 1, [[.rs (0, 641) [] 3 0 1]]⟩), ((0, 128), ⟨.box, 1, [[nilS]]⟩)], []⟩) rfl rfl k6 rfl rfl ?_ ?_
    · refine Weak.trans (σ' := ⟨tp 44 [(2, .x (.one (.pt (0, 128) [] 1 0 0))), (6, .x (st (seB (snI (fdS l))))), (10, pt6), (37, .x (st (nmT 115 0)))], 0, [((2, 1600), ⟨.sl, 3, vR (fils [⟨nmT 106 0, jT, jT.size⟩])⟩), ((0, 640), ⟨.box, 1, [[.rs (2, 1600) [] 3 0 1]]⟩), ((0, 128), ⟨.box, 1, [[nilS]]⟩)], []⟩) ?_ ?_
      · simp only [push_cast, seval]
        exact Weak.drop (by simp only [push_cast, seval]) (by simp only [push_cast, seval]) (by simp only [push_cast, seval])
      · refine Weak.trans (Weak.rename' (2, 1600) (0, 641) (Nat.zero_le _) (Nat.zero_le _) (by decide) rfl) ?_
        simp only [push_cast, seval, ren_vR']
        exact Weak.refl _
    simp only [push_cast, seval]
    refine GoL_inl2X [3, 4] 1 Tryz.func21 rfl (by decide) mo (by decide +kernel) rfl rfl (show 0 ≤ 1 by decide) rfl fun K hK => ?_
    refine put_body [⟨nmT 106 0, jT, jT.size⟩] ⟨nmT 115 0, seB (snI (fdS l)), (seB (snI (fdS l))).size⟩ (fun x hx => by
      rcases List.mem_cons.1 hx with rfl | hx
      · exact names_lt
      · cases hx) (by decide) K (fun t2 => ?_) rfl
    refine hK _ _ [] (Weak.refl _) rfl rfl rfl ?_
    simp only [push_cast, seval, putL2, putG2, filC]
    refine ⟨_, Weak.refl _, ?_⟩
    simp only [push_cast, seval, fdX, c, fils_length]
    rfl
end Go.Proofs.YtbdjcpalpkijcaaGreatDoor

/- FormatDisk, by the document. -/
namespace Go.Proofs.YtbdjcpalpkijcaaGreatDoor
open Go.RowKit Go.Rx
set_option linter.unusedSimpArgs false
set_option maxRecDepth 100000

set_option maxHeartbeats 1000000 in
theorem formatDiskS_ok (l : List Int) (hl : l.length ≤ 140737488355328) : PureFn Tryz.prog 4 [.one (.sh 1 (vR (ints l)))] (fdX l) := by
  refine PureFn_of_GoW Tryz.func4 rfl (by decide) mo (by decide +kernel) ?_
  have k2 := l20Empty_ok
  have k3 := snapTextS_ok (fdS l) hl
  have hz : fineE jnZ.log.es := ⟨Nat.zero_le _, fun e he => by cases he⟩
  have k4 := zero_sub (journalTextS_ok jnZ hz)
  obtain ⟨jb, hjb⟩ := jtX_jT
  rw [hjb] at k4
  have k5 := journalNameS_ok 0
  have k6 := snapNameS_ok 0
  rw [show jnm 0 = nmT 106 0 from rfl] at k5
  rw [if_pos (by decide)] at k6
  simp only [Snp.enc, fdS] at k3
  simp only [jnC, jnZ] at k4
  simp only [Tryz.ntmps4, Tryz.results4, push_cast, seval]
  refine GoL_call rfl rfl k4 rfl rfl ?_
  simp only [push_cast, seval]
  refine GoL_call rfl rfl k2 rfl rfl ?_
  simp only [push_cast, seval]
  cases c : snF (fdS l) with
  | false =>
    rw [show snX ⟨0, 0, l, bodyB⟩ = [st ⟨#[]⟩, bo false] from by show snX (fdS l) = _; simp only [snX, c, Bool.false_eq_true, if_false]] at k3
    refine GoL_call rfl rfl k3 rfl rfl ?_
    simp only [push_cast, seval]
    refine ⟨_, Weak.nilCell (0, 129) (0, 128) 3 0 rfl rfl rfl rfl, ?_⟩
    simp only [push_cast, seval, List.set, fdX, c]
  | true =>
    rw [show snX ⟨0, 0, l, bodyB⟩ = [st (seB (snI (fdS l))), bo true] from by show snX (fdS l) = _; simp only [snX, c, if_true]] at k3
    refine GoL_call rfl rfl k3 rfl rfl ?_
    simp only [push_cast, seval]
    refine GoL_call rfl rfl k5 rfl rfl ?_
    simp only [push_cast, seval]
    refine GoL_call rfl rfl k6 rfl rfl ?_
    simp only [push_cast, seval]
    refine ⟨_, Weak.refl _, ?_⟩
    simp only [push_cast, seval, fdX, c, fils_length]
    rfl
end Go.Proofs.YtbdjcpalpkijcaaGreatDoor

/- FormatDisk: the law. -/
namespace Go.Proofs.YtbdjcpalpkijcaaGreatDoor
open Go.RowKit Go.Rx
set_option linter.unusedSimpArgs false
set_option maxRecDepth 100000

theorem heldDisk_ok (k n : Nat) (hn : n ≤ 1048576) (hk : 0 < k) (hk2 : k ≤ 1073741824) (e : Nat) (he : e = k + 3 * n) :
    PureFn Tryz.prog 11 [.agg [.sh 3 (vR (fils (marksFile k n)))], i64 k] [i64 e] := by
  refine PureFn_of_Go Tryz.func11 rfl (by decide) mo (by decide +kernel) ?_
  have k1 := heldFileS_ok k n hn hk hk2 e he
  have h0 : ¬ ((e : Int) < 0) := by omega
  simp only [Tryz.ntmps11, Tryz.results11, push_cast, seval]
  refine GoL_call rfl rfl k1 rfl rfl ?_
  simp only [Tryz.ntmps11, Tryz.results11, push_cast, seval, h0]
theorem fdX_form (l : List Int) : ∃ A b, fdX l = [.agg [.own 3 (vR (fils A))], bo b] ∧ A.length ≤ 2 := by
  unfold fdX
  split
  · exact ⟨fdL l, true, rfl, Nat.le_refl 2⟩
  · exact ⟨[], false, rfl, Nat.zero_le _⟩
set_option maxHeartbeats 1000000 in
theorem lawFormatDisk_ok (l : List Int) (hl : l.length ≤ 140737488355328) : PureFn Tryz.prog 3 [.one (.sh 1 (vR (ints l)))] [bo true] := by
  refine PureFn_of_Go Tryz.func3 rfl (by decide) mo (by decide +kernel) ?_
  by_cases c0 : (1048576 : Int) < (l.length : Int)
  · simp only [Tryz.ntmps3, Tryz.results3, push_cast, seval, ints_length, c0]
  have hlen : l.length ≤ 1048576 := by omega
  have k1 := toIntS_ok l hlen
  have kS := formatDiskS_ok l hl
  have kI := formatDiskI_ok l hl
  have kq := eqIntS_ok l hlen
  obtain ⟨e1, he1⟩ : ∃ e1, e1 = 1 + l.length := ⟨_, rfl⟩
  have kM := markIntS_ok l (by omega) 1 (by decide) e1 he1
  have h1 : ¬ ((e1 : Int) < 0) := by omega
  obtain ⟨A, b, hX, hA⟩ := fdX_form l
  rw [hX] at kS kI
  have kE := eqDisk_ok A (by omega)
  obtain ⟨e, he⟩ : ∃ e, e = 1 + 3 * A.length := ⟨_, rfl⟩
  have km := markDisk_ok A (by omega) 1 (by decide) (by decide) e he
  have kh := heldDisk_ok 1 A.length (by omega) (by decide) (by decide) e he
  rw [show ((1 : Nat) : Int) = 1 from rfl] at kM km kh
  have h0 : ¬ ((e : Int) < 0) := by omega
  have ht := fils_take (marksFile 1 A.length)
  rw [marksFile_length] at ht
  simp only [Tryz.ntmps3, Tryz.results3, push_cast, seval, ints_length, c0]
  refine GoL_call rfl rfl k1 (by simp only [push_cast, seval]) rfl ?_
  simp only [Tryz.ntmps3, Tryz.results3, push_cast, seval, ints_length]
  refine GoL_call rfl (by simp only [push_cast, seval, ints_take]) kS (by simp only [push_cast, seval]) rfl ?_
  simp only [Tryz.ntmps3, Tryz.results3, push_cast, seval, fils_length]
  refine GoL_call rfl rfl k1 (by simp only [push_cast, seval]) rfl ?_
  simp only [Tryz.ntmps3, Tryz.results3, push_cast, seval, ints_length]
  refine GoL_call rfl (by simp only [push_cast, seval, ints_take]) kI (by simp only [push_cast, seval]) rfl ?_
  simp only [Tryz.ntmps3, Tryz.results3, push_cast, seval, fils_length]
  refine GoL_call rfl (by simp only [push_cast, seval, fils_take]) kE rfl rfl ?_
  simp only [Tryz.ntmps3, Tryz.results3, push_cast, seval]
  refine GoL_call rfl rfl k1 (by simp only [push_cast, seval]) rfl ?_
  simp only [Tryz.ntmps3, Tryz.results3, push_cast, seval, ints_length]
  refine GoL_call rfl (by simp only [push_cast, seval, ints_take]) kq rfl rfl ?_
  simp only [Tryz.ntmps3, Tryz.results3, push_cast, seval]
  refine GoL_io (0, 1472) .sl 1 (ints l) rfl rfl (by rw [ints_length]; rfl) rfl (.inr rfl) rfl kM rfl rfl ?_
  simp only [Tryz.ntmps3, Tryz.results3, push_cast, seval, ints_length, h1, fils_length]
  refine GoL_call rfl (by simp only [push_cast, seval, fils_take]) kE rfl rfl ?_
  simp only [Tryz.ntmps3, Tryz.results3, push_cast, seval, fils_length]
  refine GoL_io2 (0, 1664) .sl 3 (fils A) rfl rfl (.inr rfl) rfl km rfl rfl ?_
  simp only [Tryz.ntmps3, Tryz.results3, push_cast, seval, fils_length]
  refine GoL_call rfl (by simp only [push_cast, seval, ht]) kh rfl rfl ?_
  simp only [Tryz.ntmps3, Tryz.results3, push_cast, seval, fils_length, h0]
  refine GoL_call rfl rfl k1 (by simp only [push_cast, seval]) rfl ?_
  simp only [Tryz.ntmps3, Tryz.results3, push_cast, seval, ints_length]
  refine GoL_call rfl (by simp only [push_cast, seval, ints_take]) kI (by simp only [push_cast, seval]) rfl ?_
  simp only [Tryz.ntmps3, Tryz.results3, push_cast, seval, fils_length]
  refine GoL_call rfl (by simp only [push_cast, seval, fils_take]) kE rfl rfl ?_
  simp only [Tryz.ntmps3, Tryz.results3, push_cast, seval]
  refine GoL_call rfl (by simp only [push_cast, seval, ht]) kh rfl rfl ?_
  simp only [Tryz.ntmps3, Tryz.results3, push_cast, seval, fils_length, h0]
theorem lawFormatDisk (xs : List X) (h : HasXs [.sl 1 8 (.int .i64)] xs) : PureFn Tryz.prog 3 xs [.one (.v (.bool true))] := by
  obtain ⟨x, _, rfl, ⟨c, rfl, hc⟩, rfl⟩ := h
  simp only [HasKt, reachBytes] at hc
  obtain ⟨R, hR, h1, _, h2⟩ := hc
  cases hR
  obtain ⟨l, rfl⟩ := ints_dec R h2
  rw [vR_length, ints_length] at h1
  exact lawFormatDisk_ok l (by omega)
end Go.Proofs.YtbdjcpalpkijcaaGreatDoor

