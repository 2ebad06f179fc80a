/- Journals' texts, by both ways. -/
import Derived.Test.YtlbmojbkmcpnaaaGreatDoorO4
namespace Go.Proofs.YtlbmojbkmcpnaaaGreatDoor
open Go.RowKit Go.Rx
set_option linter.unusedSimpArgs false
set_option maxRecDepth 100000

def jtB (j : Jn) : ByteArray := (prF 66 j.log.start.toNat j.log.sterm.toNat ++ prF 72 j.term.toNat j.vote.toNat) ++ efT j.log 0 j.log.es.length
def jtOk (j : Jn) : Bool := jokB j && decide ((jtB j).size ≤ 20000)
def jtX (j : Jn) : List X := if jtOk j then [st (jtB j), bo true] else [st ⟨#[]⟩, bo false]
theorem jokB_spec {j : Jn} (h : jokB j = true) : 0 ≤ j.number ∧ j.number ≤ 999 ∧ 0 ≤ j.term ∧ j.term ≤ 100000 ∧ 0 ≤ j.vote ∧ j.vote ≤ 4 ∧ 0 ≤ j.log.sterm ∧ j.log.sterm ≤ 100000 ∧ 0 ≤ j.log.start ∧ j.log.start ≤ 1000000 ∧ logB j.log = true := by
  simp only [jokB, Bool.and_eq_true, inR_spec] at h
  obtain ⟨⟨⟨h1, h2⟩, h3⟩, h4⟩ := h
  have h5 := h4
  simp only [logB, Bool.and_eq_true, inR_spec] at h5
  exact ⟨by omega, by omega, by omega, by omega, by omega, by omega, by omega, by omega, by omega, by omega, h4⟩
theorem journalTextI_ok (j : Jn) (h : fineE j.log.es) : PureFn Tryz.prog 76 [.agg (jnC j (.sh 3 (vR (ents j.log.es))))] (jtX j) := by
  refine PureFn_of_Go Tryz.func76 rfl (by decide) mo (by decide +kernel) ?_
  have k0 := journalOkI_ok j h
  obtain ⟨number, term, vote, start, sterm, es⟩ := j
  simp only [jnC] at k0
  simp only [Tryz.ntmps76, Tryz.results76, push_cast, seval, jnC]
  refine GoL_call rfl rfl k0 rfl rfl ?_
  cases c : jokB ⟨number, term, vote, ⟨start, sterm, es⟩⟩ with
  | false =>
    rw [show jtX ⟨number, term, vote, ⟨start, sterm, es⟩⟩ = [st ⟨#[]⟩, bo false] from by simp only [jtX, jtOk, c, Bool.false_and, Bool.false_eq_true, if_false]]
    simp only [push_cast, seval]
  | true =>
    obtain ⟨a1, a2, a3, a4, a5, a6, a7, a8, a9, a10, a11⟩ := jokB_spec c
    simp only at a1 a2 a3 a4 a5 a6 a7 a8 a9 a10 a11
    have hl := LgF.ofB a11
    have ke := entryFrames_ok ⟨start, sterm, es⟩ hl h 0 (Nat.zero_le _)
    have hes := efT_size hl 0 es.length (by simp)
    have h60 : es.length ≤ 60 := hl.n
    obtain ⟨s0, rfl⟩ := Int.eq_ofNat_of_zero_le a9
    obtain ⟨s1, rfl⟩ := Int.eq_ofNat_of_zero_le a7
    obtain ⟨t0, rfl⟩ := Int.eq_ofNat_of_zero_le a3
    obtain ⟨t1, rfl⟩ := Int.eq_ofNat_of_zero_le a5
    simp only [lgC, Nat.sub_zero] at ke
    rw [show (((0 : Nat) : Int)) = 0 from rfl] at ke
    obtain ⟨z, hz⟩ : ∃ z, z = efT ⟨(s0 : Int), (s1 : Int), es⟩ 0 es.length := ⟨_, rfl⟩
    rw [← hz] at ke hes
    obtain ⟨_, p1⟩ := prB_size 66 (a := s0) (b := s1) (by omega) (by omega)
    have p2 := prF_size 66 (a := s0) (b := s1) (by omega) (by omega)
    have p3 := prF_size 72 (a := t0) (b := t1) (by omega) (by omega)
    have v1 := varB_le 2 s0 (by omega)
    have v2 := varB_le 2 s1 (by omega)
    have e1 : (⟨#[66]⟩ : ByteArray).size = 1 := rfl
    have r1 : (⟨#[66]⟩ : ByteArray).size + (varB s0).size ≤ 9223372036854775807 := by omega
    have r2 : (⟨#[66]⟩ ++ varB s0).size + (varB s1).size ≤ 9223372036854775807 := by rw [ByteArray.size_append]; omega
    have kf := frame_ok (prB 66 s0 s1) (by omega)
    rw [show frameB (prB 66 s0 s1) = prF 66 s0 s1 from rfl] at kf
    have kh := headFrame_ok t0 t1 (by omega) (by omega)
    have hj : jtB ⟨number, (t0 : Int), (t1 : Int), ⟨(s0 : Int), (s1 : Int), es⟩⟩ = (prF 66 s0 s1 ++ prF 72 t0 t1) ++ z := by simp [jtB, hz]
    have hx : jtX ⟨number, (t0 : Int), (t1 : Int), ⟨(s0 : Int), (s1 : Int), es⟩⟩ = if ((((prF 66 s0 s1 ++ prF 72 t0 t1) ++ z).size : Nat) : Int) ≤ 20000 then [st ((prF 66 s0 s1 ++ prF 72 t0 t1) ++ z), bo true] else [st ⟨#[]⟩, bo false] := by
      unfold jtX jtOk
      rw [c, hj, Bool.true_and]
      by_cases q : ((prF 66 s0 s1 ++ prF 72 t0 t1) ++ z).size ≤ 20000
      · rw [if_pos (by simpa using q), if_pos (by omega)]
      · rw [if_neg (by simpa using q), if_neg (by omega)]
    rw [hx]
    obtain ⟨x1, hx1⟩ : ∃ x1, x1 = prF 66 s0 s1 := ⟨_, rfl⟩
    obtain ⟨x2, hx2⟩ : ∃ x2, x2 = prF 72 t0 t1 := ⟨_, rfl⟩
    rw [← hx1] at kf p2 ⊢
    rw [← hx2] at kh p3 ⊢
    have r3 : x1.size + x2.size ≤ 9223372036854775807 := by omega
    have r4 : (x1 ++ x2).size + z.size ≤ 9223372036854775807 := by rw [ByteArray.size_append]; omega
    simp only [push_cast, seval]
    refine GoD_call rfl rfl (varText_ok s0 (by omega)) rfl rfl ?_
    simp only [push_cast, seval, r1]
    refine GoD_call rfl rfl (varText_ok s1 (by omega)) rfl rfl ?_
    simp only [push_cast, seval, r1, r2]
    refine GoD_call rfl rfl kf rfl rfl ?_
    simp only [push_cast, seval]
    refine GoD_call rfl rfl kh rfl rfl ?_
    simp only [push_cast, seval, r3]
    refine GoD_call rfl rfl ke rfl rfl ?_
    obtain ⟨y, hy⟩ : ∃ y, y = (x1 ++ x2) ++ z := ⟨_, rfl⟩
    rw [← hy]
    by_cases q : ((y.size : Nat) : Int) ≤ 20000
    · have q' : ¬ (20000 : Int) < (y.size : Int) := by omega
      simp only [push_cast, seval, r3, r4, ← hy, q, q']
    · have q' : (20000 : Int) < (y.size : Int) := by omega
      simp only [push_cast, seval, r3, r4, ← hy, q, q']
theorem journalTextS_ok (j : Jn) (h : fineE j.log.es) : PureFn Tryz.prog 66 [.agg (jnC j (.sh 3 (vR (ents j.log.es))))] (jtX j) := by
  refine PureFn_of_Go Tryz.func66 rfl (by decide) mo (by decide +kernel) ?_
  have k0 := journalOkS_ok j h
  obtain ⟨number, term, vote, start, sterm, es⟩ := j
  simp only [jnC] at k0
  simp only [Tryz.ntmps66, Tryz.results66, push_cast, seval, jnC]
  refine GoL_call rfl rfl k0 rfl rfl ?_
  cases c : jokB ⟨number, term, vote, ⟨start, sterm, es⟩⟩ with
  | false =>
    rw [show jtX ⟨number, term, vote, ⟨start, sterm, es⟩⟩ = [st ⟨#[]⟩, bo false] from by simp only [jtX, jtOk, c, Bool.false_and, Bool.false_eq_true, if_false]]
    simp only [push_cast, seval]
  | true =>
    obtain ⟨a1, a2, a3, a4, a5, a6, a7, a8, a9, a10, a11⟩ := jokB_spec c
    simp only at a1 a2 a3 a4 a5 a6 a7 a8 a9 a10 a11
    have hl := LgF.ofB a11
    have ke := l07Frames_ok ⟨start, sterm, es⟩ hl h 0 (Nat.zero_le _)
    have hes := efT_size hl 0 es.length (by simp)
    have h60 : es.length ≤ 60 := hl.n
    obtain ⟨s0, rfl⟩ := Int.eq_ofNat_of_zero_le a9
    obtain ⟨s1, rfl⟩ := Int.eq_ofNat_of_zero_le a7
    obtain ⟨t0, rfl⟩ := Int.eq_ofNat_of_zero_le a3
    obtain ⟨t1, rfl⟩ := Int.eq_ofNat_of_zero_le a5
    simp only [lgC, Nat.sub_zero] at ke
    rw [show (((0 : Nat) : Int)) = 0 from rfl] at ke
    obtain ⟨z, hz⟩ : ∃ z, z = efT ⟨(s0 : Int), (s1 : Int), es⟩ 0 es.length := ⟨_, rfl⟩
    rw [← hz] at ke hes
    obtain ⟨_, p1⟩ := prB_size 66 (a := s0) (b := s1) (by omega) (by omega)
    have p2 := prF_size 66 (a := s0) (b := s1) (by omega) (by omega)
    have p3 := prF_size 72 (a := t0) (b := t1) (by omega) (by omega)
    have v1 := varB_le 2 s0 (by omega)
    have v2 := varB_le 2 s1 (by omega)
    have e1 : (⟨#[66]⟩ : ByteArray).size = 1 := rfl
    have r1 : (⟨#[66]⟩ : ByteArray).size + (varB s0).size ≤ 9223372036854775807 := by omega
    have r2 : (⟨#[66]⟩ ++ varB s0).size + (varB s1).size ≤ 9223372036854775807 := by rw [ByteArray.size_append]; omega
    have kf := frameS_ok (prB 66 s0 s1) (by omega)
    rw [prX 66 (by omega) (by omega)] at kf
    have kh := l07Hard_ok t0 t1 (by omega) (by omega)
    have hj : jtB ⟨number, (t0 : Int), (t1 : Int), ⟨(s0 : Int), (s1 : Int), es⟩⟩ = (prF 66 s0 s1 ++ prF 72 t0 t1) ++ z := by simp [jtB, hz]
    have hx : jtX ⟨number, (t0 : Int), (t1 : Int), ⟨(s0 : Int), (s1 : Int), es⟩⟩ = if ((((prF 66 s0 s1 ++ prF 72 t0 t1) ++ z).size : Nat) : Int) ≤ 20000 then [st ((prF 66 s0 s1 ++ prF 72 t0 t1) ++ z), bo true] else [st ⟨#[]⟩, bo false] := by
      unfold jtX jtOk
      rw [c, hj, Bool.true_and]
      by_cases q : ((prF 66 s0 s1 ++ prF 72 t0 t1) ++ z).size ≤ 20000
      · rw [if_pos (by simpa using q), if_pos (by omega)]
      · rw [if_neg (by simpa using q), if_neg (by omega)]
    rw [hx]
    obtain ⟨x1, hx1⟩ : ∃ x1, x1 = prF 66 s0 s1 := ⟨_, rfl⟩
    obtain ⟨x2, hx2⟩ : ∃ x2, x2 = prF 72 t0 t1 := ⟨_, rfl⟩
    rw [← hx1] at kf p2 ⊢
    rw [← hx2] at kh p3 ⊢
    have r3 : x1.size + x2.size ≤ 9223372036854775807 := by omega
    have r4 : (x1 ++ x2).size + z.size ≤ 9223372036854775807 := by rw [ByteArray.size_append]; omega
    simp only [push_cast, seval]
    refine GoD_call rfl rfl (l01Var_ok s0 (by omega)) rfl rfl ?_
    simp only [push_cast, seval, r1]
    refine GoD_call rfl rfl (l01Var_ok s1 (by omega)) rfl rfl ?_
    simp only [push_cast, seval, r1, r2]
    refine GoD_call rfl rfl kf rfl rfl ?_
    simp only [push_cast, seval]
    refine GoD_call rfl rfl kh rfl rfl ?_
    simp only [push_cast, seval, r3]
    refine GoD_call rfl rfl ke rfl rfl ?_
    obtain ⟨y, hy⟩ : ∃ y, y = (x1 ++ x2) ++ z := ⟨_, rfl⟩
    rw [← hy]
    by_cases q : ((y.size : Nat) : Int) ≤ 20000
    · have q' : ¬ (20000 : Int) < (y.size : Int) := by omega
      simp only [push_cast, seval, r3, r4, ← hy, q, q']
    · have q' : (20000 : Int) < (y.size : Int) := by omega
      simp only [push_cast, seval, r3, r4, ← hy, q, q']
end Go.Proofs.YtlbmojbkmcpnaaaGreatDoor

