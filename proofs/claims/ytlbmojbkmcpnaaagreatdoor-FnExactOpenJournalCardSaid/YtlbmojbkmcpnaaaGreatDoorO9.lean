/- A journal written anew, by both ways. -/
import Derived.Test.YtlbmojbkmcpnaaaGreatDoorO8
namespace Go.Proofs.YtlbmojbkmcpnaaaGreatDoor
open Go.RowKit Go.Rx
set_option linter.unusedSimpArgs false
set_option maxRecDepth 100000

def wrA (j : Jn) (old : ByteArray) : List Acd := [⟨1, jsPlus, jtB j, ⟨#[]⟩⟩, ⟨2, jsPlus, ⟨#[]⟩, ⟨#[]⟩⟩, ⟨3, jsPlus, ⟨#[]⟩, jnm j.number⟩, ⟨4, old, ⟨#[]⟩, ⟨#[]⟩⟩]
theorem jnm_ne {n : Int} (h : inR n 0 999 = true) : jnm n ≠ ⟨#[]⟩ := fun e => by
  have h1 : jnm n = nmT 106 n.toNat := by unfold jnm; rw [if_pos h]
  rw [h1] at e
  have : (nmT 106 n.toNat).size = 0 := by rw [e]; rfl
  unfold nmT at this
  rw [ByteArray.size_append] at this
  have e2 : (ltr1 106).size = 1 := rfl
  omega
theorem jtX_true {j : Jn} (h : jtOk j = true) : jtX j = [st (jtB j), bo true] := by simp only [jtX, h, if_true]
theorem jtX_false {j : Jn} (h : jtOk j = false) : jtX j = [st ⟨#[]⟩, bo false] := by simp only [jtX, h, Bool.false_eq_true, if_false]
theorem rewrite_ok (j : Jn) (h : fineE j.log.es) (old : ByteArray) : PureFn Tryz.prog 36 [.agg (jnC j (.sh 3 (vR (ents j.log.es)))), st old] [.one (.own 4 (vR (acds (if jtOk j then wrA j old else [])))), bo (jtOk j)] := by
  refine PureFn_of_GoW Tryz.func36 rfl (by decide) mo (by decide +kernel) ?_
  have k1 := journalNameI_ok j.number
  have k2 := journalTextI_ok j h
  have hp : (⟨#[106, 43]⟩ : ByteArray) = jsPlus := rfl
  cases c : jtOk j with
  | false =>
    rw [jtX_false c] at k2
    obtain ⟨number, term, vote, start, sterm, es⟩ := j
    simp only [jnC] at k2 k1
    rw [if_neg Bool.false_ne_true, show vR (acds []) = [] from rfl]
    simp only [Tryz.ntmps36, Tryz.results36, push_cast, seval, jnC]
    refine GoL_call rfl rfl k1 rfl rfl ?_
    simp only [push_cast, seval]
    refine GoL_call rfl rfl k2 rfl rfl ?_
    by_cases e : jnm number = ⟨#[]⟩
    · simp only [push_cast, seval, e]
      refine ⟨_, Weak.nilRoot (0, 256) 4 4 rfl rfl rfl, ?_⟩
      simp only [Tryz.ntmps36, Tryz.results36, push_cast, seval, List.set]
    · simp only [push_cast, seval, e]
      refine ⟨_, Weak.nilRoot (0, 256) 4 4 rfl rfl rfl, ?_⟩
      simp only [Tryz.ntmps36, Tryz.results36, push_cast, seval, List.set]
  | true =>
    rw [jtX_true c] at k2
    have hj : jokB j = true := by simp only [jtOk, Bool.and_eq_true] at c; exact c.1
    have hn := jokB_spec hj
    have hne := jnm_ne (n := j.number) (inR_spec.2 ⟨hn.1, hn.2.1⟩)
    rw [if_pos rfl]
    have hw : vR (acds (wrA j old)) = [[.v (.int .i64 1), .v (.string jsPlus), .v (.string (jtB j)), .v (.string ⟨#[]⟩)], [.v (.int .i64 2), .v (.string jsPlus), .v (.string ⟨#[]⟩), .v (.string ⟨#[]⟩)], [.v (.int .i64 3), .v (.string jsPlus), .v (.string ⟨#[]⟩), .v (.string (jnm j.number))], [.v (.int .i64 4), .v (.string old), .v (.string ⟨#[]⟩), .v (.string ⟨#[]⟩)]] := rfl
    rw [hw]
    obtain ⟨t, ht⟩ : ∃ t, t = jtB j := ⟨_, rfl⟩
    rw [← ht] at k2 ⊢
    obtain ⟨number, term, vote, start, sterm, es⟩ := j
    simp only [jnC] at k2 k1 hne ⊢
    simp only [Tryz.ntmps36, Tryz.results36, push_cast, seval, jnC]
    refine GoL_call rfl rfl k1 rfl rfl ?_
    simp only [push_cast, seval]
    refine GoL_call rfl rfl k2 rfl rfl ?_
    simp only [push_cast, seval, hne, hp]
    refine ⟨_, Weak.refl _, ?_⟩
    simp only [push_cast, seval]
theorem l07Copy_ok (j : Jn) (h : fineE j.log.es) : PureFn Tryz.prog 28 [.agg (jnC j (.sh 3 (vR (ents j.log.es))))] [.agg (jnC j (.own 3 (vR (ents j.log.es))))] := by
  refine PureFn_of_Go Tryz.func28 rfl (by decide) mo (by decide +kernel) ?_
  obtain ⟨number, term, vote, start, sterm, es⟩ := j
  have a0 : es.length ≤ 4294967296 := by have := h.1; simp only at this; omega
  have a1 := max_len a0
  have a2 := room_le (b := 32) a0 (by decide)
  have ht := ents_take es
  have hl := ents_length es
  have hf := ents_flat es
  simp only [Tryz.ntmps28, Tryz.results28, push_cast, seval, jnC, hl, a1, a2, ht, hf, List.nil_append, Nat.zero_add]
theorem l07Anew_ok (old j : Jn) (h : fineE j.log.es) (hn : 0 ≤ old.number) (hn2 : old.number ≤ 999) (f : C) (hf : f = .sh 3 (vR (ents old.log.es))) :
    PureFn Tryz.prog 29 [.agg (jnC old f), .agg (jnC j (.sh 3 (vR (ents j.log.es))))]
      (if jtOk { j with number := old.number + 1 } then [.one (.own 4 (vR (acds (wrA { j with number := old.number + 1 } (jnm old.number))))), .agg (jnC { j with number := old.number + 1 } (.own 3 (vR (ents j.log.es)))), bo true] else [.one (.own 4 []), .agg (jnC jnZ (.own 3 [])), bo false]) := by
  refine PureFn_of_GoW Tryz.func29 rfl (by decide) mo (by decide +kernel) ?_
  subst hf
  obtain ⟨onum, oterm, ovote, ostart, osterm, oes⟩ := old
  obtain ⟨number, term, vote, start, sterm, es⟩ := j
  simp only at hn hn2 h ⊢
  have hw : IntKind.i64.wrap (onum + 1) = onum + 1 := w64 (by omega) (by omega)
  have hp : (⟨#[106, 43]⟩ : ByteArray) = jsPlus := rfl
  obtain ⟨nx, hnx⟩ : ∃ nx : Jn, nx = ⟨onum + 1, term, vote, ⟨start, sterm, es⟩⟩ := ⟨_, rfl⟩
  have k1 := journalTextS_ok ⟨onum + 1, term, vote, ⟨start, sterm, es⟩⟩ h
  have k2 := journalNameS_ok (onum + 1)
  have k3 := journalNameS_ok onum
  have k4 := l07Copy_ok ⟨onum + 1, term, vote, ⟨start, sterm, es⟩⟩ h
  cases c : jtOk ⟨onum + 1, term, vote, ⟨start, sterm, es⟩⟩ with
  | false =>
    rw [jtX_false c] at k1
    simp only [jnC] at k1
    rw [if_neg Bool.false_ne_true]
    simp only [Tryz.ntmps29, Tryz.results29, push_cast, seval, jnC, hw]
    refine GoL_call rfl rfl k1 rfl rfl ?_
    simp only [push_cast, seval]
    refine ⟨_, Weak.nilCell (0, 321) (0, 320) 3 5 rfl rfl rfl rfl, ?_⟩
    simp only [push_cast, seval, List.set, jnZ]
  | true =>
    rw [jtX_true c] at k1
    rw [if_pos rfl]
    have hwr : vR (acds (wrA ⟨onum + 1, term, vote, ⟨start, sterm, es⟩⟩ (jnm onum))) = [[.v (.int .i64 1), .v (.string jsPlus), .v (.string (jtB ⟨onum + 1, term, vote, ⟨start, sterm, es⟩⟩)), .v (.string ⟨#[]⟩)], [.v (.int .i64 2), .v (.string jsPlus), .v (.string ⟨#[]⟩), .v (.string ⟨#[]⟩)], [.v (.int .i64 3), .v (.string jsPlus), .v (.string ⟨#[]⟩), .v (.string (jnm (onum + 1)))], [.v (.int .i64 4), .v (.string (jnm onum)), .v (.string ⟨#[]⟩), .v (.string ⟨#[]⟩)]] := rfl
    rw [hwr]
    obtain ⟨t, ht⟩ : ∃ t, t = jtB ⟨onum + 1, term, vote, ⟨start, sterm, es⟩⟩ := ⟨_, rfl⟩
    rw [← ht] at k1 ⊢
    simp only [jnC] at k1 k4 ⊢
    simp only [Tryz.ntmps29, Tryz.results29, push_cast, seval, jnC, hw]
    refine GoL_call rfl rfl k1 rfl rfl ?_
    simp only [push_cast, seval, hp]
    refine GoD_call rfl rfl k2 rfl rfl ?_
    simp only [push_cast, seval, hp]
    refine GoD_call rfl rfl k3 rfl rfl ?_
    simp only [push_cast, seval, hp]
    refine GoD_call rfl rfl k4 (by simp only [push_cast, seval]) rfl ?_
    simp only [push_cast, seval, hp, ents_length]
    refine ⟨_, Weak.refl _, ?_⟩
    simp only [push_cast, seval, ents_length]
end Go.Proofs.YtlbmojbkmcpnaaaGreatDoor

