/- Journals: the document's reader. -/
import Derived.Test.YtlbmojbkmcpnaaaGreatDoorJ6
namespace Go.Proofs.YtlbmojbkmcpnaaaGreatDoor
open Go.RowKit Go.Rx
set_option linter.unusedSimpArgs false
set_option maxRecDepth 100000

def endAt (F : List (ByteArray × Nat)) : Nat → Nat
  | 0 => 0
  | i + 1 => (F.getD i default).2
theorem frL_ends {s : ByteArray} : ∀ (k a i : Nat), i < (frL s k a).length → okLen ((frL s k a).getD i default).1 = true ∧
    ((frL s k a).getD i default).2 = (match i with | 0 => a | j + 1 => ((frL s k a).getD j default).2) + (frameB ((frL s k a).getD i default).1).size
  | 0, _, i, h => by simp [frL] at h
  | k + 1, a, i, h => by
    rw [frL] at h ⊢
    cases hf : frO s a with
    | none => rw [hf] at h; simp at h
    | some q =>
      obtain ⟨t, x⟩ := q
      rw [hf] at h
      have hz := frO_size hf
      cases i with
      | zero => exact ⟨hz.2.2, hz.2.1⟩
      | succ i =>
        have ih := frL_ends k x i (by simpa using h)
        refine ⟨ih.1, ?_⟩
        have h2 := ih.2
        cases i with
        | zero => exact h2
        | succ i => exact h2
theorem frs_ends {s : ByteArray} {i : Nat} (h : i < (frs s).length) : okLen ((frs s).getD i default).1 = true ∧ endAt (frs s) (i + 1) = endAt (frs s) i + (frameB ((frs s).getD i default).1).size := by
  unfold frs at h ⊢
  split at h
  · rename_i hs
    rw [if_pos hs]
    have := frL_ends _ _ i h
    refine ⟨this.1, ?_⟩
    cases i with
    | zero => exact this.2
    | succ i => exact this.2
  · simp at h

theorem frL_le {s : ByteArray} : ∀ (k a : Nat), ∀ p ∈ frL s k a, p.2 ≤ s.size
  | 0, _, p, h => by cases h
  | k + 1, a, p, h => by
    rw [frL] at h
    cases hf : frO s a with
    | none => rw [hf] at h; cases h
    | some q =>
      obtain ⟨t, x⟩ := q
      rw [hf] at h
      rcases List.mem_cons.1 h with rfl | h
      · exact (frO_bound hf).2
      · exact frL_le k x p h
theorem frs_le {s : ByteArray} : ∀ p ∈ frs s, p.2 ≤ s.size := by
  intro p h
  unfold frs at h
  split at h
  · exact frL_le _ _ p h
  · cases h

set_option maxHeartbeats 2000000 in
theorem readJournalS_ok (n : Int) (s : ByteArray) (hs : s.size ≤ 140737488355328) : PureFn Tryz.prog 26 [i64 n, st s] (rjX (rjO n s)) := by
  refine PureFn_of_GoW Tryz.func26 rfl (by decide) mo (by decide +kernel) ?_
  have k0 := unframeS_ok s hs
  have hFl := frs_len s
  have hFs := frs_sizes (s := s)
  have hFx := frs_le (s := s)
  have hFe := fun i (h : i < (frs s).length) => frs_ends h
  rw [unfT] at k0
  have k1 := l01In_ok n 0 999
  rw [show (decide ((0 : Int) ≤ n) && decide (n ≤ 999)) = inR n 0 999 from rfl] at k1
  have hO : rjO n s = if inR n 0 999 then match frs s with
    | [] => none
    | (t, x) :: r => if pairB t mkB' && logB ⟨eN1 t, eN2 t, []⟩ then some (tellL ⟨n, 0, 0, ⟨eN1 t, eN2 t, []⟩⟩ x r) else none
  else none := rfl
  generalize frs s = F at k0 hFl hFs hO hFe hFx
  simp only [Tryz.ntmps26, Tryz.results26, push_cast, seval]
  refine GoL_call rfl rfl k0 (by simp only [push_cast, seval]) rfl ?_
  simp only [Tryz.ntmps26, Tryz.results26, push_cast, seval, frTs_length, frEs_length]
  refine GoL_call rfl rfl k1 rfl rfl ?_
  cases c1 : inR n 0 999 with
  | false =>
    rw [hO, c1]
    simp only [Tryz.ntmps26, Tryz.results26, push_cast, seval, Bool.false_eq_true, rjX]
    refine ⟨_, Weak.nilCell (0, 257) (0, 256) 3 5 rfl rfl rfl rfl, ?_⟩
    simp only [Tryz.ntmps26, Tryz.results26, push_cast, seval, jnC, jnZ, List.set, show vR (ents []) = [] from rfl]
  | true =>
    rw [c1, if_pos rfl] at hO
    cases F with
    | nil =>
      rw [hO]
      simp only [Tryz.ntmps26, Tryz.results26, push_cast, seval, frTs_length, Int.ofNat_zero, rjX]
      refine ⟨_, Weak.nilCell (0, 257) (0, 256) 3 5 rfl rfl rfl rfl, ?_⟩
      simp only [Tryz.ntmps26, Tryz.results26, push_cast, seval, jnC, jnZ, List.set, show vR (ents []) = [] from rfl]
    | cons p r =>
      obtain ⟨t0, x0⟩ := p
      simp only at hO
      have ht0 : t0.size ≤ 140737488355328 := Nat.le_trans (hFs (t0, x0) (List.mem_cons_self ..)) hs
      have k2 := two_ok t0 mkB' ht0 rfl
      have hlen : ((t0, x0) :: r).length = r.length + 1 := rfl
      have hg0 : (strs (frTs ((t0, x0) :: r))).getD 0 [] = [.string t0] := rfl
      have h00 : ¬ ((r.length : Int) + 1 = 0) := by omega
      have h01 : (0 : Int) < (r.length : Int) + 1 := by omega
      have h02 : 0 < r.length + 1 := by omega
      simp only [Tryz.ntmps26, Tryz.results26, push_cast, seval, frTs_length, h00, h01, h02, vR_getD, hg0]
      cases c2 : pairB t0 mkB' with
      | false =>
        rw [pairX, c2, if_neg Bool.false_ne_true] at k2
        refine GoL_call rfl rfl k2 rfl rfl ?_
        rw [hO, c2]
        simp only [Tryz.ntmps26, Tryz.results26, push_cast, seval, Bool.false_eq_true, rjX]
        refine ⟨_, Weak.nilCell (0, 257) (0, 256) 3 5 rfl rfl rfl rfl, ?_⟩
        simp only [Tryz.ntmps26, Tryz.results26, push_cast, seval, jnC, jnZ, List.set, show vR (ents []) = [] from rfl]
      | true =>
        rw [pairX, c2, if_pos rfl] at k2
        have k3 := logOkS_nil (eN1 t0) (eN2 t0)
        rw [c2, Bool.true_and] at hO
        refine GoL_call rfl rfl k2 rfl rfl ?_
        simp only [Tryz.ntmps26, Tryz.results26, push_cast, seval]
        refine GoL_call rfl rfl k3 rfl rfl ?_
        cases c3 : logB ⟨eN1 t0, eN2 t0, []⟩ with
        | false =>
          rw [hO, c3]
          simp only [Tryz.ntmps26, Tryz.results26, push_cast, seval, Bool.false_eq_true, rjX]
          refine ⟨_, Weak.nilCell (0, 257) (0, 256) 3 5 rfl rfl rfl rfl, ?_⟩
          simp only [Tryz.ntmps26, Tryz.results26, push_cast, seval, jnC, jnZ, List.set, show vR (ents []) = [] from rfl]
        | true =>
          rw [c3, if_pos rfl] at hO
          rw [hO]
          simp only [Tryz.ntmps26, Tryz.results26, push_cast, seval, frEs_length, frTs_length, h01, h02, vR_getD]
          have hrl : r.length < 20000 := by rw [hlen] at hFl; omega
          obtain ⟨jf, hjf⟩ : ∃ jf, jf = tellL ⟨n, 0, 0, ⟨eN1 t0, eN2 t0, []⟩⟩ x0 r := ⟨_, rfl⟩
          rw [← hjf]
          refine Go_loop (α := {q : Nat × Jn × Nat // q.1 ≤ r.length + 1 ∧ fineE q.2.1.log.es ∧ q.2.2 = endAt ((t0, x0) :: r) q.1 ∧ (q.1 = 0 → q.2.1 = ⟨n, 0, 0, ⟨eN1 t0, eN2 t0, []⟩⟩) ∧ (0 < q.1 → tellL q.2.1 q.2.2 (((t0, x0) :: r).drop q.1) = jf)})
            (fun q => ⟨tp 85 [(4, .x (.one (.pt (0, 256) [] 6 0 0))), (7, .x (.one (.rs (0, 1216) [] 1 0 (r.length + 1)))), (12, .x (.one (.pt (0, 768) [] 6 0 0))), (13, .x (i64 q.1.2.2)), (14, int q.1.1)], 0,
              [((0, 769), ⟨.sl, 3, vR (ents q.1.2.1.log.es)⟩), ((0, 768), ⟨.box, 6, [jnC q.1.2.1 (.rs (0, 769) [] 3 0 q.1.2.1.log.es.length)]⟩), ((0, 1216), ⟨.sl, 1, vR (strs (frTs ((t0, x0) :: r)))⟩),
                ((0, 256), ⟨.box, 6, [[.v (.int .i64 0), .v (.int .i64 0), .v (.int .i64 0), .v (.int .i64 0), .v (.int .i64 0), .v (.slice none 0 0)]]⟩)], []⟩)
            (fun q => r.length + 1 - q.1.1) ⟨(0, ⟨n, 0, 0, ⟨eN1 t0, eN2 t0, []⟩⟩, 0), Nat.zero_le _, ⟨Nat.zero_le _, fun e he => by cases he⟩, rfl, fun _ => rfl, fun h => absurd h (Nat.lt_irrefl 0)⟩ ?_ ?_
          · refine Weak.trans (Weak.nilCell (0, 769) (0, 768) 3 5 rfl rfl rfl rfl) ?_
            rw [show vR (ents []) = [] from rfl]
            simp only [push_cast, seval, jnC, Int.ofNat_zero, List.set]
            exact Weak.same (by simp only [push_cast, seval])
          · rintro ⟨⟨i, j, e⟩, hi, hfe, he, h0, hinv⟩ X hX
            simp only at hi hfe he h0 hinv
            have hel := ents_length j.log.es
            have htk := ents_take j.log.es
            by_cases hlt : (i : Int) < (r.length : Int) + 1
            · have hi' : i < r.length + 1 := by omega
              have hg := frTs_getD (l := (t0, x0) :: r) (i := i) (by rw [hlen]; omega)
              have hmem : ((t0, x0) :: r).getD i default ∈ (t0, x0) :: r := by
                rw [List.getD_eq_getElem?_getD, List.getElem?_eq_getElem (by rw [hlen]; exact hi')]
                exact List.getElem_mem _
              have hsz := Nat.le_trans (hFs _ hmem) hs
              obtain ⟨i1, hi1⟩ : ∃ i1, i1 = i + 1 := ⟨_, rfl⟩
              have hwi : IntKind.i64.wrap ((i : Int) + 1) = (i1 : Int) := wN (by omega) (by omega)
              have hfe1 := hFe i (by rw [hlen]; exact hi')
              rw [← hi1] at hfe1
              have hex : endAt ((t0, x0) :: r) i1 = (((t0, x0) :: r).getD i default).2 := by rw [hi1]; rfl
              have hdr := drop_getD (l := (t0, x0) :: r) (i := i) (by rw [hlen]; exact hi')
              rw [← hi1] at hdr
              rw [hdr] at hinv
              have h10 : i = 0 → ((t0, x0) :: r).drop i1 = r ∧ ((t0, x0) :: r).getD i default = (t0, x0) := fun h => by rw [hi1, h]; exact ⟨rfl, rfl⟩
              generalize hD1 : ((t0, x0) :: r).drop i1 = D at hinv h10
              generalize ((t0, x0) :: r).getD i default = tx at hg hmem hsz hinv hfe1 hex h10
              obtain ⟨t, x⟩ := tx
              simp only at hg hsz hfe1 hex
              have hxb : x ≤ s.size := hFx _ hmem
              have hwe : IntKind.i64.wrap ((e : Int) + ((frameB t).size : Int)) = (x : Int) := wN (by omega) (by omega)
              have kF := frameS_ok t hsz
              rw [frameX, hfe1.1, if_pos rfl] at kF
              rcases Nat.eq_zero_or_pos i with hi0 | hi0
              · obtain ⟨hD, htx⟩ := h10 hi0
                obtain ⟨rfl, rfl⟩ := Prod.mk.inj htx
                have hj0 := h0 hi0
                have hn0 : ¬ (0 : Int) < (i : Int) := by omega
                simp only [Tryz.ntmps26, Tryz.results26, push_cast, seval, frTs_length, hlt, hn0, hi', vR_getD, hg]
                refine GoL_call rfl rfl kF rfl rfl ?_
                simp only [Tryz.ntmps26, Tryz.results26, push_cast, seval, jnC, frTs_length, vR_length, Nat.le_refl, hwe, hwi, hel, htk]
                refine ⟨_, ?_, hX ⟨(i1, j, x), by simp only; omega, hfe, hex.symm, fun h => absurd h (by simp only; omega), fun _ => by show tellL _ _ (List.drop i1 _) = jf; rw [hD1, hD, hjf, hj0]⟩ (by simp only; omega)⟩
                exact Weak.same (by simp only [push_cast, seval, jnC])
              · have hp0 : (0 : Int) < (i : Int) := by omega
                have hinv := hinv hi0
                have hstop : moreO j t = none → jf = (j, e) := fun h => by rw [← hinv, tellL, h]
                have hgo : ∀ j', moreO j t = some j' → tellL j' x D = jf := fun j' h => by rw [← hinv, tellL, h]
                simp only [Tryz.ntmps26, Tryz.results26, push_cast, seval, frTs_length, hlt, hp0, hi', vR_getD, hg]
                refine GoL_inl2 1 Tryz.func64 rfl (by decide) mo (by decide +kernel) rfl rfl (show 0 ≤ 1 by decide) rfl fun K hK => ?_
                have kp := two_ok t mkH hsz rfl
                simp only [Tryz.ntmps64, Tryz.results64, push_cast, seval]
                cases p1 : pairB t mkH with
                | true =>
                  rw [pairX, p1, if_pos rfl] at kp
                  have kt := l01In_ok (eN1 t) 0 100000
                  have kv := l01In_ok (eN2 t) 0 4
                  rw [show (decide ((0 : Int) ≤ (eN1 t : Int)) && decide ((eN1 t : Int) ≤ 100000)) = inR (eN1 t) 0 100000 from rfl] at kt
                  rw [show (decide ((0 : Int) ≤ (eN2 t : Int)) && decide ((eN2 t : Int) ≤ 4)) = inR (eN2 t) 0 4 from rfl] at kv
                  refine GoL_call rfl rfl kp rfl rfl ?_
                  simp only [Tryz.ntmps64, Tryz.results64, push_cast, seval]
                  refine GoL_call rfl rfl kt rfl rfl ?_
                  cases p2 : inR (eN1 t) 0 100000 with
                  | false =>
                    simp only [Tryz.ntmps64, Tryz.results64, push_cast, seval]
                    refine hK _ _ _ (Weak.refl _) rfl rfl rfl ?_
                    rw [hstop (by simp [moreO, p1, p2])]
                    simp only [Tryz.ntmps26, Tryz.results26, push_cast, seval, jnC, frTs_length, Nat.le_refl, hel]
                    refine ⟨_, Weak.refl _, ?_⟩
                    simp only [Tryz.ntmps26, Tryz.results26, push_cast, seval, rjX, jnC, htk, hel]
                  | true =>
                    simp only [Tryz.ntmps64, Tryz.results64, push_cast, seval]
                    refine GoL_call rfl rfl kv rfl rfl ?_
                    cases p3 : inR (eN2 t) 0 4 with
                    | false =>
                      simp only [Tryz.ntmps64, Tryz.results64, push_cast, seval]
                      refine hK _ _ _ (Weak.refl _) rfl rfl rfl ?_
                      rw [hstop (by simp [moreO, p1, p2, p3])]
                      simp only [Tryz.ntmps26, Tryz.results26, push_cast, seval, jnC, frTs_length, Nat.le_refl, hel]
                      refine ⟨_, Weak.refl _, ?_⟩
                      simp only [Tryz.ntmps26, Tryz.results26, push_cast, seval, rjX, jnC, htk, hel]
                    | true =>
                      have hm : moreO j t = some ⟨j.number, eN1 t, eN2 t, j.log⟩ := by simp [moreO, p1, p2, p3]
                      simp only [Tryz.ntmps64, Tryz.results64, push_cast, seval, jnC]
                      refine hK _ _ _ (Weak.refl _) rfl rfl rfl ?_
                      simp only [Tryz.ntmps26, Tryz.results26, push_cast, seval, jnC, frTs_length, vR_length, Nat.le_refl, hlt, hi', vR_getD, hg, hel, htk]
                      refine GoL_call rfl rfl kF rfl rfl ?_
                      simp only [Tryz.ntmps26, Tryz.results26, push_cast, seval, jnC, frTs_length, vR_length, Nat.le_refl, hwe, hwi, hel, htk]
                      refine ⟨_, ?_, hX ⟨(i1, ⟨j.number, eN1 t, eN2 t, j.log⟩, x), by simp only; omega, hfe, hex.symm, fun h => absurd h (by simp only; omega), fun _ => by show tellL _ _ (List.drop i1 _) = jf; rw [hD1]; exact hgo _ hm⟩ (by simp only; omega)⟩
                      exact Weak.same (by simp only [push_cast, seval, jnC])
                | false =>
                  rw [pairX, p1, if_neg Bool.false_ne_true] at kp
                  have kr := readEntryS_ok t hsz
                  have hNP : moreO j t = (if eOk t then (if putB j.log (eN1 t) (entOf t) then some ⟨j.number, j.term, j.vote, putL j.log (eN1 t) (entOf t)⟩ else none) else none) := by simp only [moreO, p1, Bool.false_eq_true, if_false]
                  refine GoL_call rfl rfl kp rfl rfl ?_
                  simp only [Tryz.ntmps64, Tryz.results64, push_cast, seval]
                  cases q1 : eOk t with
                  | false =>
                    rw [eX_false q1] at kr
                    refine GoL_call rfl rfl kr rfl rfl ?_
                    simp only [Tryz.ntmps64, Tryz.results64, push_cast, seval, entC]
                    refine hK _ _ _ (Weak.refl _) rfl rfl rfl ?_
                    rw [hstop (by rw [hNP, q1]; rfl)]
                    simp only [Tryz.ntmps26, Tryz.results26, push_cast, seval, jnC, frTs_length, Nat.le_refl, hel]
                    refine ⟨_, Weak.refl _, ?_⟩
                    simp only [Tryz.ntmps26, Tryz.results26, push_cast, seval, rjX, jnC, htk, hel]
                  | true =>
                    rw [eX_true q1] at kr
                    refine GoL_call rfl rfl kr rfl rfl ?_
                    have kq := logPutS_ok j.log hfe (eN1 t) (entOf t) (Nat.le_trans (eD_size t) hsz)
                    simp only [Tryz.ntmps64, Tryz.results64, push_cast, seval, entC, jnC, htk, hel]
                    cases q2 : putB j.log (eN1 t) (entOf t) with
                    | false =>
                      rw [putX, q2, if_neg Bool.false_ne_true] at kq
                      simp only [entOf, lgC, entC, lgZ] at kq
                      refine GoD_call rfl (by simp only [push_cast, seval, htk, hel]) kq rfl rfl ?_
                      simp only [Tryz.ntmps64, Tryz.results64, push_cast, seval]
                      refine hK _ _ _ (Weak.refl _) rfl rfl rfl ?_
                      rw [hstop (by rw [hNP, q1, q2]; rfl)]
                      simp only [Tryz.ntmps26, Tryz.results26, push_cast, seval, jnC, frTs_length, Nat.le_refl, hel]
                      refine ⟨_, Weak.refl _, ?_⟩
                      simp only [Tryz.ntmps26, Tryz.results26, push_cast, seval, rjX, jnC, htk, hel]
                    | true =>
                      rw [putX, q2, if_pos rfl] at kq
                      have hm : moreO j t = some ⟨j.number, j.term, j.vote, putL j.log (eN1 t) (entOf t)⟩ := by rw [hNP, q1, q2]; rfl
                      have hf2 := fine_more hfe hsz hm
                      generalize putL j.log (eN1 t) (entOf t) = l' at kq hm hf2
                      simp only [entOf, lgC, entC] at kq
                      have hel' := ents_length l'.es
                      refine GoD_call rfl (by simp only [push_cast, seval, htk, hel]) kq (by simp only [push_cast, seval]) rfl ?_
                      simp only [Tryz.ntmps64, Tryz.results64, push_cast, seval]
                      refine hK _ _ _ (Weak.refl _) rfl rfl rfl ?_
                      simp only [Tryz.ntmps26, Tryz.results26, push_cast, seval, jnC, frTs_length, vR_length, Nat.le_refl, hlt, hi', vR_getD, hg, hel, htk, hel']
                      refine GoL_call rfl rfl kF rfl rfl ?_
                      simp only [Tryz.ntmps26, Tryz.results26, push_cast, seval, jnC, frTs_length, vR_length, Nat.le_refl, hwe, hwi, hel, htk]
                      refine ⟨_, ?_, hX ⟨(i1, ⟨j.number, j.term, j.vote, l'⟩, x), by simp only; omega, hf2, hex.symm, fun h => absurd h (by simp only; omega), fun _ => by show tellL _ _ (List.drop i1 _) = jf; rw [hD1]; exact hgo _ hm⟩ (by simp only; omega)⟩
                      refine Weak.trans (σ' := ⟨tp 85 [(4, .x (.one (.pt (0, 256) [] 6 0 0))), (7, .x (.one (.rs (0, 1216) [] 1 0 (r.length + 1)))), (12, .x (.one (.pt (0, 768) [] 6 0 0))), (13, .x (i64 x)), (14, int i1)], 0,
                        [((1, 3266), ⟨.sl, 3, vR (ents l'.es)⟩), ((0, 768), ⟨.box, 6, [jnC ⟨j.number, j.term, j.vote, l'⟩ (.rs (1, 3266) [] 3 0 l'.es.length)]⟩), ((0, 1216), ⟨.sl, 1, vR (strs (frTs ((t0, x0) :: r)))⟩),
                          ((0, 256), ⟨.box, 6, [[.v (.int .i64 0), .v (.int .i64 0), .v (.int .i64 0), .v (.int .i64 0), .v (.int .i64 0), .v (.slice none 0 0)]]⟩)], []⟩) (Weak.drop (by simp only [push_cast, seval, jnC]) (by simp only [push_cast, seval, jnC]) (by simp only [push_cast, seval, jnC])) ?_
                      refine Weak.trans (Weak.rename' (1, 3266) (0, 769) (Nat.zero_le _) (Nat.le_refl _) (by decide) rfl) ?_
                      simp only [push_cast, seval, jnC, ren_vR']
                      exact Weak.refl _
            · have hir : i = r.length + 1 := by omega
              have hfin : jf = (j, e) := by rw [← hinv (by omega), List.drop_eq_nil_of_le (by rw [hlen]; omega), tellL]
              simp only [Tryz.ntmps26, Tryz.results26, push_cast, seval, hlt, jnC, frTs_length, Nat.le_refl, hel]
              rw [hfin]
              refine ⟨_, Weak.refl _, ?_⟩
              simp only [Tryz.ntmps26, Tryz.results26, push_cast, seval, rjX, jnC, htk, hel]
end Go.Proofs.YtlbmojbkmcpnaaaGreatDoor

