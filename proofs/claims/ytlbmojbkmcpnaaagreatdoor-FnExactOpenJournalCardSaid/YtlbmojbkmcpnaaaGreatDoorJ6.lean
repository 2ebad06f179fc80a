/- Journals: the program's reader. -/
import Derived.Test.YtlbmojbkmcpnaaaGreatDoorJ5
namespace Go.Proofs.YtlbmojbkmcpnaaaGreatDoor
open Go.RowKit Go.Rx
set_option linter.unusedSimpArgs false
set_option maxRecDepth 100000

theorem frTs_length (l : List (ByteArray × Nat)) : (strs (frTs l)).length = l.length := by simp [strs, frTs]
theorem frEs_length (l : List (ByteArray × Nat)) : (ints (frEs l)).length = l.length := by simp [ints, frEs]
theorem frTs_getD {l : List (ByteArray × Nat)} {i : Nat} (h : i < l.length) : (strs (frTs l)).getD i [] = [.string (l.getD i default).1] := by
  simp [strs, frTs, List.getD_eq_getElem?_getD, List.getElem?_map, List.getElem?_eq_getElem h]
theorem frEs_getD {l : List (ByteArray × Nat)} {i : Nat} (h : i < l.length) : (ints (frEs l)).getD i [] = [.int .i64 ((l.getD i default).2 : Int)] := by
  simp [ints, frEs, List.getD_eq_getElem?_getD, List.getElem?_map, List.getElem?_eq_getElem h]
theorem frO_size {s : ByteArray} {a x : Nat} {t : ByteArray} (h : frO s a = some (t, x)) : t.size ≤ s.size ∧ x = a + (frameB t).size ∧ okLen t = true := by
  unfold frO at h
  split at h
  · rename_i n y hr
    split at h
    · rename_i hc
      obtain ⟨rfl, rfl⟩ := Prod.mk.inj (Option.some.inj h)
      obtain ⟨q1, q2, q3, q4⟩ := hc
      have hz : (s.extract (y + 4) (y + 4 + n)).size = n := by rw [ByteArray.size_extract]; omega
      have hb := rvO_bound hr
      have he := (frame_iff hr q1).2 q4
      refine ⟨extract_size _ _ _, ?_, ?_⟩
      · rw [he, ByteArray.size_extract]; omega
      · unfold okLen; rw [hz]; simp; omega
    · cases h
  · cases h
theorem frL_sizes {s : ByteArray} : ∀ (k a : Nat), ∀ p ∈ frL s k a, p.1.size ≤ s.size
  | 0, _, p, h => by cases h
  | k + 1, a, p, h => by
    rw [frL] at h
    cases hf : frO s a with
    | none => rw [hf] at h; cases h
    | some q =>
      obtain ⟨t, x⟩ := q
      rw [hf] at h
      rcases List.mem_cons.1 h with rfl | h
      · exact (frO_size hf).1
      · exact frL_sizes k x p h
theorem frs_sizes {s : ByteArray} : ∀ p ∈ frs s, p.1.size ≤ s.size := by
  intro p h
  unfold frs at h
  split at h
  · exact frL_sizes _ _ p h
  · cases h
theorem drop_getD {α : Type} [Inhabited α] {l : List α} {i : Nat} (h : i < l.length) : l.drop i = l.getD i default :: l.drop (i + 1) := by
  rw [List.drop_eq_getElem_cons h, List.getD_eq_getElem?_getD, List.getElem?_eq_getElem h]; rfl

set_option maxHeartbeats 2000000 in
theorem readJournalI_ok (n : Int) (s : ByteArray) (hs : s.size ≤ 140737488355328) : PureFn Tryz.prog 35 [i64 n, st s] (rjX (rjO n s)) := by
  refine PureFn_of_GoW Tryz.func35 rfl (by decide) mo (by decide +kernel) ?_
  have k0 := framesOf_ok s hs
  have hFl := frs_len s
  have hFs := frs_sizes (s := s)
  have k1 := inRange_ok n 0 999
  rw [show (decide ((0 : Int) ≤ n) && decide (n ≤ 999)) = inR n 0 999 from rfl] at k1
  have hO : rjO n s = if inR n 0 999 then match frs s with
    | [] => none
    | (t, x) :: r => if pairB t mkB' && logB ⟨eN1 t, eN2 t, []⟩ then some (tellL ⟨n, 0, 0, ⟨eN1 t, eN2 t, []⟩⟩ x r) else none
  else none := rfl
  generalize frs s = F at k0 hFl hFs hO
  simp only [Tryz.ntmps35, Tryz.results35, push_cast, seval]
  refine GoL_call rfl rfl k0 (by simp only [push_cast, seval]) rfl ?_
  simp only [Tryz.ntmps35, Tryz.results35, push_cast, seval, frTs_length, frEs_length]
  refine GoL_call rfl rfl k1 rfl rfl ?_
  cases c1 : inR n 0 999 with
  | false =>
    rw [hO, c1]
    simp only [Tryz.ntmps35, Tryz.results35, push_cast, seval, Bool.false_eq_true, rjX]
    refine ⟨_, Weak.nilCell (0, 257) (0, 256) 3 5 rfl rfl rfl rfl, ?_⟩
    simp only [Tryz.ntmps35, Tryz.results35, push_cast, seval, jnC, jnZ, List.set, show vR (ents []) = [] from rfl]
  | true =>
    rw [c1, if_pos rfl] at hO
    cases F with
    | nil =>
      rw [hO]
      simp only [Tryz.ntmps35, Tryz.results35, push_cast, seval, frTs_length, Int.ofNat_zero, rjX]
      refine ⟨_, Weak.nilCell (0, 257) (0, 256) 3 5 rfl rfl rfl rfl, ?_⟩
      simp only [Tryz.ntmps35, Tryz.results35, push_cast, seval, jnC, jnZ, List.set, show vR (ents []) = [] from rfl]
    | cons p r =>
      obtain ⟨t0, x0⟩ := p
      simp only at hO
      have ht0 : t0.size ≤ 140737488355328 := Nat.le_trans (hFs (t0, x0) (List.mem_cons_self ..)) hs
      obtain ⟨a, b, k2, hab⟩ := readPair_ok t0 mkB' ht0 rfl
      have hlen : ((t0, x0) :: r).length = r.length + 1 := rfl
      have hg0 : (strs (frTs ((t0, x0) :: r))).getD 0 [] = [.string t0] := rfl
      have he0 : (ints (frEs ((t0, x0) :: r))).getD 0 [] = [.int .i64 (x0 : Int)] := rfl
      have h00 : ¬ ((r.length : Int) + 1 = 0) := by omega
      have h01 : (0 : Int) < (r.length : Int) + 1 := by omega
      have h02 : 0 < r.length + 1 := by omega
      simp only [Tryz.ntmps35, Tryz.results35, push_cast, seval, frTs_length, h00, h01, h02, vR_getD, hg0]
      refine GoL_call rfl rfl k2 rfl rfl ?_
      cases c2 : pairB t0 mkB' with
      | false =>
        rw [hO, c2]
        simp only [Tryz.ntmps35, Tryz.results35, push_cast, seval, Bool.false_eq_true, rjX]
        refine ⟨_, Weak.nilCell (0, 257) (0, 256) 3 5 rfl rfl rfl rfl, ?_⟩
        simp only [Tryz.ntmps35, Tryz.results35, push_cast, seval, jnC, jnZ, List.set, show vR (ents []) = [] from rfl]
      | true =>
        obtain ⟨rfl, rfl⟩ := hab c2
        have k3 := journalOk_nil n (eN1 t0) (eN2 t0)
        rw [c1, Bool.true_and] at k3
        rw [c2, Bool.true_and] at hO
        simp only [Tryz.ntmps35, Tryz.results35, push_cast, seval]
        refine GoL_call rfl rfl k3 rfl rfl ?_
        cases c3 : logB ⟨eN1 t0, eN2 t0, []⟩ with
        | false =>
          rw [hO, c3]
          simp only [Tryz.ntmps35, Tryz.results35, push_cast, seval, Bool.false_eq_true, rjX]
          refine ⟨_, Weak.nilCell (0, 257) (0, 256) 3 5 rfl rfl rfl rfl, ?_⟩
          simp only [Tryz.ntmps35, Tryz.results35, push_cast, seval, jnC, jnZ, List.set, show vR (ents []) = [] from rfl]
        | true =>
          rw [c3, if_pos rfl] at hO
          rw [hO]
          simp only [Tryz.ntmps35, Tryz.results35, push_cast, seval, frEs_length, frTs_length, h01, h02, vR_getD, he0]
          have hrl : r.length < 20000 := by rw [hlen] at hFl; omega
          obtain ⟨jf, hjf⟩ : ∃ jf, jf = tellL ⟨n, 0, 0, ⟨eN1 t0, eN2 t0, []⟩⟩ x0 r := ⟨_, rfl⟩
          rw [← hjf]
          refine Go_loop (α := {q : Nat × Jn × Nat // q.1 ≤ r.length ∧ fineE q.2.1.log.es ∧ tellL q.2.1 q.2.2 (r.drop q.1) = jf})
            (fun q => ⟨tp 73 [(4, .x (.one (.pt (0, 256) [] 6 0 0))), (8, .x (.one (.rs (0, 1153) [] 1 0 (r.length + 1)))), (12, .x (.one (.pt (0, 768) [] 6 0 0))), (13, .x (i64 q.1.2.2)), (55, .x (.one (.rs (0, 1152) [] 1 1 r.length))), (56, int r.length), (57, int q.1.1)], 0,
              [((0, 769), ⟨.sl, 3, vR (ents q.1.2.1.log.es)⟩), ((0, 768), ⟨.box, 6, [jnC q.1.2.1 (.rs (0, 769) [] 3 0 q.1.2.1.log.es.length)]⟩), ((0, 1152), ⟨.sl, 1, vR (strs (frTs ((t0, x0) :: r)))⟩), ((0, 1153), ⟨.sl, 1, vR (ints (frEs ((t0, x0) :: r)))⟩),
                ((0, 256), ⟨.box, 6, [[.v (.int .i64 0), .v (.int .i64 0), .v (.int .i64 0), .v (.int .i64 0), .v (.int .i64 0), .v (.slice none 0 0)]]⟩)], []⟩)
            (fun q => r.length - q.1.1) ⟨(0, ⟨n, 0, 0, ⟨eN1 t0, eN2 t0, []⟩⟩, x0), Nat.zero_le _, ⟨Nat.zero_le _, fun e he => by cases he⟩, hjf.symm⟩ ?_ ?_
          · refine Weak.trans (Weak.nilCell (0, 769) (0, 768) 3 5 rfl rfl rfl rfl) ?_
            rw [show vR (ents []) = [] from rfl]
            simp only [push_cast, seval, jnC, Int.ofNat_zero, List.set]
            exact Weak.same (by simp only [push_cast, seval])
          · rintro ⟨⟨i, j, e⟩, hi, hfe, hinv⟩ X hX
            simp only at hi hfe hinv
            have hel := ents_length j.log.es
            have htk := ents_take j.log.es
            by_cases hlt : (i : Int) < (r.length : Int)
            · have hi' : i < r.length := by omega
              have hdr := drop_getD hi'
              rw [hdr] at hinv
              have hg := frTs_getD (l := (t0, x0) :: r) (i := i + 1) (by rw [hlen]; omega)
              have hge := frEs_getD (l := (t0, x0) :: r) (i := i + 1) (by rw [hlen]; omega)
              rw [show ((t0, x0) :: r).getD (i + 1) default = r.getD i default from rfl] at hg hge
              have hmem : r.getD i default ∈ (t0, x0) :: r := by
                rw [List.getD_eq_getElem?_getD, List.getElem?_eq_getElem hi']
                exact List.mem_cons_of_mem _ (List.getElem_mem hi')
              have hsz := Nat.le_trans (hFs _ hmem) hs
              obtain ⟨i1, hi1⟩ : ∃ i1, i1 = i + 1 := ⟨_, rfl⟩
              have h1i : 1 + i = i1 := by omega
              have h1r : 1 + r.length ≤ r.length + 1 := by omega
              rw [← hi1] at hg hge hinv
              have hsi : i1 < r.length + 1 := by omega
              have hsI : (i1 : Int) < (r.length : Int) + 1 := by omega
              have hwi : IntKind.i64.wrap ((i : Int) + 1) = (i1 : Int) := wN (by omega) (by omega)
              generalize r.getD i default = tx at hg hge hmem hsz hdr hinv
              obtain ⟨t, x⟩ := tx
              simp only at hg hge hsz
              simp only [Tryz.ntmps35, Tryz.results35, push_cast, seval, frTs_length, frEs_length, hlt, hwi, hsi, vR_getD, hg, hge, h1i]
              have hstop : moreO j t = none → jf = (j, e) := fun h => by rw [← hinv, tellL, h]
              have hgo : ∀ j', moreO j t = some j' → tellL j' x (r.drop i1) = jf := fun j' h => by rw [← hinv, tellL, h]
              refine GoL_inl2 1 Tryz.func75 rfl (by decide) mo (by decide +kernel) rfl rfl (show 0 ≤ 1 by decide) rfl fun K hK => ?_
              obtain ⟨a1, b1, kp, hab1⟩ := readPair_ok t mkH hsz rfl
              simp only [Tryz.ntmps75, Tryz.results75, push_cast, seval]
              refine GoL_call rfl rfl kp rfl rfl ?_
              cases p1 : pairB t mkH with
              | true =>
                obtain ⟨rfl, rfl⟩ := hab1 p1
                have kt := isTerm_ok (eN1 t)
                simp only [Tryz.ntmps75, Tryz.results75, push_cast, seval]
                refine GoL_call rfl rfl kt rfl rfl ?_
                cases p2 : inR (eN1 t) 0 100000 with
                | false =>
                  simp only [Tryz.ntmps75, Tryz.results75, push_cast, seval]
                  refine hK _ _ _ (Weak.refl _) rfl rfl rfl ?_
                  rw [hstop (by simp [moreO, p1, p2])]
                  simp only [Tryz.ntmps35, Tryz.results35, push_cast, seval, jnC, frEs_length, frTs_length, vR_length, Nat.le_refl, h1r, hwi, hsi, hsI, vR_getD, hge, hel, htk]
                  refine ⟨_, Weak.refl _, ?_⟩
                  simp only [Tryz.ntmps35, Tryz.results35, push_cast, seval, rjX, jnC, htk, hel]
                | true =>
                  by_cases h4 : (4 : Int) < (eN2 t : Int)
                  · simp only [Tryz.ntmps75, Tryz.results75, push_cast, seval, h4]
                    refine hK _ _ _ (Weak.refl _) rfl rfl rfl ?_
                    rw [hstop (by simp [moreO, p1, p2, inR]; omega)]
                    simp only [Tryz.ntmps35, Tryz.results35, push_cast, seval, jnC, frEs_length, frTs_length, vR_length, Nat.le_refl, h1r, hwi, hsi, hsI, vR_getD, hge, hel, htk]
                    refine ⟨_, Weak.refl _, ?_⟩
                    simp only [Tryz.ntmps35, Tryz.results35, push_cast, seval, rjX, jnC, htk, hel]
                  · simp only [Tryz.ntmps75, Tryz.results75, push_cast, seval, h4, jnC]
                    refine hK _ _ _ (Weak.refl _) rfl rfl rfl ?_
                    simp only [Tryz.ntmps35, Tryz.results35, push_cast, seval, jnC, frEs_length, frTs_length, vR_length, Nat.le_refl, h1r, hwi, hsi, hsI, vR_getD, hge, hel, htk]
                    have hm : moreO j t = some ⟨j.number, eN1 t, eN2 t, j.log⟩ := by
                      have : inR (eN2 t) 0 4 = true := inR_spec.2 ⟨by omega, by omega⟩
                      simp [moreO, p1, p2, this]
                    refine ⟨_, ?_, hX ⟨(i1, ⟨j.number, eN1 t, eN2 t, j.log⟩, x), by simp only; omega, hfe, hgo _ hm⟩ (by simp only; omega)⟩
                    exact Weak.same (by simp only [push_cast, seval, jnC])
              | false =>
                have kr := readEntryI_ok t hsz
                have hNP : moreO j t = (if eOk t then (if putB j.log (eN1 t) (entOf t) then some ⟨j.number, j.term, j.vote, putL j.log (eN1 t) (entOf t)⟩ else none) else none) := by simp only [moreO, p1, Bool.false_eq_true, if_false]
                simp only [Tryz.ntmps75, Tryz.results75, push_cast, seval]
                cases q1 : eOk t with
                | false =>
                  rw [eX_false q1] at kr
                  refine GoL_call rfl rfl kr rfl rfl ?_
                  simp only [Tryz.ntmps75, Tryz.results75, push_cast, seval, entC]
                  refine hK _ _ _ (Weak.refl _) rfl rfl rfl ?_
                  rw [hstop (by rw [hNP, q1]; rfl)]
                  simp only [Tryz.ntmps35, Tryz.results35, push_cast, seval, jnC, frEs_length, frTs_length, strs_length, ints_length, Nat.le_refl]
                  refine ⟨_, Weak.refl _, ?_⟩
                  simp only [Tryz.ntmps35, Tryz.results35, push_cast, seval, rjX, jnC, htk, hel]
                | true =>
                  rw [eX_true q1] at kr
                  refine GoL_call rfl rfl kr rfl rfl ?_
                  have kq := logPutI_ok j.log hfe (eN1 t) (entOf t) (Nat.le_trans (eD_size t) hsz)
                  simp only [Tryz.ntmps75, Tryz.results75, push_cast, seval, entC, jnC, htk, hel]
                  cases q2 : putB j.log (eN1 t) (entOf t) with
                  | false =>
                    rw [putX, q2, if_neg Bool.false_ne_true] at kq
                    simp only [entOf, lgC, entC, lgZ] at kq
                    refine GoD_call rfl (by simp only [push_cast, seval, htk, hel]) kq rfl rfl ?_
                    simp only [Tryz.ntmps75, Tryz.results75, push_cast, seval]
                    refine hK _ _ _ (Weak.refl _) rfl rfl rfl ?_
                    rw [hstop (by rw [hNP, q1, q2]; rfl)]
                    simp only [Tryz.ntmps35, Tryz.results35, push_cast, seval, jnC, frEs_length, frTs_length, Nat.le_refl, hel]
                    refine ⟨_, Weak.refl _, ?_⟩
                    simp only [Tryz.ntmps35, Tryz.results35, push_cast, seval, rjX, jnC, htk, hel]
                  | true =>
                    rw [putX, q2, if_pos rfl] at kq
                    have hm : moreO j t = some ⟨j.number, j.term, j.vote, putL j.log (eN1 t) (entOf t)⟩ := by rw [hNP, q1, q2]; rfl
                    have hf2 := fine_more hfe hsz hm
                    generalize putL j.log (eN1 t) (entOf t) = l' at kq hm hf2
                    simp only [entOf, lgC, entC] at kq
                    have hel' := ents_length l'.es
                    refine GoD_call rfl (by simp only [push_cast, seval, htk, hel]) kq (by simp only [push_cast, seval]) rfl ?_
                    simp only [Tryz.ntmps75, Tryz.results75, push_cast, seval]
                    refine hK _ _ _ (Weak.refl _) rfl rfl rfl ?_
                    simp only [Tryz.ntmps35, Tryz.results35, push_cast, seval, jnC, frEs_length, frTs_length, vR_length, Nat.le_refl, h1r, hwi, hsi, hsI, vR_getD, hge, hel, htk, hel']
                    refine ⟨_, ?_, hX ⟨(i1, ⟨j.number, j.term, j.vote, l'⟩, x), by simp only; omega, hf2, hgo _ hm⟩ (by simp only; omega)⟩
                    refine Weak.trans (σ' := ⟨tp 73 [(4, .x (.one (.pt (0, 256) [] 6 0 0))), (8, .x (.one (.rs (0, 1153) [] 1 0 (r.length + 1)))), (12, .x (.one (.pt (0, 768) [] 6 0 0))), (13, .x (i64 x)), (55, .x (.one (.rs (0, 1152) [] 1 1 r.length))), (56, int r.length), (57, int i1)], 0,
                      [((1, 3138), ⟨.sl, 3, vR (ents l'.es)⟩), ((0, 768), ⟨.box, 6, [jnC ⟨j.number, j.term, j.vote, l'⟩ (.rs (1, 3138) [] 3 0 l'.es.length)]⟩), ((0, 1152), ⟨.sl, 1, vR (strs (frTs ((t0, x0) :: r)))⟩), ((0, 1153), ⟨.sl, 1, vR (ints (frEs ((t0, x0) :: r)))⟩),
                        ((0, 256), ⟨.box, 6, [[.v (.int .i64 0), .v (.int .i64 0), .v (.int .i64 0), .v (.int .i64 0), .v (.int .i64 0), .v (.slice none 0 0)]]⟩)], []⟩) (Weak.drop (by simp only [push_cast, seval, jnC, h1r, frTs_length, frEs_length, vR_length]) (by simp only [push_cast, seval, jnC, h1r, frTs_length, frEs_length, vR_length]) (by simp only [push_cast, seval, jnC, h1r, frTs_length, frEs_length, vR_length])) ?_
                    refine Weak.trans (Weak.rename' (1, 3138) (0, 769) (Nat.zero_le _) (Nat.le_refl _) (by decide) rfl) ?_
                    simp only [push_cast, seval, jnC, ren_vR']
                    exact Weak.refl _
            · have hir : i = r.length := by omega
              have hfin : jf = (j, e) := by rw [← hinv, List.drop_eq_nil_of_le (by omega), tellL]
              simp only [Tryz.ntmps35, Tryz.results35, push_cast, seval, hlt, jnC, frEs_length, frTs_length, Nat.le_refl, hel]
              rw [hfin]
              refine ⟨_, Weak.refl _, ?_⟩
              simp only [Tryz.ntmps35, Tryz.results35, push_cast, seval, rjX, jnC, htk, hel]
end Go.Proofs.YtlbmojbkmcpnaaaGreatDoor

