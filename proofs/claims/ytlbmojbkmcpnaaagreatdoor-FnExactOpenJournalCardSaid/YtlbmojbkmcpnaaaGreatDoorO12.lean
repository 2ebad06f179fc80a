/- OpenJournal, by the document. -/
import Derived.Test.YtlbmojbkmcpnaaaGreatDoorO11
namespace Go.Proofs.YtlbmojbkmcpnaaaGreatDoor
open Go.RowKit Go.Rx
set_option linter.unusedSimpArgs false
set_option maxRecDepth 100000

theorem bstT_neg {l : List Fil} (h : bstT l l.length < 0) : ojO l = none := by
  unfold ojO
  split
  · have : rjO (bstT l l.length) (ojT l) = none := by
      unfold rjO
      rw [if_neg]
      rw [inR_spec]
      omega
    rw [this]
  · rfl
set_option maxHeartbeats 4000000 in
theorem openJournalS_ok (l : List Fil) (h : filSm l) : PureFn Tryz.prog 6 [.agg [.sh 3 (vR (fils l))]] (ojX (ojO l)) := by
  refine PureFn_of_GoWX [28] Tryz.func6 rfl (by decide) mo (by decide +kernel) ?_
  have k1 := diskOkS_ok l h
  simp only [Tryz.ntmps6, Tryz.results6, push_cast, seval, fils_length, slimX, List.contains_cons, List.contains_nil, Nat.reduceBEq, Bool.or_false, Bool.and_true, Bool.and_false, Bool.true_and, Bool.false_and, if_true, if_false, Bool.false_eq_true]
  cases hd : dkB l with
  | false =>
    have ho : ojO l = none := by simp only [ojO, hd, Bool.false_eq_true, if_false]
    rw [ho]
    rw [hd] at k1
    refine Go_loop (α := Unit)
      (fun _ => ⟨tp 124 [(1, .x (.one (.pt (0, 64) [] 1 0 0))), (2, .x (.one (.pt (0, 128) [] 6 0 0))), (5, .x (.one (.rs (0, 1216) [] 4 0 0))), (6, .x (i64 (-1))), (7, int 0)], 0, [((0, 1216), ⟨.sl, 4, []⟩), ((0, 128), ⟨.box, 6, [[.v (.int .i64 0), .v (.int .i64 0), .v (.int .i64 0), .v (.int .i64 0), .v (.int .i64 0), .v (.slice none 0 0)]]⟩), ((0, 64), ⟨.box, 1, [[.sh 3 (vR (fils l))]]⟩)], []⟩) (fun _ => 0) () ?_ ?_
    · exact Weak.same (by simp only [push_cast, seval])
    · rintro _ X hX
      by_cases hlt : (0 : Int) < (l.length : Int)
      · simp only [push_cast, seval, hlt, fils_length]
        refine GoL_call rfl (by simp only [push_cast, seval, fils_length, fils_take]) k1 rfl rfl ?_
        simp only [push_cast, seval]
        refine ⟨_, Weak.nilCell (0, 129) (0, 128) 3 5 rfl rfl rfl rfl, ?_⟩
        simp only [push_cast, seval, List.set, ojX, jnC, jnZ]
      · simp only [push_cast, seval, hlt, fils_length]
        refine ⟨_, Weak.nilCell (0, 129) (0, 128) 3 5 rfl rfl rfl rfl, ?_⟩
        simp only [push_cast, seval, List.set, ojX, jnC, jnZ]
  | true =>
    rw [hd] at k1
    refine Go_loop (α := {i : Nat // i ≤ l.length})
      (fun i => ⟨tp 124 [(1, .x (.one (.pt (0, 64) [] 1 0 0))), (2, .x (.one (.pt (0, 128) [] 6 0 0))), (5, .x (.one (.rs (0, 1216) [] 4 0 0))), (6, .x (i64 (bstT l i.1))), (7, int i.1)], 0, [((0, 1216), ⟨.sl, 4, []⟩), ((0, 128), ⟨.box, 6, [[.v (.int .i64 0), .v (.int .i64 0), .v (.int .i64 0), .v (.int .i64 0), .v (.int .i64 0), .v (.slice none 0 0)]]⟩), ((0, 64), ⟨.box, 1, [[.sh 3 (vR (fils l))]]⟩)], []⟩) (fun i => l.length - i.1) ⟨0, Nat.zero_le _⟩ ?_ ?_
    · exact Weak.same (by simp only [push_cast, seval, Int.ofNat_zero, bstT])
    · rintro ⟨i, hi⟩ X hX
      simp only
      by_cases hlt : (i : Int) < (l.length : Int)
      · have hi' : i < l.length := by omega
        have hg := fils_getD l hi'
        have hmem := getD_mem' l i hi'
        have hl := h.1
        have ws := wsucc hi' (by omega)
        have hb : bstT l (i + 1) = max (bstT l i) (jNum (l.getD i default).name) := rfl
        have hb1 := bstT_le l i
        obtain ⟨i', hi1⟩ : ∃ i', i' = i + 1 := ⟨_, rfl⟩
        rw [← hi1] at ws hb
        obtain ⟨f, hf⟩ : ∃ f, f = l.getD i default := ⟨_, rfl⟩
        rw [← hf] at hg hmem hb
        have kn := l07Number_ok f.name (h.2 f hmem).1
        rw [show (if nmB 106 999 f.name then (nmN 106 f.name : Int) else -1) = jNum f.name from rfl] at kn
        simp only [push_cast, seval, hlt, fils_length]
        refine GoL_call rfl (by simp only [push_cast, seval, fils_length, fils_take]) k1 rfl rfl ?_
        simp only [push_cast, seval, hlt, fils_length, hi', hg, filV, vR_getD]
        refine GoL_call rfl rfl kn rfl rfl ?_
        by_cases c1 : bstT l i < jNum f.name
        · have hb2 : bstT l i' = jNum f.name := by rw [hb]; omega
          simp only [push_cast, seval, c1, ws]
          refine ⟨_, ?_, hX ⟨i', by omega⟩ (by simp only; omega)⟩
          simp only [hb2]
          exact Weak.drop (by simp only [push_cast, seval]) (by simp only [push_cast, seval]) (by simp only [push_cast, seval])
        · have hb2 : bstT l i' = bstT l i := by rw [hb]; omega
          simp only [push_cast, seval, c1, ws]
          refine ⟨_, ?_, hX ⟨i', by omega⟩ (by simp only; omega)⟩
          simp only [hb2]
          exact Weak.drop (by simp only [push_cast, seval]) (by simp only [push_cast, seval]) (by simp only [push_cast, seval])
      · have hie : i = l.length := by omega
        subst hie
        obtain ⟨m, hm⟩ : ∃ m, m = bstT l l.length := ⟨_, rfl⟩
        have hneg := bstT_neg (l := l)
        simp only [← hm] at hneg ⊢
        by_cases cm : m < 0
        · rw [hneg cm]
          simp only [push_cast, seval, hlt, fils_length, cm]
          refine ⟨_, Weak.nilCell (0, 129) (0, 128) 3 5 rfl rfl rfl rfl, ?_⟩
          simp only [push_cast, seval, List.set, ojX, jnC, jnZ]
        have kN := journalNameS_ok m
        have kF := fileAtS_ok l h.1 (jnm m)
        have hT : (faR (jnm m) l).getD ⟨#[]⟩ = ojT l := by rw [hm]; rfl
        have hsz := faR_small h (jnm m)
        rw [hT] at hsz
        rw [faX, hT] at kF
        have kR := readJournalS_ok m (ojT l) hsz
        obtain ⟨T, hTe⟩ : ∃ T, T = ojT l := ⟨_, rfl⟩
        rw [← hTe] at kF kR hsz
        have hoj : ojO l = match rjO m T with
            | none => none
            | some (j, e) => if e = T.size then some (j, jshI l m.toNat)
              else if jtOk (nextJ j) then some (nextJ j, jshI l m.toNat ++ wrA (nextJ j) (jnm m)) else none := by
          unfold ojO; rw [if_pos hd, ← hTe, ← hm]; rfl
        simp only [push_cast, seval, hlt, cm, fils_length]
        refine GoD_call rfl rfl kN rfl rfl ?_
        simp only [push_cast, seval, fils_length]
        refine GoD_call rfl (by simp only [push_cast, seval, fils_length, fils_take]) kF rfl rfl ?_
        simp only [push_cast, seval, fils_length]
        cases hr : rjO m T with
        | none =>
          rw [hr] at hoj kR
          rw [hoj]
          simp only [rjX, jnC, jnZ] at kR
          refine GoL_call rfl rfl kR (by simp only [push_cast, seval]) rfl ?_
          simp only [push_cast, seval]
          refine ⟨_, Weak.nilCell (0, 129) (0, 128) 3 5 rfl rfl rfl rfl, ?_⟩
          simp only [push_cast, seval, List.set, ojX, jnC, jnZ]
        | some je =>
          obtain ⟨j, e⟩ := je
          rw [hr] at hoj kR
          obtain ⟨hjn, hmr, hjf⟩ := rjO_spec hsz hr
          rw [inR_spec] at hmr
          obtain ⟨n, rfl⟩ := Int.eq_ofNat_of_zero_le hmr.1
          have hn2 : n ≤ 999 := by omega
          have hnm : jnm (n : Int) = nmT 106 n := by unfold jnm; rw [if_pos (inR_spec.2 hmr)]; rfl
          rw [hnm, Int.toNat_natCast] at hoj
          rw [show jshI l n = jshS l n from jsh_eq l n (up_of hd), jshS] at hoj
          simp only [rjX, jnC] at kR
          obtain ⟨number, term, vote, start, sterm, es⟩ := j
          simp only at hjn hjf kR
          subst hjn
          refine GoL_call rfl rfl kR (by simp only [push_cast, seval]) rfl ?_
          simp only [push_cast, seval, fils_length, ents_length]
          have kA := l03At_ok l h.1 jsPlus
          have h30 := (dk_spec hd).1
          have hpl : (⟨#[106, 43]⟩ : ByteArray) = jsPlus := rfl
          refine GoL_call rfl (by simp only [push_cast, seval, fils_length, fils_take, hpl]) kA rfl rfl ?_
          obtain ⟨N0, hN0⟩ : ∃ N0, N0 = jnewL l := ⟨_, rfl⟩
          have hN0l : N0.length ≤ 1 := hN0 ▸ jnewL_len l
          rw [← hN0] at hoj
          have q0 : (0 : Nat) + 1 ≤ 4294967296 := by omega
          have q1 := max_len q0
          have q2 := room_le (b := 56) q0 (by decide)
          by_cases cP : 0 ≤ atR jsPlus l 0
          case' pos => have hN : N0 = [actD jsPlus] := by rw [hN0, jnewL, if_pos cP]
          case' neg => have hN : N0 = [] := by rw [hN0, jnewL, if_neg cP]
          all_goals
            simp only [push_cast, seval, cP, hpl, q1, q2]
            refine Go_loop (α := {i : Nat // i ≤ l.length})
              (fun i => ⟨tp 124 [(1, .x (.one (.pt (0, 64) [] 1 0 0))), (2, .x (.one (.pt (0, 128) [] 6 0 0))), (5, .x (.one (.rs (0, 6464) [] 4 0 (N0 ++ jshD (l.take i.1) n).length))), (6, .x (i64 n)), (9, .x (st T)), (11, .x (.one (.pt (0, 704) [] 6 0 0))), (12, .x (i64 e)), (14, int i.1)], 0,
                [((0, 6464), ⟨.sl, 4, vR (acds (N0 ++ jshD (l.take i.1) n))⟩), ((0, 704), ⟨.box, 6, [[.v (.int .i64 n), .v (.int .i64 term), .v (.int .i64 vote), .v (.int .i64 start), .v (.int .i64 sterm), .rs (0, 3589) [] 3 0 es.length]]⟩), ((0, 3589), ⟨.sl, 3, vR (ents es)⟩), ((0, 128), ⟨.box, 6, [[.v (.int .i64 0), .v (.int .i64 0), .v (.int .i64 0), .v (.int .i64 0), .v (.int .i64 0), .v (.slice none 0 0)]]⟩), ((0, 64), ⟨.box, 1, [[.sh 3 (vR (fils l))]]⟩)], []⟩) (fun i => l.length - i.1) ⟨0, Nat.zero_le _⟩ ?_ ?_
            · rw [show jshD (l.take 0) n = [] from rfl, List.append_nil, hN]
              first
                | (refine Weak.trans (Weak.rename (0, 4480) (0, 6464) rfl rfl (by decide) rfl) ?_
                   rw [show (acds [actD jsPlus]) = [[.int .i64 4, .string jsPlus, .string ⟨#[]⟩, .string ⟨#[]⟩]] from rfl]
                   simp only [push_cast, seval, Int.ofNat_zero, List.set, ents_length, List.length_cons, List.length_nil]
                   exact Weak.drop (by simp only [push_cast, seval]) (by simp only [push_cast, seval]) (by simp only [push_cast, seval]))
                | (refine Weak.trans (Weak.rename (0, 1216) (0, 6464) rfl rfl (by decide) rfl) ?_
                   rw [show (acds []) = [] from rfl]
                   simp only [push_cast, seval, Int.ofNat_zero, List.set, ents_length]
                   trace_state
                   exact Weak.drop (by simp only [push_cast, seval]) (by simp only [push_cast, seval]) (by simp only [push_cast, seval]))
            · rintro ⟨i, hi⟩ X hX
              simp only
              by_cases hlt : (i : Int) < (l.length : Int)
              · have hi' : i < l.length := by omega
                have hg := fils_getD l hi'
                have hmem := getD_mem' l i hi'
                have hl := h.1
                have ws := wsucc hi' (by omega)
                have hsu := jshD_succ hi' n
                have hln := jshD_len (l.take i) n
                rw [List.length_take] at hln
                obtain ⟨i', hi1⟩ : ∃ i', i' = i + 1 := ⟨_, rfl⟩
                rw [← hi1] at ws hsu
                obtain ⟨f, hf⟩ : ∃ f, f = l.getD i default := ⟨_, rfl⟩
                rw [← hf] at hg hmem hsu
                have kn := l07Number_ok f.name (h.2 f hmem).1
                have hsu' : N0 ++ jshD (l.take i') n = (N0 ++ jshD (l.take i) n) ++ (if jdropS n f then [actD f.name] else []) := by rw [hsu, List.append_assoc]
                have hAl : (N0 ++ jshD (l.take i) n).length ≤ l.length + 1 := by rw [List.length_append]; omega
                generalize N0 ++ jshD (l.take i) n = A at hsu' hAl
                have hal := acds_length A
                have hat := acds_take A
                have a0 : A.length + 1 ≤ 4294967296 := by omega
                have a1 := max_len a0
                have a2 := room_le (b := 56) a0 (by decide)
                simp only [push_cast, seval, hlt, fils_length, hi', hg, filV, vR_getD]
                refine GoL_call rfl rfl kn rfl rfl ?_
                cases c1 : nmB 106 999 f.name with
                | false =>
                  have hdr : jdropS n f = false := by simp [jdropS, c1]
                  rw [hdr, if_neg Bool.false_ne_true, List.append_nil] at hsu'
                  simp only [push_cast, seval, if_neg Bool.false_ne_true, ws]
                  refine ⟨_, ?_, hX ⟨i', by omega⟩ (by simp only; omega)⟩
                  simp only [hsu']
                  exact Weak.drop (by simp only [push_cast, seval]) (by simp only [push_cast, seval]) (by simp only [push_cast, seval])
                | true =>
                  have hn0 : (0 : Int) ≤ (nmN 106 f.name : Int) := by omega
                  by_cases c2 : (nmN 106 f.name : Int) = (n : Int)
                  · have hdr : jdropS n f = false := by
                      have : jIx f = n := by unfold jIx; omega
                      simp [jdropS, this]
                    rw [hdr, if_neg Bool.false_ne_true, List.append_nil] at hsu'
                    simp only [push_cast, seval, if_pos rfl, hn0, c2, ws]
                    refine ⟨_, ?_, hX ⟨i', by omega⟩ (by simp only; omega)⟩
                    simp only [hsu']
                    exact Weak.drop (by simp only [push_cast, seval]) (by simp only [push_cast, seval]) (by simp only [push_cast, seval])
                  · have hdr : jdropS n f = true := by
                      have : ¬ jIx f = n := by unfold jIx; omega
                      simp [jdropS, c1, this]
                    rw [hdr, if_pos rfl] at hsu'
                    have hsn := acds_snoc A (actD f.name)
                    rw [← hsu'] at hsn
                    simp only [acdC, actD] at hsn
                    have hll : (N0 ++ jshD (l.take i') n).length = A.length + 1 := by rw [hsu', List.length_append]; rfl
                    simp only [push_cast, seval, if_pos rfl, hn0, c2, ws, fils_length, hlt, hi', hg, filV, vR_getD, a1, a2, hal, hsn]
                    refine ⟨_, ?_, hX ⟨i', by omega⟩ (by simp only; omega)⟩
                    exact Weak.drop (by simp only [push_cast, seval, hll]) (by simp only [push_cast, seval, hll]) (by simp only [push_cast, seval, hll])
              · obtain rfl : i = l.length := by omega
                have hat := acds_take (N0 ++ jshD l n)
                have hal := acds_length (N0 ++ jshD l n)
                have het := ents_take es
                have hel := ents_length es
                by_cases c4 : e = T.size
                · simp only [c4, if_true] at hoj
                  rw [hoj]
                  have kC := l07Copy_ok ⟨(n : Int), term, vote, ⟨start, sterm, es⟩⟩ hjf
                  simp only [jnC] at kC
                  simp only [push_cast, seval, hlt, fils_length, c4, take_all, hal, hat]
                  refine GoL_call rfl (by simp only [push_cast, seval, het, hel]) kC (by simp only [push_cast, seval]) rfl ?_
                  simp only [push_cast, seval]
                  refine ⟨_, Weak.refl _, ?_⟩
                  simp only [push_cast, seval, take_all, hal, hat, het, hel, ojX, jnC]
                · simp only [c4, if_false] at hoj
                  have c5 : ¬ ((e : Int) = (T.size : Int)) := by omega
                  have kW := l07Anew_ok ⟨(n : Int), term, vote, ⟨start, sterm, es⟩⟩ ⟨(n : Int), term, vote, ⟨start, sterm, es⟩⟩ hjf (by simp only; omega) (by simp only; omega) _ rfl
                  simp only [jnC] at kW
                  simp only [nextJ] at hoj
                  rw [← hnm] at hoj
                  cases c6 : jtOk ⟨(n : Int) + 1, term, vote, ⟨start, sterm, es⟩⟩ with
                  | false =>
                    simp only [c6, Bool.false_eq_true, if_false] at hoj kW
                    rw [hoj]
                    simp only [push_cast, seval, hlt, fils_length, c5, take_all, hal, hat]
                    refine GoL_call rfl (by simp only [push_cast, seval, het, hel]) kW (by simp only [push_cast, seval]) rfl ?_
                    simp only [push_cast, seval]
                    refine ⟨_, Weak.nilCell (0, 129) (0, 128) 3 5 rfl rfl rfl rfl, ?_⟩
                    simp only [push_cast, seval, List.set, ojX, jnC, jnZ]
                  | true =>
                    simp only [c6, if_true] at hoj kW
                    rw [hoj]
                    simp only [push_cast, seval, hlt, fils_length, c5, take_all, hal, hat]
                    refine GoL_call rfl (by simp only [push_cast, seval, het, hel]) kW (by simp only [push_cast, seval]) rfl ?_
                    simp only [push_cast, seval]
                    have hwl : (wrA ⟨(n : Int) + 1, term, vote, ⟨start, sterm, es⟩⟩ (jnm (n : Int))).length = 4 := rfl
                    have b1 := jshD_len l n
                    generalize wrA ⟨(n : Int) + 1, term, vote, ⟨start, sterm, es⟩⟩ (jnm (n : Int)) = B at hwl ⊢
                    have hAl : (N0 ++ jshD l n).length ≤ l.length + 1 := by rw [List.length_append]; omega
                    generalize N0 ++ jshD l n = A at hAl hat hal ⊢
                    have hbl := acds_length B
                    have hbt := acds_take B
                    have a0 : A.length + B.length ≤ 4294967296 := by omega
                    have a1 := max_len a0
                    have a2 := room_le (b := 56) a0 (by decide)
                    have hsn : vR (acds A) ++ vR (acds B) = vR (acds (A ++ B)) := by simp [vR, acds]
                    have hct := acds_take (A ++ B)
                    rw [List.length_append] at hct
                    refine Go_anyK fun K hK => ?_
                    refine AnyL_3 0 1 2 (by decide +kernel) rfl rfl rfl ?_ ?_ ?_ <;> simp only [push_cast, seval]
                    repeat' first
                      | refine AnyL_2 1 2 (by decide +kernel) rfl rfl ?_ ?_ <;> simp only [push_cast, seval]
                      | refine AnyL_2 0 2 (by decide +kernel) rfl rfl ?_ ?_ <;> simp only [push_cast, seval]
                      | refine AnyL_2 0 1 (by decide +kernel) rfl rfl ?_ ?_ <;> simp only [push_cast, seval]
                      | refine AnyL_2 0 3 (by decide +kernel) rfl rfl ?_ ?_ <;> simp only [push_cast, seval, hal, hbl, hat, hbt, a1, a2, hsn, acds_flat, acds_length]
                      | (refine AnyL_1 1 (by decide +kernel) rfl ?_; simp only [push_cast, seval])
                      | (refine AnyL_1 2 (by decide +kernel) rfl ?_; simp only [push_cast, seval])
                      | (refine AnyL_1 3 (by decide +kernel) rfl ?_; simp only [push_cast, seval, hal, hbl, hat, hbt, a1, a2, hsn, acds_flat, acds_length])
                      | (refine AnyL_1 0 (by decide +kernel) rfl ?_; simp only [push_cast, seval])
                      | fail
                    all_goals
                      refine AnyL_1 4 (by decide +kernel) rfl ?_
                      simp only [push_cast, seval]
                      refine AnyL_1 5 (by decide +kernel) rfl ?_
                      simp only [push_cast, seval]
                      refine AnyL_1 6 (by decide +kernel) rfl ?_
                      simp only [push_cast, seval]
                      refine AnyL_end (by decide +kernel) (hK _ ?_)
                      simp only [push_cast, seval]
                      refine ⟨_, Weak.refl _, ?_⟩
                      simp only [push_cast, seval, hct, acds_length, List.length_append, het, hel, ojX, jnC]
end Go.Proofs.YtlbmojbkmcpnaaaGreatDoor

