/- OpenJournal, by the program. -/
import Derived.Test.YtlbmojbkmcpnaaaGreatDoorO10
namespace Go.Proofs.YtlbmojbkmcpnaaaGreatDoor
open Go.RowKit Go.Rx
set_option linter.unusedSimpArgs false
set_option maxRecDepth 100000

theorem acds_flat (l : List Acd) : (vR (acds l)).all flatRow = true := by
  rw [List.all_eq_true]
  intro r hr
  unfold vR acds at hr
  rw [List.map_map] at hr
  obtain ⟨a, _, rfl⟩ := List.mem_map.1 hr
  rfl
section
variable {P : Program} {ops : List SOp} {deps : List (List Nat)} {K : St → Prop} {f : Nat} {done : List Nat} {σ : St}
theorem AnyL_1 (i : Nat) {s : SOp} (hr : rdy deps done = [i]) (hs : ops[i]? = some s) (h : GoL P [s] [] σ fun e σ' => e = .normal ∧ AnyL P ops deps K f (i :: done) σ') : AnyL P ops deps K (f + 1) done σ :=
  AnyL_succ hr (by simp) fun k hk => by
    rcases List.mem_cons.1 hk with rfl | hk
    · exact ⟨_, hs, h⟩
    · cases hk
theorem AnyL_2 (i j : Nat) {s s' : SOp} (hr : rdy deps done = [i, j]) (hs : ops[i]? = some s) (hs' : ops[j]? = some s')
    (h : GoL P [s] [] σ fun e σ' => e = .normal ∧ AnyL P ops deps K f (i :: done) σ') (h' : GoL P [s'] [] σ fun e σ' => e = .normal ∧ AnyL P ops deps K f (j :: done) σ') : AnyL P ops deps K (f + 1) done σ :=
  AnyL_succ hr (by simp) fun k hk => by
    rcases List.mem_cons.1 hk with rfl | hk
    · exact ⟨_, hs, h⟩
    · rcases List.mem_cons.1 hk with rfl | hk
      · exact ⟨_, hs', h'⟩
      · cases hk
theorem AnyL_3 (i j k : Nat) {s s' s'' : SOp} (hr : rdy deps done = [i, j, k]) (hs : ops[i]? = some s) (hs' : ops[j]? = some s') (hs'' : ops[k]? = some s'')
    (h : GoL P [s] [] σ fun e σ' => e = .normal ∧ AnyL P ops deps K f (i :: done) σ') (h' : GoL P [s'] [] σ fun e σ' => e = .normal ∧ AnyL P ops deps K f (j :: done) σ')
    (h'' : GoL P [s''] [] σ fun e σ' => e = .normal ∧ AnyL P ops deps K f (k :: done) σ') : AnyL P ops deps K (f + 1) done σ :=
  AnyL_succ hr (by simp) fun m hm => by
    rcases List.mem_cons.1 hm with rfl | hm
    · exact ⟨_, hs, h⟩
    · rcases List.mem_cons.1 hm with rfl | hm
      · exact ⟨_, hs', h'⟩
      · rcases List.mem_cons.1 hm with rfl | hm
        · exact ⟨_, hs'', h''⟩
        · cases hm
theorem Go_anyK {k : List Fr} {Q : Ex → St → Prop} (h : ∀ K, (∀ σ', Re P k .normal σ' Q → K σ') → AnyL P ops deps K ops.length [] σ) : Go P (.any ops deps) k σ Q := h _ fun _ h => h
end
set_option maxHeartbeats 2000000 in
theorem openJournalI_ok (l : List Fil) (h : filSm l) : PureFn Tryz.prog 8 [.agg [.sh 3 (vR (fils l))]] (ojX (ojO l)) := by
  refine PureFn_of_GoWX [30] Tryz.func8 rfl (by decide) mo (by decide +kernel) ?_
  have k1 := diskOkI_ok l h
  simp only [Tryz.ntmps8, Tryz.results8, push_cast, seval, fils_length, slimX, List.contains_cons, List.contains_nil, Nat.reduceBEq, Bool.or_false, Bool.and_true, Bool.and_false, Bool.true_and, Bool.false_and, if_true, if_false, Bool.false_eq_true]
  refine GoL_call rfl (by simp only [push_cast, seval, fils_length, fils_take]) k1 rfl rfl ?_
  cases hd : dkB l with
  | false =>
    have ho : ojO l = none := by simp only [ojO, hd, Bool.false_eq_true, if_false]
    rw [ho]
    simp only [push_cast, seval]
    refine ⟨_, Weak.trans (Weak.nilCell (0, 129) (0, 128) 3 5 rfl rfl rfl rfl) (Weak.nilRoot (0, 192) 4 3 rfl rfl rfl), ?_⟩
    simp only [push_cast, seval, List.set, ojX, jnC, jnZ]
  | true =>
    simp only [push_cast, seval, fils_length]
    refine Go_loop (α := {i : Nat // i ≤ l.length})
      (fun i => ⟨tp 117 [(1, .x (.one (.pt (0, 64) [] 1 0 0))), (2, .x (.one (.pt (0, 128) [] 6 0 0))), (5, .x (i64 (bstT l i.1))), (27, .x (.one (.sh 3 (vR (fils l))))), (28, int l.length), (29, int i.1)], 0, [((0, 128), ⟨.box, 6, [[.v (.int .i64 0), .v (.int .i64 0), .v (.int .i64 0), .v (.int .i64 0), .v (.int .i64 0), .v (.slice none 0 0)]]⟩), ((0, 64), ⟨.box, 1, [[.sh 3 (vR (fils l))]]⟩)], []⟩) (fun i => l.length - i.1) ⟨0, Nat.zero_le _⟩ ?_ ?_
    · exact Weak.same (by simp only [push_cast, seval, Int.ofNat_zero, bstT])
    · rintro ⟨i, hi⟩ X hX
      by_cases hlt : (i : Int) < (l.length : Int)
      · have hi' : i < l.length := by omega
        have hg := fils_getD l hi'
        have hmem := getD_mem' l i hi'
        have hl := h.1
        have ws := wsucc hi' (by omega)
        have hb : bstT l (i + 1) = max (bstT l i) (jNum (l.getD i default).name) := rfl
        have hb1 := bstT_le l i
        obtain ⟨i', hi1⟩ : ∃ i', i' = i + 1 := ⟨_, rfl⟩
        rw [← hi1] at ws hb
        obtain ⟨f, hf⟩ : ∃ f, f = l.getD i default := ⟨_, rfl⟩
        rw [← hf] at hg hmem hb
        obtain ⟨y, hy, kn⟩ := journalNumber_ok f.name (h.2 f hmem).1
        simp only [push_cast, seval, hlt, fils_length, hi', hg, filV, vR_getD]
        refine GoL_call rfl rfl kn rfl rfl ?_
        cases c : nmB 106 999 f.name with
        | false =>
          have hb2 : bstT l i' = bstT l i := by
            rw [hb]
            have : jNum f.name = -1 := by simp [jNum, c]
            omega
          simp only [push_cast, seval, ws]
          refine ⟨_, ?_, hX ⟨i', by omega⟩ (by simp only; omega)⟩
          simp only [hb2]
          exact Weak.drop (by simp only [push_cast, seval]) (by simp only [push_cast, seval]) (by simp only [push_cast, seval])
        | true =>
          have hy' := hy c
          have hb2 : bstT l i' = if bstT l i < y then y else bstT l i := by
            rw [hb, hy']
            have : jNum f.name = (nmN 106 f.name : Int) := by simp [jNum, c]
            rw [this, Int.max_def]
            split <;> split <;> omega
          simp only [push_cast, seval, ws]
          refine ⟨_, ?_, hX ⟨i', by omega⟩ (by simp only; omega)⟩
          simp only [hb2]
          exact Weak.drop (by simp only [push_cast, seval]) (by simp only [push_cast, seval]) (by simp only [push_cast, seval])
      · have hie : i = l.length := by omega
        subst hie
        obtain ⟨m, hm⟩ : ∃ m, m = bstT l l.length := ⟨_, rfl⟩
        have kN := journalNameI_ok m
        have kF := fileAtI_ok l h.1 (jnm m)
        have hT : (faR (jnm m) l).getD ⟨#[]⟩ = ojT l := by rw [hm]; rfl
        have hsz := faR_small h (jnm m)
        rw [hT] at hsz
        rw [faX, hT] at kF
        have kR := readJournalI_ok m (ojT l) hsz
        obtain ⟨T, hTe⟩ : ∃ T, T = ojT l := ⟨_, rfl⟩
        rw [← hTe] at kF kR hsz
        have hoj : ojO l = match rjO m T with
            | none => none
            | some (j, e) => if e = T.size then some (j, jshI l m.toNat)
              else if jtOk (nextJ j) then some (nextJ j, jshI l m.toNat ++ wrA (nextJ j) (jnm m)) else none := by
          unfold ojO; rw [if_pos hd, ← hTe, ← hm]; rfl
        simp only [← hm]
        simp only [push_cast, seval, hlt]
        refine GoL_call rfl rfl kN rfl rfl ?_
        simp only [push_cast, seval, fils_length]
        refine GoL_call rfl (by simp only [push_cast, seval, fils_length, fils_take]) kF rfl rfl ?_
        simp only [push_cast, seval, fils_length]
        cases hr : rjO m T with
        | none =>
          rw [hr] at hoj kR
          rw [hoj]
          simp only [rjX, jnC, jnZ] at kR
          refine GoL_call rfl rfl kR (by simp only [push_cast, seval]) rfl ?_
          simp only [push_cast, seval]
          refine ⟨_, Weak.trans (Weak.nilCell (0, 129) (0, 128) 3 5 rfl rfl rfl rfl) (Weak.nilRoot (0, 192) 4 3 rfl rfl rfl), ?_⟩
          simp only [push_cast, seval, List.set, ojX, jnC, jnZ]
        | some je =>
          obtain ⟨j, e⟩ := je
          rw [hr] at hoj kR
          obtain ⟨hjn, hmr, hjf⟩ := rjO_spec hsz hr
          rw [inR_spec] at hmr
          obtain ⟨n, rfl⟩ := Int.eq_ofNat_of_zero_le hmr.1
          have hn2 : n ≤ 999 := by omega
          have hnm : jnm (n : Int) = nmT 106 n := by unfold jnm; rw [if_pos (inR_spec.2 hmr)]; rfl
          rw [hnm, Int.toNat_natCast] at hoj
          rw [hnm]
          simp only [rjX, jnC] at kR
          obtain ⟨number, term, vote, start, sterm, es⟩ := j
          simp only at hjn hjf kR
          subst hjn
          refine GoL_call rfl rfl kR (by simp only [push_cast, seval]) rfl ?_
          simp only [push_cast, seval, fils_length, ents_length]
          refine Go_loop (α := {i : Nat // i ≤ l.length})
            (fun i => ⟨tp 117 [(1, .x (.one (.pt (0, 64) [] 1 0 0))), (2, .x (.one (.pt (0, 128) [] 6 0 0))), (10, .x (st (nmT 106 n))), (11, .x (st T)), (13, .x (.one (.pt (0, 832) [] 6 0 0))), (14, .x (i64 e)), (16, .x (.one (.rs (0, 5888) [] 4 0 (jshI (l.take i.1) n).length))), (63, .x (.one (.sh 3 (vR (fils l))))), (64, int l.length), (65, int i.1)], 0,
              [((0, 5888), ⟨.sl, 4, vR (acds (jshI (l.take i.1) n))⟩), ((0, 832), ⟨.box, 6, [[.v (.int .i64 n), .v (.int .i64 term), .v (.int .i64 vote), .v (.int .i64 start), .v (.int .i64 sterm), .rs (0, 3525) [] 3 0 es.length]]⟩), ((0, 3525), ⟨.sl, 3, vR (ents es)⟩), ((0, 128), ⟨.box, 6, [[.v (.int .i64 0), .v (.int .i64 0), .v (.int .i64 0), .v (.int .i64 0), .v (.int .i64 0), .v (.slice none 0 0)]]⟩), ((0, 64), ⟨.box, 1, [[.sh 3 (vR (fils l))]]⟩)], []⟩) (fun i => l.length - i.1) ⟨0, Nat.zero_le _⟩ ?_ ?_
          · refine Weak.trans (Weak.nilRoot (0, 5888) 4 16 rfl rfl rfl) ?_
            rw [show jshI (l.take 0) n = [] from rfl, show vR (acds []) = [] from rfl]
            simp only [push_cast, seval, Int.ofNat_zero, List.set, ents_length]
            exact Weak.same (by simp only [push_cast, seval])
          · rintro ⟨i, hi⟩ X hX
            simp only
            by_cases hlt : (i : Int) < (l.length : Int)
            · have hi' : i < l.length := by omega
              have hg := fils_getD l hi'
              have hmem := getD_mem' l i hi'
              have hl := h.1
              have ws := wsucc hi' (by omega)
              have hsu := jshI_succ hi' n
              have hln := jshI_len (l.take i) n
              have h30 := (dk_spec hd).1
              rw [List.length_take] at hln
              obtain ⟨i', hi1⟩ : ∃ i', i' = i + 1 := ⟨_, rfl⟩
              rw [← hi1] at ws hsu
              obtain ⟨f, hf⟩ : ∃ f, f = l.getD i default := ⟨_, rfl⟩
              rw [← hf] at hg hmem hsu
              obtain ⟨y, _, kn⟩ := journalNumber_ok f.name (h.2 f hmem).1
              generalize jshI (l.take i) n = A at hsu hln
              have hal := acds_length A
              have hat := acds_take A
              have a0 : A.length + 1 ≤ 4294967296 := by omega
              have a1 := max_len a0
              have a2 := room_le (b := 56) a0 (by decide)
              have hsn := acds_snoc A (actD f.name)
              have hpl : (⟨#[106, 43]⟩ : ByteArray) = jsPlus := rfl
              simp only [acdC, actD] at hsn
              simp only [push_cast, seval, hlt, fils_length, hi', hg, filV, vR_getD]
              refine GoL_call rfl rfl kn rfl rfl ?_
              simp only [push_cast, seval, hpl]
              by_cases c1 : f.name = jsPlus
              · have hdr : jdropI n f = true := by simp [jdropI, c1]
                rw [hdr, if_pos rfl] at hsu
                have hll : (jshI (l.take i') n).length = A.length + 1 := by rw [hsu, List.length_append]; rfl
                simp only [actD] at hsu
                rw [← hsu, c1] at hsn
                simp only [push_cast, seval, c1, ws, a1, a2, hal, hsn]
                refine ⟨_, ?_, hX ⟨i', by omega⟩ (by simp only; omega)⟩
                exact Weak.drop (by simp only [push_cast, seval, hll]) (by simp only [push_cast, seval, hll]) (by simp only [push_cast, seval, hll])
              · cases c2 : nmB 106 999 f.name with
                | false =>
                  have hdr : jdropI n f = false := by simp [jdropI, jdropS, c1, c2]
                  rw [hdr, if_neg Bool.false_ne_true, List.append_nil] at hsu
                  simp only [push_cast, seval, c1, ws]
                  refine ⟨_, ?_, hX ⟨i', by omega⟩ (by simp only; omega)⟩
                  simp only [hsu]
                  exact Weak.drop (by simp only [push_cast, seval]) (by simp only [push_cast, seval]) (by simp only [push_cast, seval])
                | true =>
                  by_cases c3 : f.name = nmT 106 n
                  · have hix : jIx f = n := by unfold jIx; rw [c3]; exact (nm_of (c := 106) (M := 999) (by omega) (by omega)).2
                    have hdr : jdropI n f = false := by simp [jdropI, jdropS, c1, hix]
                    rw [hdr, if_neg Bool.false_ne_true, List.append_nil] at hsu
                    have c1' : ¬ nmT 106 n = jsPlus := c3 ▸ c1
                    simp only [push_cast, seval, c1', c3, ws]
                    refine ⟨_, ?_, hX ⟨i', by omega⟩ (by simp only; omega)⟩
                    simp only [hsu]
                    exact Weak.drop (by simp only [push_cast, seval]) (by simp only [push_cast, seval]) (by simp only [push_cast, seval])
                  · have hix : ¬ jIx f = n := fun e => c3 (by rw [← e]; exact (nm_spec c2).1)
                    have hdr : jdropI n f = true := by simp [jdropI, jdropS, c2, hix]
                    rw [hdr, if_pos rfl] at hsu
                    have hll : (jshI (l.take i') n).length = A.length + 1 := by rw [hsu, List.length_append]; rfl
                    simp only [actD] at hsu
                    rw [← hsu] at hsn
                    simp only [push_cast, seval, c1, c3, ws, a1, a2, hal, hsn]
                    refine ⟨_, ?_, hX ⟨i', by omega⟩ (by simp only; omega)⟩
                    exact Weak.drop (by simp only [push_cast, seval, hll]) (by simp only [push_cast, seval, hll]) (by simp only [push_cast, seval, hll])
            · obtain rfl : i = l.length := by omega
              have hat := acds_take (jshI l n)
              have hal := acds_length (jshI l n)
              have het := ents_take es
              have hel := ents_length es
              by_cases c4 : e = T.size
              · simp only [c4, if_true] at hoj
                rw [hoj]
                simp only [push_cast, seval, hlt, c4, take_all, hal, hat]
                refine ⟨_, Weak.refl _, ?_⟩
                simp only [push_cast, seval, take_all, hal, hat, het, hel, ojX, jnC]
              · simp only [c4, if_false] at hoj
                have c5 : ¬ ((e : Int) = (T.size : Int)) := by omega
                have w1 : IntKind.i64.wrap ((n : Int) + 1) = (n : Int) + 1 := w64 (by omega) (by omega)
                have kW := rewrite_ok ⟨(n : Int) + 1, term, vote, ⟨start, sterm, es⟩⟩ hjf (nmT 106 n)
                simp only [jnC] at kW
                simp only [nextJ] at hoj
                cases c6 : jtOk ⟨(n : Int) + 1, term, vote, ⟨start, sterm, es⟩⟩ with
                | false =>
                  simp only [c6, Bool.false_eq_true, if_false] at hoj kW
                  rw [hoj]
                  simp only [push_cast, seval, hlt, c5, take_all, hal, hat, w1]
                  refine GoL_call rfl (by simp only [push_cast, seval, het, hel]) kW (by simp only [push_cast, seval]) rfl ?_
                  simp only [push_cast, seval]
                  refine ⟨_, Weak.trans (Weak.nilCell (0, 129) (0, 128) 3 5 rfl rfl rfl rfl) (Weak.nilRoot (0, 192) 4 3 rfl rfl rfl), ?_⟩
                  simp only [push_cast, seval, List.set, ojX, jnC, jnZ]
                | true =>
                  simp only [c6, if_true] at hoj kW
                  rw [hoj]
                  simp only [push_cast, seval, hlt, c5, take_all, hal, hat, w1]
                  refine GoL_call rfl (by simp only [push_cast, seval, het, hel]) kW (by simp only [push_cast, seval]) rfl ?_
                  simp only [push_cast, seval]
                  have hwl : (wrA ⟨(n : Int) + 1, term, vote, ⟨start, sterm, es⟩⟩ (nmT 106 n)).length = 4 := rfl
                  have b1 := jshI_len l n
                  have h30 := (dk_spec hd).1
                  generalize wrA ⟨(n : Int) + 1, term, vote, ⟨start, sterm, es⟩⟩ (nmT 106 n) = B at hwl ⊢
                  generalize jshI l n = A at b1 hat hal ⊢
                  have hbl := acds_length B
                  have hbt := acds_take B
                  have a0 : A.length + B.length ≤ 4294967296 := by omega
                  have a1 := max_len a0
                  have a2 := room_le (b := 56) a0 (by decide)
                  have hsn : vR (acds A) ++ vR (acds B) = vR (acds (A ++ B)) := by simp [vR, acds]
                  have hct := acds_take (A ++ B)
                  rw [List.length_append] at hct
                  refine Go_anyK fun K hK => ?_
                  refine AnyL_3 0 1 2 (by decide +kernel) rfl rfl rfl ?_ ?_ ?_ <;> simp only [push_cast, seval]
                  repeat' first
                    | refine AnyL_2 1 2 (by decide +kernel) rfl rfl ?_ ?_ <;> simp only [push_cast, seval]
                    | refine AnyL_2 0 2 (by decide +kernel) rfl rfl ?_ ?_ <;> simp only [push_cast, seval]
                    | refine AnyL_2 0 1 (by decide +kernel) rfl rfl ?_ ?_ <;> simp only [push_cast, seval]
                    | refine AnyL_2 0 3 (by decide +kernel) rfl rfl ?_ ?_ <;> simp only [push_cast, seval, hal, hbl, hat, hbt, a1, a2, hsn, acds_flat, acds_length]
                    | (refine AnyL_1 1 (by decide +kernel) rfl ?_; simp only [push_cast, seval])
                    | (refine AnyL_1 2 (by decide +kernel) rfl ?_; simp only [push_cast, seval])
                    | (refine AnyL_1 3 (by decide +kernel) rfl ?_; simp only [push_cast, seval, hal, hbl, hat, hbt, a1, a2, hsn, acds_flat, acds_length])
                    | (refine AnyL_1 0 (by decide +kernel) rfl ?_; simp only [push_cast, seval])
                    | fail
                  all_goals
                    refine AnyL_1 4 (by decide +kernel) rfl ?_
                    simp only [push_cast, seval]
                    refine AnyL_1 5 (by decide +kernel) rfl ?_
                    simp only [push_cast, seval]
                    refine AnyL_1 6 (by decide +kernel) rfl ?_
                    simp only [push_cast, seval]
                    refine AnyL_end (by decide +kernel) (hK _ ?_)
                    simp only [push_cast, seval]
                    refine ⟨_, Weak.refl _, ?_⟩
                    simp only [push_cast, seval, hct, acds_length, List.length_append, het, hel, ojX, jnC]
end Go.Proofs.YtlbmojbkmcpnaaaGreatDoor

