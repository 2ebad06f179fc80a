/- ShedActs both ways. -/
import Derived.Test.YtennhlaibefacaaDoorK10
namespace Go.Proofs.YtennhlaibefacaaDoor
open Go.RowKit Go.Rx
set_option linter.unusedSimpArgs false
set_option maxRecDepth 100000

theorem acds_flat (l : List Acd) : (vR (acds l)).all flatRow = true := by
  rw [List.all_eq_true]
  intro r hr
  unfold vR acds at hr
  rw [List.map_map] at hr
  obtain ⟨a, _, rfl⟩ := List.mem_map.1 hr
  rfl
theorem shedS_ok (l : List Fil) (h : filSm l) : PureFn Tryd.prog 14 [.agg [.sh 3 (vR (fils l))]] [.one (.own 4 (vR (acds (shO l))))] := by
  refine PureFn_of_Go Tryd.func14 rfl (by decide) mo (by decide +kernel) ?_
  have k1 := newestS_ok l h
  simp only [Tryd.ntmps14, Tryd.results14, push_cast, seval, fils_length]
  cases ho : nsO l with
  | none =>
    rw [ho, nsX, show nsS none = snN from rfl, snN] at k1
    simp only [Snp.enc, show vR (ints []) = [] from rfl, Option.isSome_none] at k1
    refine GoL_call rfl (by simp only [push_cast, seval, fils_length, fils_take]) k1 (by simp only [push_cast, seval]) rfl ?_
    rw [shO, ho, show vR (acds []) = [] from rfl]
    simp only [Tryd.ntmps14, Tryd.results14, push_cast, seval]
  | some x =>
    obtain ⟨hd, n, hn, hn2⟩ := ns_idx ho
    rw [ho, nsX, show nsS (some x) = x from rfl] at k1
    simp only [Snp.enc, Option.isSome_some, hn] at k1
    have h30 := (dk_spec hd).1
    have k2 := l08New_ok l h.1
    have k3 := l08Drops_ok l h (by omega) n
    rw [show shO l = newL l ++ shD l n by rw [shO, ho]; show shS l x.idx.toNat = _; rw [hn]; rfl]
    have b1 := newL_len l
    have b2 := shD_len l n
    refine GoL_call rfl (by simp only [push_cast, seval, fils_length, fils_take]) k1 (by simp only [push_cast, seval]) rfl ?_
    simp only [Tryd.ntmps14, Tryd.results14, push_cast, seval, fils_length]
    refine GoD_call rfl (by simp only [push_cast, seval, fils_length, fils_take]) k2 (by simp only [push_cast, seval]) rfl ?_
    simp only [Tryd.ntmps14, Tryd.results14, push_cast, seval, fils_length]
    refine GoD_call rfl (by simp only [push_cast, seval, fils_length, fils_take]) k3 (by simp only [push_cast, seval]) rfl ?_
    generalize newL l = A at b1 ⊢
    generalize shD l n = B at b2 ⊢
    have hal := acds_length A
    have hbl := acds_length B
    have hat := acds_take A
    have hbt := acds_take B
    have a0 : A.length + B.length ≤ 4294967296 := by omega
    have a1 := max_len a0
    have a2 := room_le (b := 56) a0 (by decide)
    have hsn : vR (acds A) ++ vR (acds B) = vR (acds (A ++ B)) := by simp [vR, acds]
    have hct := acds_take (A ++ B)
    rw [List.length_append] at hct
    simp only [Tryd.ntmps14, Tryd.results14, push_cast, seval, hal, hbl, hat, hbt, a1, a2, hsn, hct, acds_flat, acds_length, List.length_append]
set_option maxHeartbeats 1000000 in
theorem shedI_ok (l : List Fil) (h : filSm l) : PureFn Tryd.prog 15 [.agg [.sh 3 (vR (fils l))]] [.one (.own 4 (vR (acds (shO l))))] := by
  refine PureFn_of_GoW Tryd.func15 rfl (by decide) mo (by decide +kernel) ?_
  have k1 := newestI_ok l h
  simp only [Tryd.ntmps15, Tryd.results15, push_cast, seval, fils_length]
  cases ho : nsO l with
  | none =>
    rw [ho, nsX, show nsS none = snN from rfl, snN] at k1
    simp only [Snp.enc, show vR (ints []) = [] from rfl, Option.isSome_none] at k1
    refine GoL_call rfl (by simp only [push_cast, seval, fils_length, fils_take]) k1 (by simp only [push_cast, seval]) rfl ?_
    rw [shO, ho, show vR (acds []) = [] from rfl]
    simp only [Tryd.ntmps15, Tryd.results15, push_cast, seval]
    refine ⟨_, Weak.nilRoot (0, 128) 4 2 rfl rfl rfl, ?_⟩
    simp only [Tryd.ntmps15, Tryd.results15, push_cast, seval, List.set]
  | some x =>
    obtain ⟨hd, n, hn, hn2⟩ := ns_idx ho
    rw [ho, nsX, show nsS (some x) = x from rfl] at k1
    simp only [Snp.enc, Option.isSome_some, hn] at k1
    have h30 := (dk_spec hd).1
    have ks := snapNameI_ok n hn2
    have hlen : (shO l).length ≤ 40 := shO_len l
    rw [show shO l = shI l n by rw [sh_eq l n (up_of hd), shO, ho]; show shS l x.idx.toNat = _; rw [hn]; rfl] at hlen ⊢
    obtain ⟨hl, hs⟩ := h
    refine GoL_call rfl (by simp only [push_cast, seval, fils_length, fils_take]) k1 (by simp only [push_cast, seval]) rfl ?_
    simp only [Tryd.ntmps15, Tryd.results15, push_cast, seval, fils_length]
    have hpl : (⟨#[115, 43]⟩ : ByteArray) = sPlus := rfl
    refine Go_loop (α := {i : Nat // i ≤ l.length})
      (fun i => ⟨tp 52 [(1, .x (.one (.pt (0, 64) [] 1 0 0))), (3, .x (.one (.pt (0, 192) [] 4 0 0))), (5, .x (.one (.rs (0, 3136) [] 4 0 (shI (l.take i.1) n).length))), (18, .x (.one (.sh 3 (vR (fils l))))), (19, int l.length), (20, int i.1)], 0,
        [((0, 3136), ⟨.sl, 4, vR (acds (shI (l.take i.1) n))⟩), ((0, 192), ⟨.box, 4, [[.v (.int .i64 n), .v (.int .i64 x.term), .rs (0, 770) [] 1 0 x.conf.length, .v (.string x.body)]]⟩), ((0, 770), ⟨.sl, 1, vR (ints x.conf)⟩), ((0, 64), ⟨.box, 1, [[.sh 3 (vR (fils l))]]⟩)], []⟩) (fun i => l.length - i.1) ⟨0, Nat.zero_le _⟩ ?_ ?_
    · refine Weak.trans (Weak.nilRoot (0, 3136) 4 5 rfl rfl rfl) ?_
      rw [show shI (l.take 0) n = [] from rfl, show vR (acds []) = [] from rfl]
      simp only [push_cast, seval, Int.ofNat_zero, List.set, ints_length]
      exact Weak.same (by simp only [push_cast, seval])
    · rintro ⟨i, hi⟩ X hX
      simp only
      by_cases hlt : (i : Int) < (l.length : Int)
      · have hi' : i < l.length := by omega
        have hg := fils_getD l hi'
        have hmem := getD_mem' l i hi'
        have ws := wsucc hi' (by omega)
        have hsu := shI_succ hi' n
        have hln := shI_len (l.take i) n
        rw [List.length_take] at hln
        obtain ⟨i', hi1⟩ : ∃ i', i' = i + 1 := ⟨_, rfl⟩
        rw [← hi1] at ws hsu
        obtain ⟨f, hf⟩ : ∃ f, f = l.getD i default := ⟨_, rfl⟩
        rw [← hf] at hg hmem hsu
        obtain ⟨y, _, kn⟩ := snapIndexI_ok f.name (hs f hmem).1
        generalize shI (l.take i) n = A at hsu hln
        have hal := acds_length A
        have hat := acds_take A
        have a0 : A.length + 1 ≤ 4294967296 := by omega
        have a1 := max_len a0
        have a2 := room_le (b := 56) a0 (by decide)
        have hsn := acds_snoc A (actD f.name)
        simp only [acdC, actD] at hsn
        simp only [push_cast, seval, hlt, fils_length, hi', hg, filV, vR_getD]
        refine GoL_call rfl rfl kn rfl rfl ?_
        simp only [push_cast, seval, hpl]
        by_cases c1 : f.name = sPlus
        · have hd : dropI n f = true := by simp [dropI, c1]
          rw [hd, if_pos rfl] at hsu
          have hll : (shI (l.take i') n).length = A.length + 1 := by rw [hsu, List.length_append]; rfl
          simp only [actD] at hsu
          rw [← hsu, c1] at hsn
          simp only [push_cast, seval, c1, ws, a1, a2, hal, hsn]
          refine ⟨_, ?_, hX ⟨i', by omega⟩ (by simp only; omega)⟩
          exact Weak.drop (by simp only [push_cast, seval, hll]) (by simp only [push_cast, seval, hll]) (by simp only [push_cast, seval, hll])
        · cases c2 : nmB 115 1000000 f.name with
          | false =>
            have hd : dropI n f = false := by simp [dropI, dropS, c1, c2]
            rw [hd, if_neg Bool.false_ne_true, List.append_nil] at hsu
            simp only [push_cast, seval, c1, ws]
            refine ⟨_, ?_, hX ⟨i', by omega⟩ (by simp only; omega)⟩
            simp only [hsu]
            exact Weak.drop (by simp only [push_cast, seval]) (by simp only [push_cast, seval]) (by simp only [push_cast, seval])
          | true =>
            simp only [push_cast, seval, c1]
            refine GoD_call rfl rfl ks rfl rfl ?_
            by_cases c3 : f.name = nmT 115 n
            · have hix : fIx f = n := by unfold fIx; rw [c3]; exact (nm_of (c := 115) (M := 1000000) (by omega) (by omega)).2
              have hd : dropI n f = false := by simp [dropI, dropS, c1, hix]
              rw [hd, if_neg Bool.false_ne_true, List.append_nil] at hsu
              simp only [push_cast, seval, c3, ws]
              refine ⟨_, ?_, hX ⟨i', by omega⟩ (by simp only; omega)⟩
              simp only [hsu]
              exact Weak.drop (by simp only [push_cast, seval]) (by simp only [push_cast, seval]) (by simp only [push_cast, seval])
            · have hix : ¬ fIx f = n := fun e => c3 (by rw [← e]; exact (nm_spec c2).1)
              have hd : dropI n f = true := by simp [dropI, dropS, c2, hix]
              rw [hd, if_pos rfl] at hsu
              have hll : (shI (l.take i') n).length = A.length + 1 := by rw [hsu, List.length_append]; rfl
              simp only [actD] at hsu
              rw [← hsu] at hsn
              simp only [push_cast, seval, c3, ws, a1, a2, hal, hsn]
              refine ⟨_, ?_, hX ⟨i', by omega⟩ (by simp only; omega)⟩
              exact Weak.drop (by simp only [push_cast, seval, hll]) (by simp only [push_cast, seval, hll]) (by simp only [push_cast, seval, hll])
      · obtain rfl : i = l.length := by omega
        have hat := acds_take (shI l n)
        have hal := acds_length (shI l n)
        simp only [Tryd.ntmps15, Tryd.results15, push_cast, seval, hlt, take_all, hal, hat]
        refine ⟨_, Weak.refl _, ?_⟩
        simp only [Tryd.ntmps15, Tryd.results15, push_cast, seval, take_all, hal, hat]
end Go.Proofs.YtennhlaibefacaaDoor

