/- Entries, the program's way. -/
import Derived.Test.YtcdjpfikpliagaaV5
namespace Go.Proofs.Ytcdjpfikpliagaa
open Go.RowKit Go.Rx
set_option linter.unusedSimpArgs false
set_option maxRecDepth 100000

theorem findI_first {l : List Ap} {L : List (Int × Value)} (h : Holds l l.length L) (j : Int) : findI j L = (first l j).map eV := by
  cases hf : first l j with
  | none =>
    cases hL : findI j L with
    | none => rfl
    | some v =>
      obtain ⟨k, h1, h2, _⟩ := h.2 j v hL
      exfalso
      have : ∀ (l : List Ap) (k : Nat), k < l.length → ix l k = j → first l j ≠ none := fun l => by
        induction l with
        | nil => intro k hk; simp at hk
        | cons a l ih =>
          intro k hk hx
          unfold first
          split
          · simp
          · rename_i c
            cases k with
            | zero => exact absurd hx c
            | succ k => exact ih k (by simpa using hk) hx
      exact this l k h1 h2 hf
  | some e =>
    obtain ⟨i, h1, h2, h3⟩ := first_some hf
    rw [← h2, h.1 i h1, h3]; rfl
set_option maxHeartbeats 1000000 in
theorem entriesI_ok (l : List Ap) (hl : l.length ≤ 1048576) : PureFn Try.prog 17 [.one (.sh 6 (vR (aps l)))] (enR l) := by
  refine PureFn_of_GoW Try.func17 rfl (by decide) mo (by decide +kernel) ?_
  simp only [Try.ntmps17, Try.results17, push_cast, Nat.reduceAdd, Nat.reduceSub, Nat.reduceMul, Nat.reduceLeDiff, Nat.reduceEqDiff, Nat.reduceLT, Int.reduceLT, Int.reduceLE, Int.reduceEq, Int.reduceNeg, Int.reduceToNat]
  refine GoL_inl2 1 Try.func24 rfl (by decide) mo (by decide +kernel) rfl rfl (show 0 ≤ 1 by decide) rfl fun K hK => ?_
  simp only [Try.ntmps24, Try.results24, push_cast, Nat.reduceAdd, Nat.reduceSub, Nat.reduceMul, Nat.reduceLeDiff, Nat.reduceEqDiff, Nat.reduceLT, Int.reduceLT, Int.reduceLE, Int.reduceEq, Int.reduceNeg, Int.reduceToNat]
  refine GoL_makeMap rfl rfl fun b => ?_
  simp only [Try.ntmps24, Try.results24, push_cast, Nat.reduceAdd, Nat.reduceSub, Nat.reduceMul, Nat.reduceLeDiff, Nat.reduceEqDiff, Nat.reduceLT, Int.reduceLT, Int.reduceLE, Int.reduceEq, Int.reduceNeg, Int.reduceToNat, aps_length]
  refine Go_loop (α := {p : Nat × List (Int × Value) // p.1 ≤ l.length ∧ Holds l p.1 p.2 ∧ fine l p.1})
    (fun p => ⟨tp 37 [(2, .x (.one (.v (.map none)))), (3, .x (bo false)), (4, .x (.one (.v (.map (some b))))), (10, .x (.one (.sh 6 (vR (aps l))))), (11, int l.length), (12, int p.1.1)], 1, [((1, 576), ⟨.mp b (mpI .i64 p.1.2), 0, []⟩)], []⟩)
    (fun p => l.length - p.1.1) ⟨(0, []), by simp only; omega, Holds.nil l, fun i h => by simp only at h; omega⟩ ?_ ?_
  · exact Weak.same (by simp only [push_cast, Nat.reduceAdd, Nat.reduceSub, Nat.reduceMul, Nat.reduceLeDiff, Nat.reduceEqDiff, Nat.reduceLT, Int.reduceLT, Int.reduceLE, Int.reduceEq, Int.reduceNeg, Int.reduceToNat, Int.ofNat_zero])
  · rintro ⟨⟨i, L⟩, hi, hH, hfine⟩ X hX
    simp only at hi hH hfine
    by_cases hlt : (i : Int) < (l.length : Int)
    · have hi' : i < l.length := by omega
      have ws := wsucc hi' (by omega)
      have hgi := aps_getD l hi'
      obtain ⟨a, ha⟩ : ∃ a, a = l.getD i default := ⟨_, rfl⟩
      have hai : ix l i = a.index := by rw [ix, ← ha]
      have hae : en l i = a.e := by rw [en, ← ha]
      rw [← ha] at hgi
      obtain ⟨i', hi1⟩ : ∃ i', i' = i + 1 := ⟨_, rfl⟩
      rw [← hi1] at ws
      simp only [push_cast, Nat.reduceAdd, Nat.reduceSub, Nat.reduceMul, Nat.reduceLeDiff, Nat.reduceEqDiff, Nat.reduceLT, Int.reduceLT, Int.reduceLE, Int.reduceEq, Int.reduceNeg, Int.reduceToNat, aps_length, hlt, hi', hgi, apV, vR_getD]
      refine GoL_lookup (1, 576) (b := b) (L := L) (key := a.index) (z := .agg #[.int .i64 0, .int .i64 0, .string ⟨#[]⟩]) rfl rfl rfl rfl Try.underlying51 (by kernel_rfl) (by kernel_rfl) ?_
      cases hf : findI a.index L with
      | none =>
        have hno := no_clash hH (by rw [hai]; exact hf)
        have hH' := hH.put hno
        rw [hai, hae, ← hi1] at hH'
        simp only [push_cast, Nat.reduceAdd, Nat.reduceSub, Nat.reduceMul, Nat.reduceLeDiff, Nat.reduceEqDiff, Nat.reduceLT, Int.reduceLT, Int.reduceLE, Int.reduceEq, Int.reduceNeg, Int.reduceToNat]
        refine GoL_mapUpdate (1, 576) (b := b) (L := L) (key := a.index) (v := eV a.e) rfl rfl rfl rfl rfl Try.underlying51 (by kernel_rfl) ?_
        simp only [push_cast, Nat.reduceAdd, Nat.reduceSub, Nat.reduceMul, Nat.reduceLeDiff, Nat.reduceEqDiff, Nat.reduceLT, Int.reduceLT, Int.reduceLE, Int.reduceEq, Int.reduceNeg, Int.reduceToNat, ws]
        refine ⟨_, ?_, hX ⟨(i', _), by simp only; omega, hH', fun i2 h2 k2 hk2 => ?_⟩ (by simp only; omega)⟩
        · exact Weak.drop (by simp only [push_cast, Nat.reduceAdd, Nat.reduceSub, Nat.reduceMul, Nat.reduceLeDiff, Nat.reduceEqDiff, Nat.reduceLT, Int.reduceLT, Int.reduceLE, Int.reduceEq, Int.reduceNeg, Int.reduceToNat]) (by simp only [push_cast, Nat.reduceAdd, Nat.reduceSub, Nat.reduceMul, Nat.reduceLeDiff, Nat.reduceEqDiff, Nat.reduceLT, Int.reduceLT, Int.reduceLE, Int.reduceEq, Int.reduceNeg, Int.reduceToNat]) (by simp only [push_cast, Nat.reduceAdd, Nat.reduceSub, Nat.reduceMul, Nat.reduceLeDiff, Nat.reduceEqDiff, Nat.reduceLT, Int.reduceLT, Int.reduceLE, Int.reduceEq, Int.reduceNeg, Int.reduceToNat])
        · by_cases e : i2 = i
          · rw [e] at hk2 ⊢; exact hno k2 hk2
          · exact hfine i2 (by simp only at h2; omega) k2 hk2
      | some v =>
        obtain ⟨k, hk, hki, hkv⟩ := hH.2 _ v hf
        obtain ⟨f, hfe⟩ : ∃ f, f = en l k := ⟨_, rfl⟩
        rw [← hfe] at hkv
        obtain ⟨hyes, hbad⟩ := clash_of hH (by rw [hai]; exact hf) f hkv
        rw [hae] at hyes hbad
        subst hkv
        cases c1 : decide (f = a.e) with
        | true =>
          have hno := hyes (of_decide_eq_true c1)
          have hH' := hH.put hno
          rw [hai, hae, ← hi1] at hH'
          simp only [push_cast, Nat.reduceAdd, Nat.reduceSub, Nat.reduceMul, Nat.reduceLeDiff, Nat.reduceEqDiff, Nat.reduceLT, Int.reduceLT, Int.reduceLE, Int.reduceEq, Int.reduceNeg, Int.reduceToNat, eV, ent_ne, c1]
          refine GoL_mapUpdate (1, 576) (b := b) (L := L) (key := a.index) (v := eV a.e) rfl rfl rfl rfl rfl Try.underlying51 (by kernel_rfl) ?_
          simp only [push_cast, Nat.reduceAdd, Nat.reduceSub, Nat.reduceMul, Nat.reduceLeDiff, Nat.reduceEqDiff, Nat.reduceLT, Int.reduceLT, Int.reduceLE, Int.reduceEq, Int.reduceNeg, Int.reduceToNat, ws]
          refine ⟨_, ?_, hX ⟨(i', _), by simp only; omega, hH', fun i2 h2 k2 hk2 => ?_⟩ (by simp only; omega)⟩
          · exact Weak.drop (by simp only [push_cast, Nat.reduceAdd, Nat.reduceSub, Nat.reduceMul, Nat.reduceLeDiff, Nat.reduceEqDiff, Nat.reduceLT, Int.reduceLT, Int.reduceLE, Int.reduceEq, Int.reduceNeg, Int.reduceToNat]) (by simp only [push_cast, Nat.reduceAdd, Nat.reduceSub, Nat.reduceMul, Nat.reduceLeDiff, Nat.reduceEqDiff, Nat.reduceLT, Int.reduceLT, Int.reduceLE, Int.reduceEq, Int.reduceNeg, Int.reduceToNat]) (by simp only [push_cast, Nat.reduceAdd, Nat.reduceSub, Nat.reduceMul, Nat.reduceLeDiff, Nat.reduceEqDiff, Nat.reduceLT, Int.reduceLT, Int.reduceLE, Int.reduceEq, Int.reduceNeg, Int.reduceToNat])
          · by_cases e : i2 = i
            · rw [e] at hk2 ⊢; exact hno k2 hk2
            · exact hfine i2 (by simp only at h2; omega) k2 hk2
        | false =>
          obtain ⟨k2, hk2, hc⟩ := hbad (of_decide_eq_false c1)
          have hr := saB_no hi' hk2 hc
          simp only [Try.ntmps24, Try.results24, push_cast, Nat.reduceAdd, Nat.reduceSub, Nat.reduceMul, Nat.reduceLeDiff, Nat.reduceEqDiff, Nat.reduceLT, Int.reduceLT, Int.reduceLE, Int.reduceEq, Int.reduceNeg, Int.reduceToNat, eV, ent_ne, c1]
          refine hK _ _ _ (Weak.refl _) rfl rfl rfl ?_
          unfold enR enE
          rw [hr]
          simp only [Try.ntmps17, Try.results17, push_cast, Nat.reduceAdd, Nat.reduceSub, Nat.reduceMul, Nat.reduceLeDiff, Nat.reduceEqDiff, Nat.reduceLT, Int.reduceLT, Int.reduceLE, Int.reduceEq, Int.reduceNeg, Int.reduceToNat]
          refine ⟨_, Weak.nilRoot (0, 1) 3 2 rfl rfl rfl, ?_⟩
          simp only [Try.ntmps17, Try.results17, push_cast, Nat.reduceAdd, Nat.reduceSub, Nat.reduceMul, Nat.reduceLeDiff, Nat.reduceEqDiff, Nat.reduceLT, Int.reduceLT, Int.reduceLE, Int.reduceEq, Int.reduceNeg, Int.reduceToNat, Bool.false_eq_true, ents_nil]
    · have hie : i = l.length := by omega
      have hr : saB l = true := by rw [saB]; exact decide_eq_true (hie ▸ hfine)
      rw [hie] at hH
      simp only [Try.ntmps24, Try.results24, push_cast, Nat.reduceAdd, Nat.reduceSub, Nat.reduceMul, Nat.reduceLeDiff, Nat.reduceEqDiff, Nat.reduceLT, Int.reduceLT, Int.reduceLE, Int.reduceEq, Int.reduceNeg, Int.reduceToNat, aps_length, hlt]
      refine hK _ _ _ (Weak.refl _) rfl rfl rfl ?_
      simp only [Try.ntmps17, Try.results17, push_cast, Nat.reduceAdd, Nat.reduceSub, Nat.reduceMul, Nat.reduceLeDiff, Nat.reduceEqDiff, Nat.reduceLT, Int.reduceLT, Int.reduceLE, Int.reduceEq, Int.reduceNeg, Int.reduceToNat]
      refine Go_loop (α := {out : List Ent // Sq l out})
        (fun out => ⟨tp 32 [(2, .x (.one (.v (.slice none 0 0)))), (3, .x (bo false)), (4, .x (.one (.v (.map (some b))))), (6, .x (.one (.rs (0, 1984) [] 3 0 out.1.length))), (7, int (out.1.length + 1 : Nat))], 0,
          [((0, 1984), ⟨.sl, 3, vR (ents out.1)⟩), ((1, 576), ⟨.mp b (mpI .i64 L), 0, []⟩)], []⟩)
        (fun out => l.length + 1 - out.1.length) ⟨[], Sq.nil l⟩ ?_ ?_
      · refine Weak.trans (Weak.nilRoot (0, 1984) 3 6 rfl rfl rfl) ?_
        simp only [push_cast, Nat.reduceAdd, Nat.reduceSub, Nat.reduceMul, Nat.reduceLeDiff, Nat.reduceEqDiff, Nat.reduceLT, Int.reduceLT, Int.reduceLE, Int.reduceEq, Int.reduceNeg, Int.reduceToNat, ents_nil]
        exact Weak.drop (by simp only [push_cast, Nat.reduceAdd, Nat.reduceSub, Nat.reduceMul, Nat.reduceLeDiff, Nat.reduceEqDiff, Nat.reduceLT, Int.reduceLT, Int.reduceLE, Int.reduceEq, Int.reduceNeg, Int.reduceToNat, ents_nil, Int.zero_add]) (by simp only [push_cast, Nat.reduceAdd, Nat.reduceSub, Nat.reduceMul, Nat.reduceLeDiff, Nat.reduceEqDiff, Nat.reduceLT, Int.reduceLT, Int.reduceLE, Int.reduceEq, Int.reduceNeg, Int.reduceToNat, ents_nil, Int.zero_add]) (by simp only [push_cast, Nat.reduceAdd, Nat.reduceSub, Nat.reduceMul, Nat.reduceLeDiff, Nat.reduceEqDiff, Nat.reduceLT, Int.reduceLT, Int.reduceLE, Int.reduceEq, Int.reduceNeg, Int.reduceToNat, ents_nil, Int.zero_add])
      · rintro ⟨out, hsq⟩ Y hY
        have hle := hsq.le
        have wl : IntKind.i64.wrap (((out.length + 1 : Nat) : Int) + 1) = ((out.length + 1 + 1 : Nat) : Int) := wN (by omega) (by omega)
        have hfind := findI_first hH ((out.length + 1 : Nat) : Int)
        have hstep := fun e => Sq.step (e := e) hsq
        have hdone := hsq.done
        obtain ⟨j, hj⟩ : ∃ j, j = out.length + 1 := ⟨_, rfl⟩
        simp only
        rw [← hj] at hfind hstep hdone wl ⊢
        simp only [push_cast, Nat.reduceAdd, Nat.reduceSub, Nat.reduceMul, Nat.reduceLeDiff, Nat.reduceEqDiff, Nat.reduceLT, Int.reduceLT, Int.reduceLE, Int.reduceEq, Int.reduceNeg, Int.reduceToNat]
        refine GoL_lookup (1, 576) (b := b) (L := L) (key := (j : Int)) (z := .agg #[.int .i64 0, .int .i64 0, .string ⟨#[]⟩]) rfl rfl rfl rfl Try.underlying51 (by kernel_rfl) (by kernel_rfl) ?_
        cases hf : first l (j : Int) with
        | none =>
          rw [hf] at hfind
          simp only [Option.map_none] at hfind
          have hout := hdone hf
          unfold enR enE
          rw [hr]
          simp only [Try.ntmps17, Try.results17, push_cast, Nat.reduceAdd, Nat.reduceSub, Nat.reduceMul, Nat.reduceLeDiff, Nat.reduceEqDiff, Nat.reduceLT, Int.reduceLT, Int.reduceLE, Int.reduceEq, Int.reduceNeg, Int.reduceToNat, hfind]
          refine ⟨_, Weak.refl _, ?_⟩
          rw [← hout]
          simp only [Try.ntmps17, Try.results17, push_cast, Nat.reduceAdd, Nat.reduceSub, Nat.reduceMul, Nat.reduceLeDiff, Nat.reduceEqDiff, Nat.reduceLT, Int.reduceLT, Int.reduceLE, Int.reduceEq, Int.reduceNeg, Int.reduceToNat, ents_length]
        | some e =>
          rw [hf] at hfind
          simp only [Option.map_some] at hfind
          have hsq' := hstep e hf
          have happ := ents_app out e
          have x1 : out.length + 1 ≤ 4294967296 := by omega
          have x2 := max_len x1
          have x3 := room_le (b := 32) x1 (by decide)
          simp only [Try.ntmps17, Try.results17, push_cast, Nat.reduceAdd, Nat.reduceSub, Nat.reduceMul, Nat.reduceLeDiff, Nat.reduceEqDiff, Nat.reduceLT, Int.reduceLT, Int.reduceLE, Int.reduceEq, Int.reduceNeg, Int.reduceToNat, hfind, eV, ents_length, x1, x2, x3, happ, wl]
          refine ⟨_, ?_, hY ⟨out ++ [e], hsq'⟩ (by simp only [List.length_append, List.length_cons, List.length_nil]; omega)⟩
          simp only [List.length_append, List.length_cons, List.length_nil, Nat.zero_add, ← hj]
          exact Weak.drop (by simp only [push_cast, Nat.reduceAdd, Nat.reduceSub, Nat.reduceMul, Nat.reduceLeDiff, Nat.reduceEqDiff, Nat.reduceLT, Int.reduceLT, Int.reduceLE, Int.reduceEq, Int.reduceNeg, Int.reduceToNat]) (by simp only [push_cast, Nat.reduceAdd, Nat.reduceSub, Nat.reduceMul, Nat.reduceLeDiff, Nat.reduceEqDiff, Nat.reduceLT, Int.reduceLT, Int.reduceLE, Int.reduceEq, Int.reduceNeg, Int.reduceToNat]) (by simp only [push_cast, Nat.reduceAdd, Nat.reduceSub, Nat.reduceMul, Nat.reduceLeDiff, Nat.reduceEqDiff, Nat.reduceLT, Int.reduceLT, Int.reduceLE, Int.reduceEq, Int.reduceNeg, Int.reduceToNat])
end Go.Proofs.Ytcdjpfikpliagaa
