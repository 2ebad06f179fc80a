/- Decode, the document's way. -/
import Derived.Test.YtadbfhgeekpdgaaW27
namespace Go.Proofs.Ytadbfhgeekpdgaa
open Go.RowKit Go.Rx
set_option linter.unusedSimpArgs false
set_option maxRecDepth 100000

theorem ents_nil : vR (ents []) = [] := rfl
theorem ints_nil : vR (ints []) = [] := rfl
theorem bu_ext (t : ByteArray) {n i : Nat} (h : i < n) : bu (t.extract 0 n) i = bu t i := by
  unfold bu
  rw [extract_list, seg, List.drop_zero, Nat.sub_zero, List.getD_eq_getElem?_getD, List.getElem?_take_of_lt h, List.getD_eq_getElem?_getD]
theorem eX_eq (T : ByteArray) : eX T = [i64 (if eOk T then (eN1 T : Int) else 0), .agg [.v (.int .i64 (eEnt T).term), .v (.int .i64 (eEnt T).kind), .v (.string (eEnt T).data)], bo (eOk T)] := by
  cases h : eOk T with
  | true => rw [eX_true h, eEnt_true h]; rfl
  | false => rw [eX_false h, eEnt_false h]; rfl
theorem eEnt_size (T : ByteArray) : (eEnt T).data.size ≤ T.size := by
  unfold eEnt
  split
  · show (eD T).size ≤ _
    unfold eD; rw [ByteArray.size_extract]; omega
  · exact Nat.zero_le _
theorem spR_le (t : ByteArray) : ∀ r a b, a ≤ t.size → (spR t r a b).1 ≤ t.size ∧ (spR t r a b).2.2.length ≤ r ∧ ∀ e ∈ (spR t r a b).2.2, e.data.size ≤ t.size
  | 0, a, b, ha => ⟨ha, Nat.le_refl _, fun e he => by cases he⟩
  | r + 1, a, b, ha => by
    cases b with
    | true => rw [spR_bad]; exact ⟨ha, Nat.zero_le _, fun e he => by cases he⟩
    | false =>
      obtain ⟨h1, h2, h3⟩ := spR_le t r (l5A t a false) (l5B t a false) (l5A_le ha)
      refine ⟨h1, Nat.succ_le_succ h2, fun e he => ?_⟩
      rcases List.mem_cons.1 he with rfl | he
      · exact Nat.le_trans (eEnt_size _) (takeT_size _ _ _ _)
      · exact h3 e he
theorem spR_step (t : ByteArray) (r a : Nat) : spR t (r + 1) a false = ((spR t r (l5A t a false) (l5B t a false)).1, (spR t r (l5A t a false) (l5B t a false)).2.1, eEnt (l5T t a false) :: (spR t r (l5A t a false) (l5B t a false)).2.2) := rfl
theorem mSR_true {t : ByteArray} (h : sGood t = true) : mSR t = [.agg ((mS t).enc (.own 3) (.own 1)), bo true] := by simp only [mSR, h, if_true]
theorem mSR_false {t : ByteArray} (h : sGood t = false) : mSR t = [.agg (mZ.enc (.own 3) (.own 1)), bo false] := by simp only [mSR, h, Bool.false_eq_true, if_false]
theorem ents_app (l : List Ent) (e : Ent) : vR (ents l) ++ [[.v (.int .i64 e.term), .v (.int .i64 e.kind), .v (.string e.data)]] = vR (ents (l ++ [e])) := by
  simp [vR, ents, entV]
set_option maxHeartbeats 4000000 in
theorem decodeS_ok (t : ByteArray) (hs : t.size ≤ 140737488355328) : PureFn Try.prog 25 [st t] (mSR t) := by
  refine PureFn_of_GoW Try.func25 rfl (by decide) mo (by decide +kernel) ?_
  have k0 := l05Take_ok t hs 0 (Nat.zero_le _) false 3 (by decide)
  rw [show ((3 : Nat) : Int) = 3 from rfl] at k0
  simp only [Try.ntmps25, Try.results25, push_cast, Nat.reduceAdd, Nat.reduceSub, Nat.reduceMul, Nat.reduceLeDiff, Nat.reduceEqDiff, Nat.reduceLT, Int.reduceLT, Int.reduceLE, Int.reduceEq, Int.reduceNeg, Int.reduceToNat]
  refine GoL_io (0, 1024) .box 3 [sc t 0 false] rfl rfl rfl rfl (.inl rfl) rfl k0 rfl rfl ?_
  cases c0 : takeB t 0 false 3 with
  | true =>
    rw [mSR_false (by rw [sGood, c0]; rfl)]
    simp only [Try.ntmps25, Try.results25, push_cast, Nat.reduceAdd, Nat.reduceSub, Nat.reduceMul, Nat.reduceLeDiff, Nat.reduceEqDiff, Nat.reduceLT, Int.reduceLT, Int.reduceLE, Int.reduceEq, Int.reduceNeg, Int.reduceToNat, sc]
    refine ⟨_, Weak.trans (Weak.nilCell (0, 1) (0, 128) 3 8 rfl rfl rfl rfl) (Weak.nilCell (0, 2) (0, 128) 1 9 rfl rfl rfl rfl), ?_⟩
    simp only [Try.ntmps25, Try.results25, push_cast, Nat.reduceAdd, Nat.reduceSub, Nat.reduceMul, Nat.reduceLeDiff, Nat.reduceEqDiff, Nat.reduceLT, Int.reduceLT, Int.reduceLE, Int.reduceEq, Int.reduceNeg, Int.reduceToNat, Msg.enc, mZ, ents_nil, ints_nil]
  | false =>
  have hsz := take3.1 c0
  have le1 : gA1 t 3 false ≤ t.size := numA_le hsz
  have le2 : gA2 t 3 false ≤ t.size := numA_le le1
  have le3 : gA3 t 3 false ≤ t.size := numA_le le2
  have le4 : gA4 t 3 false ≤ t.size := numA_le le3
  have le5 : gA5 t 3 false ≤ t.size := takeA_le le4
  have le6 : sA6 t 3 false ≤ t.size := takeA_le le5
  have le7 : sA7 t 3 false ≤ t.size := numA_le le6
  have k1 : IoFn Try.prog 36 .box 3 [sc t 3 false] [] [sc t (gA1 t 3 false) (gB1 t 3 false)] [i64 (gT t 3 false)] := l05Var_ok t hs 3 hsz false
  have k2 : IoFn Try.prog 36 .box 3 [sc t (gA1 t 3 false) (gB1 t 3 false)] [] [sc t (gA2 t 3 false) (gB2 t 3 false)] [i64 (gI t 3 false)] := l05Var_ok t hs _ le1 _
  have k3 : IoFn Try.prog 36 .box 3 [sc t (gA2 t 3 false) (gB2 t 3 false)] [] [sc t (gA3 t 3 false) (gB3 t 3 false)] [i64 (gL t 3 false)] := l05Var_ok t hs _ le2 _
  have k4 : IoFn Try.prog 36 .box 3 [sc t (gA3 t 3 false) (gB3 t 3 false)] [] [sc t (gA4 t 3 false) (gB4 t 3 false)] [i64 (gC t 3 false)] := l05Var_ok t hs _ le3 _
  have k5 : IoFn Try.prog 35 .box 3 [sc t (gA4 t 3 false) (gB4 t 3 false)] [i64 1] [sc t (gA5 t 3 false) (sB5 t 3 false)] [st (sF1 t 3 false)] := l05Take_ok t hs _ le4 _ 1 (by decide)
  have k6 : IoFn Try.prog 35 .box 3 [sc t (gA5 t 3 false) (sB5 t 3 false)] [i64 1] [sc t (sA6 t 3 false) (sB6 t 3 false)] [st (sF2 t 3 false)] := l05Take_ok t hs _ le5 _ 1 (by decide)
  have k7 : IoFn Try.prog 36 .box 3 [sc t (sA6 t 3 false) (sB6 t 3 false)] [] [sc t (sA7 t 3 false) (sB7 t 3 false)] [i64 (sN t 3 false)] := l05Var_ok t hs _ le6 _
  have hH : takeT t 0 false 3 = t.extract 0 3 := (takeB_false c0).2.2.2
  have hHA : takeA t 0 false 3 = 3 := (takeB_false c0).2.2.1
  obtain ⟨H, hHe⟩ : ∃ H, H = t.extract 0 3 := ⟨_, rfl⟩
  have hHs : H.size = 3 := by rw [hHe, ByteArray.size_extract]; omega
  have b0 : H[0]? = some (bu t 0) := by rw [bu_get (by omega), hHe, bu_ext t (by decide)]
  have b1 : H[1]? = some (bu t 1) := by rw [bu_get (by omega), hHe, bu_ext t (by decide)]
  have b2 : H[2]? = some (bu t 2) := by rw [bu_get (by omega), hHe, bu_ext t (by decide)]
  have i0 := index_str (P := Try.prog) (t := 9) H 0 .i64
  have i1 := index_str (P := Try.prog) (t := 9) H 1 .i64
  have i2 := index_str (P := Try.prog) (t := 9) H 2 .i64
  rw [show ((0 : Nat) : Int) = 0 from rfl] at i0
  rw [show ((1 : Nat) : Int) = 1 from rfl] at i1
  rw [show ((2 : Nat) : Int) = 2 from rfl] at i2
  rw [hHA, hH, ← hHe]
  obtain ⟨u0, hu0⟩ : ∃ u, u = (bu t 0).toNat := ⟨_, rfl⟩
  obtain ⟨u1, hu1⟩ : ∃ u, u = (bu t 1).toNat := ⟨_, rfl⟩
  obtain ⟨u2, hu2⟩ : ∃ u, u = (bu t 2).toNat := ⟨_, rfl⟩
  have w0 : IntKind.i64.wrap (u0 : Int) = (u0 : Int) := wN rfl (by have := u8_lt (bu t 0); omega)
  have w1 : IntKind.i64.wrap (u1 : Int) = (u1 : Int) := wN rfl (by have := u8_lt (bu t 1); omega)
  have w2 : IntKind.i64.wrap (u2 : Int) = (u2 : Int) := wN rfl (by have := u8_lt (bu t 2); omega)
  simp only [Try.ntmps25, Try.results25, push_cast, Nat.reduceAdd, Nat.reduceSub, Nat.reduceMul, Nat.reduceLeDiff, Nat.reduceEqDiff, Nat.reduceLT, Int.reduceLT, Int.reduceLE, Int.reduceEq, Int.reduceNeg, Int.reduceToNat, sc, i0, i1, i2, b0, b1, b2, ← hu0, ← hu1, ← hu2, w0, w1, w2]
  refine GoL_io (0, 1024) .box 3 [sc t 3 false] rfl rfl rfl rfl (.inl rfl) rfl k1 rfl rfl ?_
  simp only [Try.ntmps25, Try.results25, push_cast, Nat.reduceAdd, Nat.reduceSub, Nat.reduceMul, Nat.reduceLeDiff, Nat.reduceEqDiff, Nat.reduceLT, Int.reduceLT, Int.reduceLE, Int.reduceEq, Int.reduceNeg, Int.reduceToNat, sc]
  refine GoL_io (0, 1024) .box 3 [sc t (gA1 t 3 false) (gB1 t 3 false)] rfl rfl rfl rfl (.inl rfl) rfl k2 rfl rfl ?_
  simp only [Try.ntmps25, Try.results25, push_cast, Nat.reduceAdd, Nat.reduceSub, Nat.reduceMul, Nat.reduceLeDiff, Nat.reduceEqDiff, Nat.reduceLT, Int.reduceLT, Int.reduceLE, Int.reduceEq, Int.reduceNeg, Int.reduceToNat, sc]
  refine GoL_io (0, 1024) .box 3 [sc t (gA2 t 3 false) (gB2 t 3 false)] rfl rfl rfl rfl (.inl rfl) rfl k3 rfl rfl ?_
  simp only [Try.ntmps25, Try.results25, push_cast, Nat.reduceAdd, Nat.reduceSub, Nat.reduceMul, Nat.reduceLeDiff, Nat.reduceEqDiff, Nat.reduceLT, Int.reduceLT, Int.reduceLE, Int.reduceEq, Int.reduceNeg, Int.reduceToNat, sc]
  refine GoL_io (0, 1024) .box 3 [sc t (gA3 t 3 false) (gB3 t 3 false)] rfl rfl rfl rfl (.inl rfl) rfl k4 rfl rfl ?_
  simp only [Try.ntmps25, Try.results25, push_cast, Nat.reduceAdd, Nat.reduceSub, Nat.reduceMul, Nat.reduceLeDiff, Nat.reduceEqDiff, Nat.reduceLT, Int.reduceLT, Int.reduceLE, Int.reduceEq, Int.reduceNeg, Int.reduceToNat, sc]
  refine GoL_io (0, 1024) .box 3 [sc t (gA4 t 3 false) (gB4 t 3 false)] rfl rfl rfl rfl (.inl rfl) rfl k5 rfl rfl ?_
  simp only [Try.ntmps25, Try.results25, push_cast, Nat.reduceAdd, Nat.reduceSub, Nat.reduceMul, Nat.reduceLeDiff, Nat.reduceEqDiff, Nat.reduceLT, Int.reduceLT, Int.reduceLE, Int.reduceEq, Int.reduceNeg, Int.reduceToNat, sc]
  refine GoL_io (0, 1024) .box 3 [sc t (gA5 t 3 false) (sB5 t 3 false)] rfl rfl rfl rfl (.inl rfl) rfl k6 rfl rfl ?_
  simp only [Try.ntmps25, Try.results25, push_cast, Nat.reduceAdd, Nat.reduceSub, Nat.reduceMul, Nat.reduceLeDiff, Nat.reduceEqDiff, Nat.reduceLT, Int.reduceLT, Int.reduceLE, Int.reduceEq, Int.reduceNeg, Int.reduceToNat, sc]
  refine GoL_io (0, 1024) .box 3 [sc t (sA6 t 3 false) (sB6 t 3 false)] rfl rfl rfl rfl (.inl rfl) rfl k7 rfl rfl ?_
  simp only [Try.ntmps25, Try.results25, push_cast, Nat.reduceAdd, Nat.reduceSub, Nat.reduceMul, Nat.reduceLeDiff, Nat.reduceEqDiff, Nat.reduceLT, Int.reduceLT, Int.reduceLE, Int.reduceEq, Int.reduceNeg, Int.reduceToNat, sc]
  obtain ⟨N, hN⟩ : ∃ N, N = sN t 3 false := ⟨_, rfl⟩
  rw [← hN]
  have hR7 : sR7 t 3 false = spR t (min N 5) (sA7 t 3 false) (sB7 t 3 false) := by rw [hN]; rfl
  refine Go_loop (α := {p : Nat × Nat × Bool × List Ent // p.1 ≤ 5 ∧ p.2.1 ≤ t.size ∧ p.2.2.2.length = p.1 ∧ (∀ e ∈ p.2.2.2, e.data.size ≤ t.size) ∧
        sR7 t 3 false = ((spR t (min N 5 - p.1) p.2.1 p.2.2.1).1, (spR t (min N 5 - p.1) p.2.1 p.2.2.1).2.1, p.2.2.2 ++ (spR t (min N 5 - p.1) p.2.1 p.2.2.1).2.2)})
    (fun p => ⟨tp 115 [(0, .x (st t)), (2, .x (.one (.pt (0, 128) [] 12 0 0))), (3, .x (bo false)), (4, .x (.one (.pt (0, 1024) [] 3 0 0))), (6, .x (.one (.pt (0, 384) [] 12 0 0))), (7, int N), (8, int p.1.1)], 0,
      [((0, 5312), ⟨.sl, 3, vR (ents p.1.2.2.2)⟩),
       ((0, 384), ⟨.box, 12, [[.v (.int .i64 u0), .v (.int .i64 u1), .v (.int .i64 u2), .v (.int .i64 (gT t 3 false)), .v (.int .i64 (gI t 3 false)), .v (.int .i64 (gL t 3 false)), .v (.int .i64 (gC t 3 false)),
          .v (.bool (decide (sF1 t 3 false = ⟨#[1]⟩))), .rs (0, 5312) [] 3 0 p.1.2.2.2.length, .v (.slice none 0 0), .v (.string ⟨#[]⟩), .v (.bool (decide (sF2 t 3 false = ⟨#[1]⟩)))]]⟩),
       ((0, 1024), ⟨.box, 3, [[.v (.string t), .v (.int .i64 p.1.2.1), .v (.bool p.1.2.2.1)]]⟩),
       ((0, 128), ⟨.box, 12, [[.v (.int .i64 0), .v (.int .i64 0), .v (.int .i64 0), .v (.int .i64 0), .v (.int .i64 0), .v (.int .i64 0), .v (.int .i64 0), .v (.bool false), .v (.slice none 0 0), .v (.slice none 0 0), .v (.string ⟨#[]⟩), .v (.bool false)]]⟩)], []⟩)
    (fun p => 5 - p.1.1) ⟨(0, sA7 t 3 false, sB7 t 3 false, []), Nat.zero_le _, le7, rfl, fun e he => (by cases he), by rw [hR7]; rfl⟩ ?_ ?_
  · refine Weak.trans (Weak.nilCell (0, 5312) (0, 384) 3 8 rfl rfl rfl rfl) ?_
    simp only [push_cast, Nat.reduceAdd, Nat.reduceSub, Nat.reduceMul, Nat.reduceLeDiff, Nat.reduceEqDiff, Nat.reduceLT, Int.reduceLT, Int.reduceLE, Int.reduceEq, Int.reduceNeg, Int.reduceToNat, Int.ofNat_zero]
    exact Weak.drop (by simp only [push_cast, Nat.reduceAdd, Nat.reduceSub, Nat.reduceMul, Nat.reduceLeDiff, Nat.reduceEqDiff, Nat.reduceLT, Int.reduceLT, Int.reduceLE, Int.reduceEq, Int.reduceNeg, Int.reduceToNat, Int.ofNat_zero, ents_nil]) (by simp only [push_cast, Nat.reduceAdd, Nat.reduceSub, Nat.reduceMul, Nat.reduceLeDiff, Nat.reduceEqDiff, Nat.reduceLT, Int.reduceLT, Int.reduceLE, Int.reduceEq, Int.reduceNeg, Int.reduceToNat, Int.ofNat_zero, ents_nil]) (by simp only [push_cast, Nat.reduceAdd, Nat.reduceSub, Nat.reduceMul, Nat.reduceLeDiff, Nat.reduceEqDiff, Nat.reduceLT, Int.reduceLT, Int.reduceLE, Int.reduceEq, Int.reduceNeg, Int.reduceToNat, Int.ofNat_zero, ents_nil])
  · rintro ⟨⟨i, a, b, acc⟩, hi5, ha, hlen, hall, hinv⟩ X hX
    simp only at hi5 ha hlen hall hinv
    have hcl : (l5T t a b).size ≤ 140737488355328 := Nat.le_trans (takeT_size _ _ _ _) hs
    cases d1 : decide ((i : Int) < (N : Int)) with
    | false =>
      have hfin : sR7 t 3 false = (a, b, acc) := by
        simp only [decide_eq_false_iff_not] at d1
        rw [hinv, show min N 5 - i = 0 by omega]; simp [spR]
      have eA8 : sA8 t 3 false = a := by unfold sA8; rw [hfin]
      have eB8 : sB8 t 3 false = b := by unfold sB8; rw [hfin]
      have eEs : sEs t 3 false = acc := by unfold sEs; rw [hfin]
      have k8 : IoFn Try.prog 63 .box 3 [sc t a b] [] [sc t (sA9 t 3 false) (sB9 t 3 false)] [st (sC t 3 false)] := by
        unfold sA9 sB9 sC; rw [eA8, eB8]; exact l05ReadShort_ok t hs a ha b
      have le9 : sA9 t 3 false ≤ t.size := by unfold sA9; rw [eA8]; exact l5A_le ha
      have k9 : IoFn Try.prog 63 .box 3 [sc t (sA9 t 3 false) (sB9 t 3 false)] [] [sc t (sA0 t 3 false) (sB0 t 3 false)] [st (sD t 3 false)] := l05ReadShort_ok t hs _ le9 _
      have hcs : (sC t 3 false).size ≤ t.size := takeT_size _ _ _ _
      have hds : (sD t 3 false).size ≤ t.size := takeT_size _ _ _ _
      have kc := readConfS_ok (sC t 3 false) (by omega)
      rw [rcX_eq] at kc
      have hzl := zConf_len (sC t 3 false)
      have hM : mS t = ⟨u0, u1, u2, gT t 3 false, gI t 3 false, gL t 3 false, gC t 3 false, decide (sF1 t 3 false = ⟨#[1]⟩), acc, zConf (sC t 3 false), sD t 3 false, decide (sF2 t 3 false = ⟨#[1]⟩)⟩ := by
        unfold mS; rw [eEs, ← hu0, ← hu1, ← hu2]
      have hok : (mS t).Ok := by
        rw [hM]; exact ⟨by simp only; omega, fun e he => Nat.le_trans (hall e he) hs, by simp only; omega, by simp only; omega⟩
      have ke := encode_ok (mS t) hok
      simp only [Try.ntmps25, Try.results25, push_cast, Nat.reduceAdd, Nat.reduceSub, Nat.reduceMul, Nat.reduceLeDiff, Nat.reduceEqDiff, Nat.reduceLT, Int.reduceLT, Int.reduceLE, Int.reduceEq, Int.reduceNeg, Int.reduceToNat, sc, d1]
      refine GoL_io (0, 1024) .box 3 [sc t a b] rfl rfl rfl rfl (.inl rfl) rfl k8 rfl rfl ?_
      simp only [Try.ntmps25, Try.results25, push_cast, Nat.reduceAdd, Nat.reduceSub, Nat.reduceMul, Nat.reduceLeDiff, Nat.reduceEqDiff, Nat.reduceLT, Int.reduceLT, Int.reduceLE, Int.reduceEq, Int.reduceNeg, Int.reduceToNat, sc]
      refine GoL_call rfl rfl kc (by simp only [push_cast, Nat.reduceAdd, Nat.reduceSub, Nat.reduceMul, Nat.reduceLeDiff, Nat.reduceEqDiff, Nat.reduceLT, Int.reduceLT, Int.reduceLE, Int.reduceEq, Int.reduceNeg, Int.reduceToNat]) rfl ?_
      simp only [Try.ntmps25, Try.results25, push_cast, Nat.reduceAdd, Nat.reduceSub, Nat.reduceMul, Nat.reduceLeDiff, Nat.reduceEqDiff, Nat.reduceLT, Int.reduceLT, Int.reduceLE, Int.reduceEq, Int.reduceNeg, Int.reduceToNat, sc, ints_length]
      refine GoL_io (0, 1024) .box 3 [sc t (sA9 t 3 false) (sB9 t 3 false)] rfl rfl rfl rfl (.inl rfl) rfl k9 rfl rfl ?_
      simp only [Try.ntmps25, Try.results25, push_cast, Nat.reduceAdd, Nat.reduceSub, Nat.reduceMul, Nat.reduceLeDiff, Nat.reduceEqDiff, Nat.reduceLT, Int.reduceLT, Int.reduceLE, Int.reduceEq, Int.reduceNeg, Int.reduceToNat, sc, ints_length, ents_length]
      cases hmo : moB (mS t) with
      | false =>
        rw [encX_false hmo, hM] at ke
        simp only [Msg.enc] at ke
        rw [mSR_false (by rw [sGood, hmo]; simp)]
        refine GoL_call rfl (by simp only [push_cast, Nat.reduceAdd, Nat.reduceSub, Nat.reduceMul, Nat.reduceLeDiff, Nat.reduceEqDiff, Nat.reduceLT, Int.reduceLT, Int.reduceLE, Int.reduceEq, Int.reduceNeg, Int.reduceToNat, ints_take, ents_take]) ke rfl rfl ?_
        cases c1 : sB0 t 3 false with
        | true =>
          simp only [Try.ntmps25, Try.results25, push_cast, Nat.reduceAdd, Nat.reduceSub, Nat.reduceMul, Nat.reduceLeDiff, Nat.reduceEqDiff, Nat.reduceLT, Int.reduceLT, Int.reduceLE, Int.reduceEq, Int.reduceNeg, Int.reduceToNat, sc]
          refine ⟨_, Weak.trans (Weak.nilCell (0, 1) (0, 128) 3 8 rfl rfl rfl rfl) (Weak.nilCell (0, 2) (0, 128) 1 9 rfl rfl rfl rfl), ?_⟩
          simp only [Try.ntmps25, Try.results25, push_cast, Nat.reduceAdd, Nat.reduceSub, Nat.reduceMul, Nat.reduceLeDiff, Nat.reduceEqDiff, Nat.reduceLT, Int.reduceLT, Int.reduceLE, Int.reduceEq, Int.reduceNeg, Int.reduceToNat, Msg.enc, mZ, ents_nil, ints_nil]
        | false =>
          simp only [Try.ntmps25, Try.results25, push_cast, Nat.reduceAdd, Nat.reduceSub, Nat.reduceMul, Nat.reduceLeDiff, Nat.reduceEqDiff, Nat.reduceLT, Int.reduceLT, Int.reduceLE, Int.reduceEq, Int.reduceNeg, Int.reduceToNat, sc]
          refine ⟨_, Weak.trans (Weak.nilCell (0, 1) (0, 128) 3 8 rfl rfl rfl rfl) (Weak.nilCell (0, 2) (0, 128) 1 9 rfl rfl rfl rfl), ?_⟩
          simp only [Try.ntmps25, Try.results25, push_cast, Nat.reduceAdd, Nat.reduceSub, Nat.reduceMul, Nat.reduceLeDiff, Nat.reduceEqDiff, Nat.reduceLT, Int.reduceLT, Int.reduceLE, Int.reduceEq, Int.reduceNeg, Int.reduceToNat, Msg.enc, mZ, ents_nil, ints_nil]
      | true =>
        rw [encX_true hmo] at ke
        obtain ⟨E, hE⟩ : ∃ E, E = encB (mS t) := ⟨_, rfl⟩
        rw [← hE, hM] at ke
        simp only [Msg.enc] at ke
        refine GoL_call rfl (by simp only [push_cast, Nat.reduceAdd, Nat.reduceSub, Nat.reduceMul, Nat.reduceLeDiff, Nat.reduceEqDiff, Nat.reduceLT, Int.reduceLT, Int.reduceLE, Int.reduceEq, Int.reduceNeg, Int.reduceToNat, ints_take, ents_take]) ke rfl rfl ?_
        cases c1 : sB0 t 3 false with
        | true =>
          rw [mSR_false (by rw [sGood, c1]; simp)]
          simp only [Try.ntmps25, Try.results25, push_cast, Nat.reduceAdd, Nat.reduceSub, Nat.reduceMul, Nat.reduceLeDiff, Nat.reduceEqDiff, Nat.reduceLT, Int.reduceLT, Int.reduceLE, Int.reduceEq, Int.reduceNeg, Int.reduceToNat, sc]
          refine ⟨_, Weak.trans (Weak.nilCell (0, 1) (0, 128) 3 8 rfl rfl rfl rfl) (Weak.nilCell (0, 2) (0, 128) 1 9 rfl rfl rfl rfl), ?_⟩
          simp only [Try.ntmps25, Try.results25, push_cast, Nat.reduceAdd, Nat.reduceSub, Nat.reduceMul, Nat.reduceLeDiff, Nat.reduceEqDiff, Nat.reduceLT, Int.reduceLT, Int.reduceLE, Int.reduceEq, Int.reduceNeg, Int.reduceToNat, Msg.enc, mZ, ents_nil, ints_nil]
        | false =>
          cases c3 : decide (E = t) with
          | true =>
            rw [mSR_true (by rw [sGood, c0, c1, hmo, ← hE, c3]; rfl), hM]
            simp only [Try.ntmps25, Try.results25, push_cast, Nat.reduceAdd, Nat.reduceSub, Nat.reduceMul, Nat.reduceLeDiff, Nat.reduceEqDiff, Nat.reduceLT, Int.reduceLT, Int.reduceLE, Int.reduceEq, Int.reduceNeg, Int.reduceToNat, sc, decide_not, c3]
            refine ⟨_, Weak.refl _, ?_⟩
            simp only [Try.ntmps25, Try.results25, push_cast, Nat.reduceAdd, Nat.reduceSub, Nat.reduceMul, Nat.reduceLeDiff, Nat.reduceEqDiff, Nat.reduceLT, Int.reduceLT, Int.reduceLE, Int.reduceEq, Int.reduceNeg, Int.reduceToNat, Msg.enc, ints_length, ents_length]
          | false =>
            rw [mSR_false (by rw [sGood, ← hE, c3]; simp)]
            simp only [Try.ntmps25, Try.results25, push_cast, Nat.reduceAdd, Nat.reduceSub, Nat.reduceMul, Nat.reduceLeDiff, Nat.reduceEqDiff, Nat.reduceLT, Int.reduceLT, Int.reduceLE, Int.reduceEq, Int.reduceNeg, Int.reduceToNat, sc, decide_not, c3]
            refine ⟨_, Weak.trans (Weak.nilCell (0, 1) (0, 128) 3 8 rfl rfl rfl rfl) (Weak.nilCell (0, 2) (0, 128) 1 9 rfl rfl rfl rfl), ?_⟩
            simp only [Try.ntmps25, Try.results25, push_cast, Nat.reduceAdd, Nat.reduceSub, Nat.reduceMul, Nat.reduceLeDiff, Nat.reduceEqDiff, Nat.reduceLT, Int.reduceLT, Int.reduceLE, Int.reduceEq, Int.reduceNeg, Int.reduceToNat, Msg.enc, mZ, ents_nil, ints_nil]
    | true =>
    cases b with
    | true =>
      have hfin : sR7 t 3 false = (a, true, acc) := by rw [hinv, spR_bad]; simp
      have eA8 : sA8 t 3 false = a := by unfold sA8; rw [hfin]
      have eB8 : sB8 t 3 false = true := by unfold sB8; rw [hfin]
      have eEs : sEs t 3 false = acc := by unfold sEs; rw [hfin]
      have k8 : IoFn Try.prog 63 .box 3 [sc t a true] [] [sc t (sA9 t 3 false) (sB9 t 3 false)] [st (sC t 3 false)] := by
        unfold sA9 sB9 sC; rw [eA8, eB8]; exact l05ReadShort_ok t hs a ha true
      have le9 : sA9 t 3 false ≤ t.size := by unfold sA9; rw [eA8]; exact l5A_le ha
      have k9 : IoFn Try.prog 63 .box 3 [sc t (sA9 t 3 false) (sB9 t 3 false)] [] [sc t (sA0 t 3 false) (sB0 t 3 false)] [st (sD t 3 false)] := l05ReadShort_ok t hs _ le9 _
      have hcs : (sC t 3 false).size ≤ t.size := takeT_size _ _ _ _
      have hds : (sD t 3 false).size ≤ t.size := takeT_size _ _ _ _
      have kc := readConfS_ok (sC t 3 false) (by omega)
      rw [rcX_eq] at kc
      have hzl := zConf_len (sC t 3 false)
      have hM : mS t = ⟨u0, u1, u2, gT t 3 false, gI t 3 false, gL t 3 false, gC t 3 false, decide (sF1 t 3 false = ⟨#[1]⟩), acc, zConf (sC t 3 false), sD t 3 false, decide (sF2 t 3 false = ⟨#[1]⟩)⟩ := by
        unfold mS; rw [eEs, ← hu0, ← hu1, ← hu2]
      have hok : (mS t).Ok := by
        rw [hM]; exact ⟨by simp only; omega, fun e he => Nat.le_trans (hall e he) hs, by simp only; omega, by simp only; omega⟩
      have ke := encode_ok (mS t) hok
      simp only [Try.ntmps25, Try.results25, push_cast, Nat.reduceAdd, Nat.reduceSub, Nat.reduceMul, Nat.reduceLeDiff, Nat.reduceEqDiff, Nat.reduceLT, Int.reduceLT, Int.reduceLE, Int.reduceEq, Int.reduceNeg, Int.reduceToNat, sc, d1]
      refine GoL_io (0, 1024) .box 3 [sc t a true] rfl rfl rfl rfl (.inl rfl) rfl k8 rfl rfl ?_
      simp only [Try.ntmps25, Try.results25, push_cast, Nat.reduceAdd, Nat.reduceSub, Nat.reduceMul, Nat.reduceLeDiff, Nat.reduceEqDiff, Nat.reduceLT, Int.reduceLT, Int.reduceLE, Int.reduceEq, Int.reduceNeg, Int.reduceToNat, sc]
      refine GoL_call rfl rfl kc (by simp only [push_cast, Nat.reduceAdd, Nat.reduceSub, Nat.reduceMul, Nat.reduceLeDiff, Nat.reduceEqDiff, Nat.reduceLT, Int.reduceLT, Int.reduceLE, Int.reduceEq, Int.reduceNeg, Int.reduceToNat]) rfl ?_
      simp only [Try.ntmps25, Try.results25, push_cast, Nat.reduceAdd, Nat.reduceSub, Nat.reduceMul, Nat.reduceLeDiff, Nat.reduceEqDiff, Nat.reduceLT, Int.reduceLT, Int.reduceLE, Int.reduceEq, Int.reduceNeg, Int.reduceToNat, sc, ints_length]
      refine GoL_io (0, 1024) .box 3 [sc t (sA9 t 3 false) (sB9 t 3 false)] rfl rfl rfl rfl (.inl rfl) rfl k9 rfl rfl ?_
      simp only [Try.ntmps25, Try.results25, push_cast, Nat.reduceAdd, Nat.reduceSub, Nat.reduceMul, Nat.reduceLeDiff, Nat.reduceEqDiff, Nat.reduceLT, Int.reduceLT, Int.reduceLE, Int.reduceEq, Int.reduceNeg, Int.reduceToNat, sc, ints_length, ents_length]
      cases hmo : moB (mS t) with
      | false =>
        rw [encX_false hmo, hM] at ke
        simp only [Msg.enc] at ke
        rw [mSR_false (by rw [sGood, hmo]; simp)]
        refine GoL_call rfl (by simp only [push_cast, Nat.reduceAdd, Nat.reduceSub, Nat.reduceMul, Nat.reduceLeDiff, Nat.reduceEqDiff, Nat.reduceLT, Int.reduceLT, Int.reduceLE, Int.reduceEq, Int.reduceNeg, Int.reduceToNat, ints_take, ents_take]) ke rfl rfl ?_
        cases c1 : sB0 t 3 false with
        | true =>
          simp only [Try.ntmps25, Try.results25, push_cast, Nat.reduceAdd, Nat.reduceSub, Nat.reduceMul, Nat.reduceLeDiff, Nat.reduceEqDiff, Nat.reduceLT, Int.reduceLT, Int.reduceLE, Int.reduceEq, Int.reduceNeg, Int.reduceToNat, sc]
          refine ⟨_, Weak.trans (Weak.nilCell (0, 1) (0, 128) 3 8 rfl rfl rfl rfl) (Weak.nilCell (0, 2) (0, 128) 1 9 rfl rfl rfl rfl), ?_⟩
          simp only [Try.ntmps25, Try.results25, push_cast, Nat.reduceAdd, Nat.reduceSub, Nat.reduceMul, Nat.reduceLeDiff, Nat.reduceEqDiff, Nat.reduceLT, Int.reduceLT, Int.reduceLE, Int.reduceEq, Int.reduceNeg, Int.reduceToNat, Msg.enc, mZ, ents_nil, ints_nil]
        | false =>
          simp only [Try.ntmps25, Try.results25, push_cast, Nat.reduceAdd, Nat.reduceSub, Nat.reduceMul, Nat.reduceLeDiff, Nat.reduceEqDiff, Nat.reduceLT, Int.reduceLT, Int.reduceLE, Int.reduceEq, Int.reduceNeg, Int.reduceToNat, sc]
          refine ⟨_, Weak.trans (Weak.nilCell (0, 1) (0, 128) 3 8 rfl rfl rfl rfl) (Weak.nilCell (0, 2) (0, 128) 1 9 rfl rfl rfl rfl), ?_⟩
          simp only [Try.ntmps25, Try.results25, push_cast, Nat.reduceAdd, Nat.reduceSub, Nat.reduceMul, Nat.reduceLeDiff, Nat.reduceEqDiff, Nat.reduceLT, Int.reduceLT, Int.reduceLE, Int.reduceEq, Int.reduceNeg, Int.reduceToNat, Msg.enc, mZ, ents_nil, ints_nil]
      | true =>
        rw [encX_true hmo] at ke
        obtain ⟨E, hE⟩ : ∃ E, E = encB (mS t) := ⟨_, rfl⟩
        rw [← hE, hM] at ke
        simp only [Msg.enc] at ke
        refine GoL_call rfl (by simp only [push_cast, Nat.reduceAdd, Nat.reduceSub, Nat.reduceMul, Nat.reduceLeDiff, Nat.reduceEqDiff, Nat.reduceLT, Int.reduceLT, Int.reduceLE, Int.reduceEq, Int.reduceNeg, Int.reduceToNat, ints_take, ents_take]) ke rfl rfl ?_
        cases c1 : sB0 t 3 false with
        | true =>
          rw [mSR_false (by rw [sGood, c1]; simp)]
          simp only [Try.ntmps25, Try.results25, push_cast, Nat.reduceAdd, Nat.reduceSub, Nat.reduceMul, Nat.reduceLeDiff, Nat.reduceEqDiff, Nat.reduceLT, Int.reduceLT, Int.reduceLE, Int.reduceEq, Int.reduceNeg, Int.reduceToNat, sc]
          refine ⟨_, Weak.trans (Weak.nilCell (0, 1) (0, 128) 3 8 rfl rfl rfl rfl) (Weak.nilCell (0, 2) (0, 128) 1 9 rfl rfl rfl rfl), ?_⟩
          simp only [Try.ntmps25, Try.results25, push_cast, Nat.reduceAdd, Nat.reduceSub, Nat.reduceMul, Nat.reduceLeDiff, Nat.reduceEqDiff, Nat.reduceLT, Int.reduceLT, Int.reduceLE, Int.reduceEq, Int.reduceNeg, Int.reduceToNat, Msg.enc, mZ, ents_nil, ints_nil]
        | false =>
          cases c3 : decide (E = t) with
          | true =>
            rw [mSR_true (by rw [sGood, c0, c1, hmo, ← hE, c3]; rfl), hM]
            simp only [Try.ntmps25, Try.results25, push_cast, Nat.reduceAdd, Nat.reduceSub, Nat.reduceMul, Nat.reduceLeDiff, Nat.reduceEqDiff, Nat.reduceLT, Int.reduceLT, Int.reduceLE, Int.reduceEq, Int.reduceNeg, Int.reduceToNat, sc, decide_not, c3]
            refine ⟨_, Weak.refl _, ?_⟩
            simp only [Try.ntmps25, Try.results25, push_cast, Nat.reduceAdd, Nat.reduceSub, Nat.reduceMul, Nat.reduceLeDiff, Nat.reduceEqDiff, Nat.reduceLT, Int.reduceLT, Int.reduceLE, Int.reduceEq, Int.reduceNeg, Int.reduceToNat, Msg.enc, ints_length, ents_length]
          | false =>
            rw [mSR_false (by rw [sGood, ← hE, c3]; simp)]
            simp only [Try.ntmps25, Try.results25, push_cast, Nat.reduceAdd, Nat.reduceSub, Nat.reduceMul, Nat.reduceLeDiff, Nat.reduceEqDiff, Nat.reduceLT, Int.reduceLT, Int.reduceLE, Int.reduceEq, Int.reduceNeg, Int.reduceToNat, sc, decide_not, c3]
            refine ⟨_, Weak.trans (Weak.nilCell (0, 1) (0, 128) 3 8 rfl rfl rfl rfl) (Weak.nilCell (0, 2) (0, 128) 1 9 rfl rfl rfl rfl), ?_⟩
            simp only [Try.ntmps25, Try.results25, push_cast, Nat.reduceAdd, Nat.reduceSub, Nat.reduceMul, Nat.reduceLeDiff, Nat.reduceEqDiff, Nat.reduceLT, Int.reduceLT, Int.reduceLE, Int.reduceEq, Int.reduceNeg, Int.reduceToNat, Msg.enc, mZ, ents_nil, ints_nil]
    | false =>
    cases d2 : decide ((i : Int) ≤ 4) with
    | false =>
      have hfin : sR7 t 3 false = (a, false, acc) := by
        simp only [decide_eq_false_iff_not] at d2
        rw [hinv, show min N 5 - i = 0 by omega]; simp [spR]
      have eA8 : sA8 t 3 false = a := by unfold sA8; rw [hfin]
      have eB8 : sB8 t 3 false = false := by unfold sB8; rw [hfin]
      have eEs : sEs t 3 false = acc := by unfold sEs; rw [hfin]
      have k8 : IoFn Try.prog 63 .box 3 [sc t a false] [] [sc t (sA9 t 3 false) (sB9 t 3 false)] [st (sC t 3 false)] := by
        unfold sA9 sB9 sC; rw [eA8, eB8]; exact l05ReadShort_ok t hs a ha false
      have le9 : sA9 t 3 false ≤ t.size := by unfold sA9; rw [eA8]; exact l5A_le ha
      have k9 : IoFn Try.prog 63 .box 3 [sc t (sA9 t 3 false) (sB9 t 3 false)] [] [sc t (sA0 t 3 false) (sB0 t 3 false)] [st (sD t 3 false)] := l05ReadShort_ok t hs _ le9 _
      have hcs : (sC t 3 false).size ≤ t.size := takeT_size _ _ _ _
      have hds : (sD t 3 false).size ≤ t.size := takeT_size _ _ _ _
      have kc := readConfS_ok (sC t 3 false) (by omega)
      rw [rcX_eq] at kc
      have hzl := zConf_len (sC t 3 false)
      have hM : mS t = ⟨u0, u1, u2, gT t 3 false, gI t 3 false, gL t 3 false, gC t 3 false, decide (sF1 t 3 false = ⟨#[1]⟩), acc, zConf (sC t 3 false), sD t 3 false, decide (sF2 t 3 false = ⟨#[1]⟩)⟩ := by
        unfold mS; rw [eEs, ← hu0, ← hu1, ← hu2]
      have hok : (mS t).Ok := by
        rw [hM]; exact ⟨by simp only; omega, fun e he => Nat.le_trans (hall e he) hs, by simp only; omega, by simp only; omega⟩
      have ke := encode_ok (mS t) hok
      simp only [Try.ntmps25, Try.results25, push_cast, Nat.reduceAdd, Nat.reduceSub, Nat.reduceMul, Nat.reduceLeDiff, Nat.reduceEqDiff, Nat.reduceLT, Int.reduceLT, Int.reduceLE, Int.reduceEq, Int.reduceNeg, Int.reduceToNat, sc, d1, d2]
      refine GoL_io (0, 1024) .box 3 [sc t a false] rfl rfl rfl rfl (.inl rfl) rfl k8 rfl rfl ?_
      simp only [Try.ntmps25, Try.results25, push_cast, Nat.reduceAdd, Nat.reduceSub, Nat.reduceMul, Nat.reduceLeDiff, Nat.reduceEqDiff, Nat.reduceLT, Int.reduceLT, Int.reduceLE, Int.reduceEq, Int.reduceNeg, Int.reduceToNat, sc]
      refine GoL_call rfl rfl kc (by simp only [push_cast, Nat.reduceAdd, Nat.reduceSub, Nat.reduceMul, Nat.reduceLeDiff, Nat.reduceEqDiff, Nat.reduceLT, Int.reduceLT, Int.reduceLE, Int.reduceEq, Int.reduceNeg, Int.reduceToNat]) rfl ?_
      simp only [Try.ntmps25, Try.results25, push_cast, Nat.reduceAdd, Nat.reduceSub, Nat.reduceMul, Nat.reduceLeDiff, Nat.reduceEqDiff, Nat.reduceLT, Int.reduceLT, Int.reduceLE, Int.reduceEq, Int.reduceNeg, Int.reduceToNat, sc, ints_length]
      refine GoL_io (0, 1024) .box 3 [sc t (sA9 t 3 false) (sB9 t 3 false)] rfl rfl rfl rfl (.inl rfl) rfl k9 rfl rfl ?_
      simp only [Try.ntmps25, Try.results25, push_cast, Nat.reduceAdd, Nat.reduceSub, Nat.reduceMul, Nat.reduceLeDiff, Nat.reduceEqDiff, Nat.reduceLT, Int.reduceLT, Int.reduceLE, Int.reduceEq, Int.reduceNeg, Int.reduceToNat, sc, ints_length, ents_length]
      cases hmo : moB (mS t) with
      | false =>
        rw [encX_false hmo, hM] at ke
        simp only [Msg.enc] at ke
        rw [mSR_false (by rw [sGood, hmo]; simp)]
        refine GoL_call rfl (by simp only [push_cast, Nat.reduceAdd, Nat.reduceSub, Nat.reduceMul, Nat.reduceLeDiff, Nat.reduceEqDiff, Nat.reduceLT, Int.reduceLT, Int.reduceLE, Int.reduceEq, Int.reduceNeg, Int.reduceToNat, ints_take, ents_take]) ke rfl rfl ?_
        cases c1 : sB0 t 3 false with
        | true =>
          simp only [Try.ntmps25, Try.results25, push_cast, Nat.reduceAdd, Nat.reduceSub, Nat.reduceMul, Nat.reduceLeDiff, Nat.reduceEqDiff, Nat.reduceLT, Int.reduceLT, Int.reduceLE, Int.reduceEq, Int.reduceNeg, Int.reduceToNat, sc]
          refine ⟨_, Weak.trans (Weak.nilCell (0, 1) (0, 128) 3 8 rfl rfl rfl rfl) (Weak.nilCell (0, 2) (0, 128) 1 9 rfl rfl rfl rfl), ?_⟩
          simp only [Try.ntmps25, Try.results25, push_cast, Nat.reduceAdd, Nat.reduceSub, Nat.reduceMul, Nat.reduceLeDiff, Nat.reduceEqDiff, Nat.reduceLT, Int.reduceLT, Int.reduceLE, Int.reduceEq, Int.reduceNeg, Int.reduceToNat, Msg.enc, mZ, ents_nil, ints_nil]
        | false =>
          simp only [Try.ntmps25, Try.results25, push_cast, Nat.reduceAdd, Nat.reduceSub, Nat.reduceMul, Nat.reduceLeDiff, Nat.reduceEqDiff, Nat.reduceLT, Int.reduceLT, Int.reduceLE, Int.reduceEq, Int.reduceNeg, Int.reduceToNat, sc]
          refine ⟨_, Weak.trans (Weak.nilCell (0, 1) (0, 128) 3 8 rfl rfl rfl rfl) (Weak.nilCell (0, 2) (0, 128) 1 9 rfl rfl rfl rfl), ?_⟩
          simp only [Try.ntmps25, Try.results25, push_cast, Nat.reduceAdd, Nat.reduceSub, Nat.reduceMul, Nat.reduceLeDiff, Nat.reduceEqDiff, Nat.reduceLT, Int.reduceLT, Int.reduceLE, Int.reduceEq, Int.reduceNeg, Int.reduceToNat, Msg.enc, mZ, ents_nil, ints_nil]
      | true =>
        rw [encX_true hmo] at ke
        obtain ⟨E, hE⟩ : ∃ E, E = encB (mS t) := ⟨_, rfl⟩
        rw [← hE, hM] at ke
        simp only [Msg.enc] at ke
        refine GoL_call rfl (by simp only [push_cast, Nat.reduceAdd, Nat.reduceSub, Nat.reduceMul, Nat.reduceLeDiff, Nat.reduceEqDiff, Nat.reduceLT, Int.reduceLT, Int.reduceLE, Int.reduceEq, Int.reduceNeg, Int.reduceToNat, ints_take, ents_take]) ke rfl rfl ?_
        cases c1 : sB0 t 3 false with
        | true =>
          rw [mSR_false (by rw [sGood, c1]; simp)]
          simp only [Try.ntmps25, Try.results25, push_cast, Nat.reduceAdd, Nat.reduceSub, Nat.reduceMul, Nat.reduceLeDiff, Nat.reduceEqDiff, Nat.reduceLT, Int.reduceLT, Int.reduceLE, Int.reduceEq, Int.reduceNeg, Int.reduceToNat, sc]
          refine ⟨_, Weak.trans (Weak.nilCell (0, 1) (0, 128) 3 8 rfl rfl rfl rfl) (Weak.nilCell (0, 2) (0, 128) 1 9 rfl rfl rfl rfl), ?_⟩
          simp only [Try.ntmps25, Try.results25, push_cast, Nat.reduceAdd, Nat.reduceSub, Nat.reduceMul, Nat.reduceLeDiff, Nat.reduceEqDiff, Nat.reduceLT, Int.reduceLT, Int.reduceLE, Int.reduceEq, Int.reduceNeg, Int.reduceToNat, Msg.enc, mZ, ents_nil, ints_nil]
        | false =>
          cases c3 : decide (E = t) with
          | true =>
            rw [mSR_true (by rw [sGood, c0, c1, hmo, ← hE, c3]; rfl), hM]
            simp only [Try.ntmps25, Try.results25, push_cast, Nat.reduceAdd, Nat.reduceSub, Nat.reduceMul, Nat.reduceLeDiff, Nat.reduceEqDiff, Nat.reduceLT, Int.reduceLT, Int.reduceLE, Int.reduceEq, Int.reduceNeg, Int.reduceToNat, sc, decide_not, c3]
            refine ⟨_, Weak.refl _, ?_⟩
            simp only [Try.ntmps25, Try.results25, push_cast, Nat.reduceAdd, Nat.reduceSub, Nat.reduceMul, Nat.reduceLeDiff, Nat.reduceEqDiff, Nat.reduceLT, Int.reduceLT, Int.reduceLE, Int.reduceEq, Int.reduceNeg, Int.reduceToNat, Msg.enc, ints_length, ents_length]
          | false =>
            rw [mSR_false (by rw [sGood, ← hE, c3]; simp)]
            simp only [Try.ntmps25, Try.results25, push_cast, Nat.reduceAdd, Nat.reduceSub, Nat.reduceMul, Nat.reduceLeDiff, Nat.reduceEqDiff, Nat.reduceLT, Int.reduceLT, Int.reduceLE, Int.reduceEq, Int.reduceNeg, Int.reduceToNat, sc, decide_not, c3]
            refine ⟨_, Weak.trans (Weak.nilCell (0, 1) (0, 128) 3 8 rfl rfl rfl rfl) (Weak.nilCell (0, 2) (0, 128) 1 9 rfl rfl rfl rfl), ?_⟩
            simp only [Try.ntmps25, Try.results25, push_cast, Nat.reduceAdd, Nat.reduceSub, Nat.reduceMul, Nat.reduceLeDiff, Nat.reduceEqDiff, Nat.reduceLT, Int.reduceLT, Int.reduceLE, Int.reduceEq, Int.reduceNeg, Int.reduceToNat, Msg.enc, mZ, ents_nil, ints_nil]
    | true =>
      simp only [decide_eq_true_eq] at d1 d2
      obtain ⟨r, hr⟩ : ∃ r, min N 5 - i = r + 1 := ⟨min N 5 - (i + 1), by omega⟩
      rw [hr, spR_step] at hinv
      have ka := l05ReadShort_ok t hs a ha false
      have kb := readEntryS_ok (l5T t a false) hcl
      rw [eX_eq] at kb
      obtain ⟨T, hT⟩ : ∃ T, T = l5T t a false := ⟨_, rfl⟩
      have hTs : T.size ≤ t.size := by rw [hT]; exact takeT_size _ _ _ _
      rw [← hT] at ka kb hinv
      obtain ⟨Y, hY⟩ : ∃ Y, Y = (if eOk T then (eN1 T : Int) else 0) := ⟨_, rfl⟩
      rw [← hY] at kb
      have happ := ents_app acc (eEnt T)
      have hes := eEnt_size T
      obtain ⟨e, he⟩ : ∃ e, e = eEnt T := ⟨_, rfl⟩
      rw [← he] at kb happ hinv hes
      obtain ⟨a', ha'⟩ : ∃ a', a' = l5A t a false := ⟨_, rfl⟩
      obtain ⟨b', hb'⟩ : ∃ b', b' = l5B t a false := ⟨_, rfl⟩
      have hle' : a' ≤ t.size := by rw [ha']; exact l5A_le ha
      rw [← ha', ← hb'] at ka hinv
      have x1 : acc.length + 1 ≤ 4294967296 := by omega
      have x2 := max_len x1
      have x3 := room_le (b := 32) x1 (by decide)
      have ws : IntKind.i64.wrap ((i : Int) + 1) = ((i + 1 : Nat) : Int) := wsucc (n := 5) (by omega) (by decide)
      obtain ⟨i', hi1⟩ : ∃ i', i' = i + 1 := ⟨_, rfl⟩
      rw [← hi1] at ws
      simp only [push_cast, Nat.reduceAdd, Nat.reduceSub, Nat.reduceMul, Nat.reduceLeDiff, Nat.reduceEqDiff, Nat.reduceLT, Int.reduceLT, Int.reduceLE, Int.reduceEq, Int.reduceNeg, Int.reduceToNat, sc, d1, d2]
      refine GoL_io (0, 1024) .box 3 [sc t a false] rfl rfl rfl rfl (.inl rfl) rfl ka rfl rfl ?_
      simp only [push_cast, Nat.reduceAdd, Nat.reduceSub, Nat.reduceMul, Nat.reduceLeDiff, Nat.reduceEqDiff, Nat.reduceLT, Int.reduceLT, Int.reduceLE, Int.reduceEq, Int.reduceNeg, Int.reduceToNat, sc]
      refine GoL_call rfl rfl kb rfl rfl ?_
      simp only [push_cast, Nat.reduceAdd, Nat.reduceSub, Nat.reduceMul, Nat.reduceLeDiff, Nat.reduceEqDiff, Nat.reduceLT, Int.reduceLT, Int.reduceLE, Int.reduceEq, Int.reduceNeg, Int.reduceToNat, sc, ents_length, x1, x2, x3, happ, ws]
      refine ⟨_, ?_, hX ⟨(i', a', b', acc ++ [e]), by simp only; omega, hle', by simp; omega, fun z hz => ?_, by simp only; rw [show min N 5 - i' = r by omega, hinv, List.append_assoc]; rfl⟩ (by simp only; omega)⟩
      · exact Weak.drop (by simp only [push_cast, Nat.reduceAdd, Nat.reduceSub, Nat.reduceMul, Nat.reduceLeDiff, Nat.reduceEqDiff, Nat.reduceLT, Int.reduceLT, Int.reduceLE, Int.reduceEq, Int.reduceNeg, Int.reduceToNat, List.length_append]) (by simp only [push_cast, Nat.reduceAdd, Nat.reduceSub, Nat.reduceMul, Nat.reduceLeDiff, Nat.reduceEqDiff, Nat.reduceLT, Int.reduceLT, Int.reduceLE, Int.reduceEq, Int.reduceNeg, Int.reduceToNat, List.length_append]) (by simp only [push_cast, Nat.reduceAdd, Nat.reduceSub, Nat.reduceMul, Nat.reduceLeDiff, Nat.reduceEqDiff, Nat.reduceLT, Int.reduceLT, Int.reduceLE, Int.reduceEq, Int.reduceNeg, Int.reduceToNat, List.length_append])
      · rcases List.mem_append.1 hz with hz | hz
        · exact hall z hz
        · rw [List.mem_singleton.1 hz]; omega
end Go.Proofs.Ytadbfhgeekpdgaa
