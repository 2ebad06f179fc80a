/- Decode, the program's way. -/
import Derived.Test.YtadbfhgeekpdgaaW28
namespace Go.Proofs.Ytadbfhgeekpdgaa
open Go.RowKit Go.Rx
set_option linter.unusedSimpArgs false
set_option maxRecDepth 100000

theorem shT_size (s : ByteArray) (a : Nat) (b : Bool) : (shT s a b).size ≤ 20000 := by
  unfold shT takeT
  split
  · rename_i h
    simp [takeOk] at h
    have hn : numN s a b ≤ 20000 := by
      have h1 := h.1
      unfold shB at h1
      split at h1
      · cases h1
      · omega
    rw [ByteArray.size_extract]; omega
  · exact Nat.zero_le _
theorem imR_step (t : ByteArray) (r a : Nat) (b : Bool) : imR t (r + 1) a b = ((imR t r (shA t a b) (imB t a b)).1, (imR t r (shA t a b) (imB t a b)).2.1, eEnt (shT t a b) :: (imR t r (shA t a b) (imB t a b)).2.2) := rfl
theorem imR_le (t : ByteArray) : ∀ r a b, a ≤ t.size → (imR t r a b).1 ≤ t.size
  | 0, a, b, ha => ha
  | r + 1, a, b, ha => by rw [imR_step]; exact imR_le t r _ _ (shA_le ha)
theorem mIR_true {t : ByteArray} (h : iGood t = true) : mIR t = [.agg ((mI t).enc (.own 3) (.own 1)), bo true] := by simp only [mIR, h, if_true]
theorem mIR_false {t : ByteArray} (h : iGood t = false) : mIR t = [.agg (mZ.enc (.own 3) (.own 1)), bo false] := by simp only [mIR, h, Bool.false_eq_true, if_false]
set_option maxHeartbeats 4000000 in
theorem decodeI_ok (t : ByteArray) (hs : t.size ≤ 140737488355328) : PureFn Try.prog 26 [st t] (mSR t) := by
  rw [← mR_eq]
  refine PureFn_of_GoW Try.func26 rfl (by decide) mo (by decide +kernel) ?_
  have l1 : iA1 t ≤ t.size := takeA_le (Nat.zero_le _)
  have l2 : iA2 t ≤ t.size := takeA_le l1
  have l3 : iA3 t ≤ t.size := takeA_le l2
  have o1 : IoFn Try.prog 40 .box 3 [sc t 0 false] [] [sc t (iA1 t) (iB1 t)] [i64 (octN t 0 false)] := octet_ok t hs 0 (Nat.zero_le _) false
  have o2 : IoFn Try.prog 40 .box 3 [sc t (iA1 t) (iB1 t)] [] [sc t (iA2 t) (iB2 t)] [i64 (octN t (iA1 t) (iB1 t))] := octet_ok t hs _ l1 _
  have o3 : IoFn Try.prog 40 .box 3 [sc t (iA2 t) (iB2 t)] [] [sc t (iA3 t) (iB3 t)] [i64 (octN t (iA2 t) (iB2 t))] := octet_ok t hs _ l2 _
  have hMI : mI t = mIp t (octN t 0 false) (octN t (iA1 t) (iB1 t)) (octN t (iA2 t) (iB2 t)) (iA3 t) (iB3 t) := rfl
  have hG : iGood t = ((!jB0 t (iA3 t) (iB3 t) && decide ((jA0 t (iA3 t) (iB3 t) : Int) = (t.size : Int))) && moB (mI t)) := rfl
  obtain ⟨u0, hu0⟩ : ∃ u, u = octN t 0 false := ⟨_, rfl⟩
  obtain ⟨u1, hu1⟩ : ∃ u, u = octN t (iA1 t) (iB1 t) := ⟨_, rfl⟩
  obtain ⟨u2, hu2⟩ : ∃ u, u = octN t (iA2 t) (iB2 t) := ⟨_, rfl⟩
  rw [← hu0] at o1 hMI
  rw [← hu1] at o2 hMI
  rw [← hu2] at o3 hMI
  obtain ⟨a0, ha0⟩ : ∃ a0, a0 = iA3 t := ⟨_, rfl⟩
  obtain ⟨b0, hb0⟩ : ∃ b0, b0 = iB3 t := ⟨_, rfl⟩
  rw [← ha0] at o3 hMI hG l3
  rw [← hb0] at o3 hMI hG
  have le1 : gA1 t a0 b0 ≤ t.size := numA_le l3
  have le2 : gA2 t a0 b0 ≤ t.size := numA_le le1
  have le3 : gA3 t a0 b0 ≤ t.size := numA_le le2
  have le4 : gA4 t a0 b0 ≤ t.size := numA_le le3
  have le5 : gA5 t a0 b0 ≤ t.size := takeA_le le4
  have le6 : jA6 t a0 b0 ≤ t.size := takeA_le le5
  have le7 : jA7 t a0 b0 ≤ t.size := numA_le le6
  have k1 : IoFn Try.prog 39 .box 3 [sc t a0 b0] [] [sc t (gA1 t a0 b0) (gB1 t a0 b0)] [i64 (gT t a0 b0)] := number_ok t hs _ _
  have k2 : IoFn Try.prog 39 .box 3 [sc t (gA1 t a0 b0) (gB1 t a0 b0)] [] [sc t (gA2 t a0 b0) (gB2 t a0 b0)] [i64 (gI t a0 b0)] := number_ok t hs _ _
  have k3 : IoFn Try.prog 39 .box 3 [sc t (gA2 t a0 b0) (gB2 t a0 b0)] [] [sc t (gA3 t a0 b0) (gB3 t a0 b0)] [i64 (gL t a0 b0)] := number_ok t hs _ _
  have k4 : IoFn Try.prog 39 .box 3 [sc t (gA3 t a0 b0) (gB3 t a0 b0)] [] [sc t (gA4 t a0 b0) (gB4 t a0 b0)] [i64 (gC t a0 b0)] := number_ok t hs _ _
  have k5 : IoFn Try.prog 48 .box 3 [sc t (gA4 t a0 b0) (gB4 t a0 b0)] [] [sc t (gA5 t a0 b0) (jB5 t a0 b0)] [bo (decide ((octN t (gA4 t a0 b0) (gB4 t a0 b0) : Int) = 1))] := flag_ok t hs _ le4 _
  have k6 : IoFn Try.prog 48 .box 3 [sc t (gA5 t a0 b0) (jB5 t a0 b0)] [] [sc t (jA6 t a0 b0) (jB6 t a0 b0)] [bo (decide ((octN t (gA5 t a0 b0) (jB5 t a0 b0) : Int) = 1))] := flag_ok t hs _ le5 _
  have k7 : IoFn Try.prog 71 .box 3 [sc t (jA6 t a0 b0) (jB6 t a0 b0)] [i64 4] [sc t (jA7 t a0 b0) (jB7 t a0 b0)] [i64 (jN t a0 b0)] := count_ok t hs _ _
  obtain ⟨f1, hf1⟩ : ∃ f, f = decide ((octN t (gA4 t a0 b0) (gB4 t a0 b0) : Int) = 1) := ⟨_, rfl⟩
  obtain ⟨f2, hf2⟩ : ∃ f, f = decide ((octN t (gA5 t a0 b0) (jB5 t a0 b0) : Int) = 1) := ⟨_, rfl⟩
  rw [← hf1] at k5
  rw [← hf2] at k6
  unfold mIp at hMI
  rw [← hf1, ← hf2] at hMI
  have hn4 : jN t a0 b0 ≤ 4 := by unfold jN cnN; split <;> omega
  obtain ⟨N, hN⟩ : ∃ N, N = jN t a0 b0 := ⟨_, rfl⟩
  rw [← hN] at k7 hn4
  have hR7 : jR7 t a0 b0 = imR t N (jA7 t a0 b0) (jB7 t a0 b0) := by rw [hN]; rfl
  simp only [Try.ntmps26, Try.results26, push_cast, Nat.reduceAdd, Nat.reduceSub, Nat.reduceMul, Nat.reduceLeDiff, Nat.reduceEqDiff, Nat.reduceLT, Int.reduceLT, Int.reduceLE, Int.reduceEq, Int.reduceNeg, Int.reduceToNat]
  refine GoL_io (0, 256) .box 3 [sc t 0 false] rfl rfl rfl rfl (.inl rfl) rfl o1 rfl rfl ?_
  simp only [Try.ntmps26, Try.results26, push_cast, Nat.reduceAdd, Nat.reduceSub, Nat.reduceMul, Nat.reduceLeDiff, Nat.reduceEqDiff, Nat.reduceLT, Int.reduceLT, Int.reduceLE, Int.reduceEq, Int.reduceNeg, Int.reduceToNat, sc]
  refine GoL_io (0, 256) .box 3 [sc t (iA1 t) (iB1 t)] rfl rfl rfl rfl (.inl rfl) rfl o2 rfl rfl ?_
  simp only [Try.ntmps26, Try.results26, push_cast, Nat.reduceAdd, Nat.reduceSub, Nat.reduceMul, Nat.reduceLeDiff, Nat.reduceEqDiff, Nat.reduceLT, Int.reduceLT, Int.reduceLE, Int.reduceEq, Int.reduceNeg, Int.reduceToNat, sc]
  refine GoL_io (0, 256) .box 3 [sc t (iA2 t) (iB2 t)] rfl rfl rfl rfl (.inl rfl) rfl o3 rfl rfl ?_
  simp only [Try.ntmps26, Try.results26, push_cast, Nat.reduceAdd, Nat.reduceSub, Nat.reduceMul, Nat.reduceLeDiff, Nat.reduceEqDiff, Nat.reduceLT, Int.reduceLT, Int.reduceLE, Int.reduceEq, Int.reduceNeg, Int.reduceToNat, sc]
  refine GoL_io (0, 256) .box 3 [sc t a0 b0] rfl rfl rfl rfl (.inl rfl) rfl k1 rfl rfl ?_
  simp only [Try.ntmps26, Try.results26, push_cast, Nat.reduceAdd, Nat.reduceSub, Nat.reduceMul, Nat.reduceLeDiff, Nat.reduceEqDiff, Nat.reduceLT, Int.reduceLT, Int.reduceLE, Int.reduceEq, Int.reduceNeg, Int.reduceToNat, sc]
  refine GoL_io (0, 256) .box 3 [sc t (gA1 t a0 b0) (gB1 t a0 b0)] rfl rfl rfl rfl (.inl rfl) rfl k2 rfl rfl ?_
  simp only [Try.ntmps26, Try.results26, push_cast, Nat.reduceAdd, Nat.reduceSub, Nat.reduceMul, Nat.reduceLeDiff, Nat.reduceEqDiff, Nat.reduceLT, Int.reduceLT, Int.reduceLE, Int.reduceEq, Int.reduceNeg, Int.reduceToNat, sc]
  refine GoL_io (0, 256) .box 3 [sc t (gA2 t a0 b0) (gB2 t a0 b0)] rfl rfl rfl rfl (.inl rfl) rfl k3 rfl rfl ?_
  simp only [Try.ntmps26, Try.results26, push_cast, Nat.reduceAdd, Nat.reduceSub, Nat.reduceMul, Nat.reduceLeDiff, Nat.reduceEqDiff, Nat.reduceLT, Int.reduceLT, Int.reduceLE, Int.reduceEq, Int.reduceNeg, Int.reduceToNat, sc]
  refine GoL_io (0, 256) .box 3 [sc t (gA3 t a0 b0) (gB3 t a0 b0)] rfl rfl rfl rfl (.inl rfl) rfl k4 rfl rfl ?_
  simp only [Try.ntmps26, Try.results26, push_cast, Nat.reduceAdd, Nat.reduceSub, Nat.reduceMul, Nat.reduceLeDiff, Nat.reduceEqDiff, Nat.reduceLT, Int.reduceLT, Int.reduceLE, Int.reduceEq, Int.reduceNeg, Int.reduceToNat, sc]
  refine GoL_io (0, 256) .box 3 [sc t (gA4 t a0 b0) (gB4 t a0 b0)] rfl rfl rfl rfl (.inl rfl) rfl k5 rfl rfl ?_
  simp only [Try.ntmps26, Try.results26, push_cast, Nat.reduceAdd, Nat.reduceSub, Nat.reduceMul, Nat.reduceLeDiff, Nat.reduceEqDiff, Nat.reduceLT, Int.reduceLT, Int.reduceLE, Int.reduceEq, Int.reduceNeg, Int.reduceToNat, sc]
  refine GoL_io (0, 256) .box 3 [sc t (gA5 t a0 b0) (jB5 t a0 b0)] rfl rfl rfl rfl (.inl rfl) rfl k6 rfl rfl ?_
  simp only [Try.ntmps26, Try.results26, push_cast, Nat.reduceAdd, Nat.reduceSub, Nat.reduceMul, Nat.reduceLeDiff, Nat.reduceEqDiff, Nat.reduceLT, Int.reduceLT, Int.reduceLE, Int.reduceEq, Int.reduceNeg, Int.reduceToNat, sc]
  refine GoL_io (0, 256) .box 3 [sc t (jA6 t a0 b0) (jB6 t a0 b0)] rfl rfl rfl rfl (.inl rfl) rfl k7 rfl rfl ?_
  simp only [Try.ntmps26, Try.results26, push_cast, Nat.reduceAdd, Nat.reduceSub, Nat.reduceMul, Nat.reduceLeDiff, Nat.reduceEqDiff, Nat.reduceLT, Int.reduceLT, Int.reduceLE, Int.reduceEq, Int.reduceNeg, Int.reduceToNat, sc]
  refine Go_loop (α := {p : Nat × Nat × Bool × List Ent // p.1 ≤ N ∧ p.2.1 ≤ t.size ∧ p.2.2.2.length = p.1 ∧ (∀ e ∈ p.2.2.2, e.data.size ≤ t.size) ∧
        jR7 t a0 b0 = ((imR t (N - p.1) p.2.1 p.2.2.1).1, (imR t (N - p.1) p.2.1 p.2.2.1).2.1, p.2.2.2 ++ (imR t (N - p.1) p.2.1 p.2.2.1).2.2)})
    (fun p => ⟨tp 66 [(2, .x (.one (.pt (0, 128) [] 12 0 0))), (3, .x (bo false)), (4, .x (.one (.pt (0, 256) [] 3 0 0))), (5, .x (.one (.pt (0, 320) [] 12 0 0))), (29, int N), (30, int p.1.1)], 0,
      [((0, 3136), ⟨.sl, 3, vR (ents p.1.2.2.2)⟩),
       ((0, 320), ⟨.box, 12, [[.v (.int .i64 u0), .v (.int .i64 u1), .v (.int .i64 u2), .v (.int .i64 (gT t a0 b0)), .v (.int .i64 (gI t a0 b0)), .v (.int .i64 (gL t a0 b0)), .v (.int .i64 (gC t a0 b0)),
          .v (.bool f1), .rs (0, 3136) [] 3 0 p.1.2.2.2.length, .v (.slice none 0 0), .v (.string ⟨#[]⟩), .v (.bool f2)]]⟩),
       ((0, 256), ⟨.box, 3, [[.v (.string t), .v (.int .i64 p.1.2.1), .v (.bool p.1.2.2.1)]]⟩),
       ((0, 128), ⟨.box, 12, [[.v (.int .i64 0), .v (.int .i64 0), .v (.int .i64 0), .v (.int .i64 0), .v (.int .i64 0), .v (.int .i64 0), .v (.int .i64 0), .v (.bool false), .v (.slice none 0 0), .v (.slice none 0 0), .v (.string ⟨#[]⟩), .v (.bool false)]]⟩)], []⟩)
    (fun p => N - p.1.1) ⟨(0, jA7 t a0 b0, jB7 t a0 b0, []), Nat.zero_le _, le7, rfl, fun e he => (by cases he), by rw [hR7]; rfl⟩ ?_ ?_
  · refine Weak.trans (Weak.nilCell (0, 3136) (0, 320) 3 8 rfl rfl rfl rfl) ?_
    simp only [push_cast, Nat.reduceAdd, Nat.reduceSub, Nat.reduceMul, Nat.reduceLeDiff, Nat.reduceEqDiff, Nat.reduceLT, Int.reduceLT, Int.reduceLE, Int.reduceEq, Int.reduceNeg, Int.reduceToNat, Int.ofNat_zero]
    exact Weak.drop (by simp only [push_cast, Nat.reduceAdd, Nat.reduceSub, Nat.reduceMul, Nat.reduceLeDiff, Nat.reduceEqDiff, Nat.reduceLT, Int.reduceLT, Int.reduceLE, Int.reduceEq, Int.reduceNeg, Int.reduceToNat, Int.ofNat_zero, ents_nil]) (by simp only [push_cast, Nat.reduceAdd, Nat.reduceSub, Nat.reduceMul, Nat.reduceLeDiff, Nat.reduceEqDiff, Nat.reduceLT, Int.reduceLT, Int.reduceLE, Int.reduceEq, Int.reduceNeg, Int.reduceToNat, Int.ofNat_zero, ents_nil]) (by simp only [push_cast, Nat.reduceAdd, Nat.reduceSub, Nat.reduceMul, Nat.reduceLeDiff, Nat.reduceEqDiff, Nat.reduceLT, Int.reduceLT, Int.reduceLE, Int.reduceEq, Int.reduceNeg, Int.reduceToNat, Int.ofNat_zero, ents_nil])
  · rintro ⟨⟨i, a, b, acc⟩, hi5, ha, hlen, hall, hinv⟩ X hX
    simp only at hi5 ha hlen hall hinv
    cases d1 : decide ((i : Int) < (N : Int)) with
    | false =>
      have hfin : jR7 t a0 b0 = (a, b, acc) := by
        simp only [decide_eq_false_iff_not] at d1
        rw [hinv, show N - i = 0 by omega]; simp [imR]
      have eA8 : jA8 t a0 b0 = a := by unfold jA8; rw [hfin]
      have eB8 : jB8 t a0 b0 = b := by unfold jB8; rw [hfin]
      have eEs : jEs t a0 b0 = acc := by unfold jEs; rw [hfin]
      have k8 : IoFn Try.prog 47 .box 3 [sc t a b] [] [sc t (jA9 t a0 b0) (jB9 t a0 b0)] [st (jC t a0 b0)] := by
        unfold jA9 jB9 jC; rw [eA8, eB8]; exact short_ok t hs a ha b
      have le9 : jA9 t a0 b0 ≤ t.size := by unfold jA9; rw [eA8]; exact shA_le ha
      have k9 : IoFn Try.prog 47 .box 3 [sc t (jA9 t a0 b0) (jB9 t a0 b0)] [] [sc t (jA0 t a0 b0) (jB0 t a0 b0)] [st (jD t a0 b0)] := short_ok t hs _ le9 _
      have kd := done_ok t (jA0 t a0 b0) (jB0 t a0 b0)
      have hcs : (jC t a0 b0).size ≤ 20000 := shT_size _ _ _
      have hds : (jD t a0 b0).size ≤ 20000 := shT_size _ _ _
      have kc := numbers_ok (jC t a0 b0) (by omega)
      have hzl := natsL_length (jC t a0 b0)
      rw [eEs] at hMI
      have hok : (mI t).Ok := by
        rw [hMI]; exact ⟨by simp only; omega, fun e he => Nat.le_trans (hall e he) hs, by simp only; omega, by simp only; omega⟩
      have ke := messageOkI_ok (mI t) hok
      simp only [Try.ntmps26, Try.results26, push_cast, Nat.reduceAdd, Nat.reduceSub, Nat.reduceMul, Nat.reduceLeDiff, Nat.reduceEqDiff, Nat.reduceLT, Int.reduceLT, Int.reduceLE, Int.reduceEq, Int.reduceNeg, Int.reduceToNat, sc, d1]
      refine GoL_io (0, 256) .box 3 [sc t a b] rfl rfl rfl rfl (.inl rfl) rfl k8 rfl rfl ?_
      simp only [Try.ntmps26, Try.results26, push_cast, Nat.reduceAdd, Nat.reduceSub, Nat.reduceMul, Nat.reduceLeDiff, Nat.reduceEqDiff, Nat.reduceLT, Int.reduceLT, Int.reduceLE, Int.reduceEq, Int.reduceNeg, Int.reduceToNat, sc]
      refine GoL_call rfl rfl kc (by simp only [push_cast, Nat.reduceAdd, Nat.reduceSub, Nat.reduceMul, Nat.reduceLeDiff, Nat.reduceEqDiff, Nat.reduceLT, Int.reduceLT, Int.reduceLE, Int.reduceEq, Int.reduceNeg, Int.reduceToNat]) rfl ?_
      simp only [Try.ntmps26, Try.results26, push_cast, Nat.reduceAdd, Nat.reduceSub, Nat.reduceMul, Nat.reduceLeDiff, Nat.reduceEqDiff, Nat.reduceLT, Int.reduceLT, Int.reduceLE, Int.reduceEq, Int.reduceNeg, Int.reduceToNat, sc, ints_length]
      refine GoL_io (0, 256) .box 3 [sc t (jA9 t a0 b0) (jB9 t a0 b0)] rfl rfl rfl rfl (.inl rfl) rfl k9 rfl rfl ?_
      simp only [Try.ntmps26, Try.results26, push_cast, Nat.reduceAdd, Nat.reduceSub, Nat.reduceMul, Nat.reduceLeDiff, Nat.reduceEqDiff, Nat.reduceLT, Int.reduceLT, Int.reduceLE, Int.reduceEq, Int.reduceNeg, Int.reduceToNat, sc, ints_length, ents_length]
      refine GoL_io (0, 256) .box 3 [sc t (jA0 t a0 b0) (jB0 t a0 b0)] rfl rfl rfl rfl (.inl rfl) rfl kd rfl rfl ?_
      cases c1 : (!jB0 t a0 b0 && decide ((jA0 t a0 b0 : Int) = (t.size : Int))) with
      | false =>
        rw [mIR_false (by rw [hG, c1]; rfl)]
        simp only [Try.ntmps26, Try.results26, push_cast, Nat.reduceAdd, Nat.reduceSub, Nat.reduceMul, Nat.reduceLeDiff, Nat.reduceEqDiff, Nat.reduceLT, Int.reduceLT, Int.reduceLE, Int.reduceEq, Int.reduceNeg, Int.reduceToNat, sc]
        refine ⟨_, Weak.trans (Weak.nilCell (0, 1) (0, 128) 3 8 rfl rfl rfl rfl) (Weak.nilCell (0, 2) (0, 128) 1 9 rfl rfl rfl rfl), ?_⟩
        simp only [Try.ntmps26, Try.results26, push_cast, Nat.reduceAdd, Nat.reduceSub, Nat.reduceMul, Nat.reduceLeDiff, Nat.reduceEqDiff, Nat.reduceLT, Int.reduceLT, Int.reduceLE, Int.reduceEq, Int.reduceNeg, Int.reduceToNat, Msg.enc, mZ, ents_nil, ints_nil]
      | true =>
        simp only [Try.ntmps26, Try.results26, push_cast, Nat.reduceAdd, Nat.reduceSub, Nat.reduceMul, Nat.reduceLeDiff, Nat.reduceEqDiff, Nat.reduceLT, Int.reduceLT, Int.reduceLE, Int.reduceEq, Int.reduceNeg, Int.reduceToNat, sc]
        obtain ⟨B, hB⟩ : ∃ B, B = moB (mI t) := ⟨_, rfl⟩
        rw [← hB, hMI] at ke
        simp only [Msg.enc] at ke
        refine GoL_call rfl (by simp only [push_cast, Nat.reduceAdd, Nat.reduceSub, Nat.reduceMul, Nat.reduceLeDiff, Nat.reduceEqDiff, Nat.reduceLT, Int.reduceLT, Int.reduceLE, Int.reduceEq, Int.reduceNeg, Int.reduceToNat, ints_take, ents_take]) ke rfl rfl ?_
        cases B with
        | false =>
          rw [mIR_false (by rw [hG, c1, ← hB]; rfl)]
          simp only [Try.ntmps26, Try.results26, push_cast, Nat.reduceAdd, Nat.reduceSub, Nat.reduceMul, Nat.reduceLeDiff, Nat.reduceEqDiff, Nat.reduceLT, Int.reduceLT, Int.reduceLE, Int.reduceEq, Int.reduceNeg, Int.reduceToNat, sc]
          refine ⟨_, Weak.trans (Weak.nilCell (0, 1) (0, 128) 3 8 rfl rfl rfl rfl) (Weak.nilCell (0, 2) (0, 128) 1 9 rfl rfl rfl rfl), ?_⟩
          simp only [Try.ntmps26, Try.results26, push_cast, Nat.reduceAdd, Nat.reduceSub, Nat.reduceMul, Nat.reduceLeDiff, Nat.reduceEqDiff, Nat.reduceLT, Int.reduceLT, Int.reduceLE, Int.reduceEq, Int.reduceNeg, Int.reduceToNat, Msg.enc, mZ, ents_nil, ints_nil]
        | true =>
          rw [mIR_true (by rw [hG, c1, ← hB]; rfl), hMI]
          simp only [Try.ntmps26, Try.results26, push_cast, Nat.reduceAdd, Nat.reduceSub, Nat.reduceMul, Nat.reduceLeDiff, Nat.reduceEqDiff, Nat.reduceLT, Int.reduceLT, Int.reduceLE, Int.reduceEq, Int.reduceNeg, Int.reduceToNat, sc]
          refine ⟨_, Weak.refl _, ?_⟩
          simp only [Try.ntmps26, Try.results26, push_cast, Nat.reduceAdd, Nat.reduceSub, Nat.reduceMul, Nat.reduceLeDiff, Nat.reduceEqDiff, Nat.reduceLT, Int.reduceLT, Int.reduceLE, Int.reduceEq, Int.reduceNeg, Int.reduceToNat, Msg.enc, ints_length, ents_length]
    | true =>
      simp only [decide_eq_true_eq] at d1
      obtain ⟨r, hr⟩ : ∃ r, N - i = r + 1 := ⟨N - (i + 1), by omega⟩
      rw [hr, imR_step] at hinv
      have ka := short_ok t hs a ha b
      have hTs : (shT t a b).size ≤ t.size := takeT_size _ _ _ _
      have kb := readEntryI_ok (shT t a b) (by omega)
      rw [eX_eq] at kb
      have hb' : imB t a b = (if eOk (shT t a b) && decide (eN1 (shT t a b) = 1) then shBB t a b else true) := rfl
      obtain ⟨T, hT⟩ : ∃ T, T = shT t a b := ⟨_, rfl⟩
      rw [← hT] at ka kb hinv hTs hb'
      have hle' : shA t a b ≤ t.size := shA_le ha
      obtain ⟨a', ha'⟩ : ∃ a', a' = shA t a b := ⟨_, rfl⟩
      obtain ⟨bb, hbb⟩ : ∃ bb, bb = shBB t a b := ⟨_, rfl⟩
      rw [← ha'] at ka hinv hle'
      rw [← hbb] at ka hb'
      have happ := ents_app acc (eEnt T)
      have hes := eEnt_size T
      obtain ⟨e, he⟩ : ∃ e, e = eEnt T := ⟨_, rfl⟩
      rw [← he] at kb happ hinv hes
      have x1 : acc.length + 1 ≤ 4294967296 := by omega
      have x2 := max_len x1
      have x3 := room_le (b := 32) x1 (by decide)
      have ws : IntKind.i64.wrap ((i : Int) + 1) = ((i + 1 : Nat) : Int) := wsucc (n := 5) (by omega) (by decide)
      obtain ⟨i', hi1⟩ : ∃ i', i' = i + 1 := ⟨_, rfl⟩
      rw [← hi1] at ws
      obtain ⟨b2, hb2⟩ : ∃ b2, b2 = imB t a b := ⟨_, rfl⟩
      rw [← hb2] at hinv hb'
      have next : ∃ p : {p : Nat × Nat × Bool × List Ent // p.1 ≤ N ∧ p.2.1 ≤ t.size ∧ p.2.2.2.length = p.1 ∧ (∀ e ∈ p.2.2.2, e.data.size ≤ t.size) ∧
          jR7 t a0 b0 = ((imR t (N - p.1) p.2.1 p.2.2.1).1, (imR t (N - p.1) p.2.1 p.2.2.1).2.1, p.2.2.2 ++ (imR t (N - p.1) p.2.1 p.2.2.1).2.2)}, p.1 = (i', a', b2, acc ++ [e]) :=
        ⟨⟨(i', a', b2, acc ++ [e]), by simp only; omega, hle', by simp; omega, fun z hz => by
          rcases List.mem_append.1 hz with hz | hz
          · exact hall z hz
          · rw [List.mem_singleton.1 hz]; omega, by simp only; rw [show N - i' = r by omega, hinv, List.append_assoc]; rfl⟩, rfl⟩
      obtain ⟨p', hp'⟩ := next
      have hgo := hX p'
      rw [hp'] at hgo
      simp only [List.length_append, List.length_cons, List.length_nil] at hgo
      simp only [push_cast, Nat.reduceAdd, Nat.reduceSub, Nat.reduceMul, Nat.reduceLeDiff, Nat.reduceEqDiff, Nat.reduceLT, Int.reduceLT, Int.reduceLE, Int.reduceEq, Int.reduceNeg, Int.reduceToNat, sc, d1]
      refine GoL_io (0, 256) .box 3 [sc t a b] rfl rfl rfl rfl (.inl rfl) rfl ka rfl rfl ?_
      simp only [push_cast, Nat.reduceAdd, Nat.reduceSub, Nat.reduceMul, Nat.reduceLeDiff, Nat.reduceEqDiff, Nat.reduceLT, Int.reduceLT, Int.reduceLE, Int.reduceEq, Int.reduceNeg, Int.reduceToNat, sc]
      refine GoL_call rfl rfl kb rfl rfl ?_
      cases c1 : eOk T with
      | false =>
        have hbt : b2 = true := by rw [hb', c1]; rfl
        subst hbt
        simp only [push_cast, Nat.reduceAdd, Nat.reduceSub, Nat.reduceMul, Nat.reduceLeDiff, Nat.reduceEqDiff, Nat.reduceLT, Int.reduceLT, Int.reduceLE, Int.reduceEq, Int.reduceNeg, Int.reduceToNat, sc, ents_length, x1, x2, x3, happ, ws]
        refine ⟨_, ?_, hgo (by omega)⟩
        exact Weak.drop (by simp only [push_cast, Nat.reduceAdd, Nat.reduceSub, Nat.reduceMul, Nat.reduceLeDiff, Nat.reduceEqDiff, Nat.reduceLT, Int.reduceLT, Int.reduceLE, Int.reduceEq, Int.reduceNeg, Int.reduceToNat]) (by simp only [push_cast, Nat.reduceAdd, Nat.reduceSub, Nat.reduceMul, Nat.reduceLeDiff, Nat.reduceEqDiff, Nat.reduceLT, Int.reduceLT, Int.reduceLE, Int.reduceEq, Int.reduceNeg, Int.reduceToNat]) (by simp only [push_cast, Nat.reduceAdd, Nat.reduceSub, Nat.reduceMul, Nat.reduceLeDiff, Nat.reduceEqDiff, Nat.reduceLT, Int.reduceLT, Int.reduceLE, Int.reduceEq, Int.reduceNeg, Int.reduceToNat])
      | true =>
        cases c2 : decide ((eN1 T : Int) = 1) with
        | false =>
          have c3 : decide (eN1 T = 1) = false := by simp only [decide_eq_false_iff_not] at c2 ⊢; omega
          have hbt : b2 = true := by rw [hb', c1, c3]; rfl
          subst hbt
          simp only [push_cast, Nat.reduceAdd, Nat.reduceSub, Nat.reduceMul, Nat.reduceLeDiff, Nat.reduceEqDiff, Nat.reduceLT, Int.reduceLT, Int.reduceLE, Int.reduceEq, Int.reduceNeg, Int.reduceToNat, sc, ents_length, x1, x2, x3, happ, ws, if_true, decide_not, c2]
          refine ⟨_, ?_, hgo (by omega)⟩
          exact Weak.drop (by simp only [push_cast, Nat.reduceAdd, Nat.reduceSub, Nat.reduceMul, Nat.reduceLeDiff, Nat.reduceEqDiff, Nat.reduceLT, Int.reduceLT, Int.reduceLE, Int.reduceEq, Int.reduceNeg, Int.reduceToNat]) (by simp only [push_cast, Nat.reduceAdd, Nat.reduceSub, Nat.reduceMul, Nat.reduceLeDiff, Nat.reduceEqDiff, Nat.reduceLT, Int.reduceLT, Int.reduceLE, Int.reduceEq, Int.reduceNeg, Int.reduceToNat]) (by simp only [push_cast, Nat.reduceAdd, Nat.reduceSub, Nat.reduceMul, Nat.reduceLeDiff, Nat.reduceEqDiff, Nat.reduceLT, Int.reduceLT, Int.reduceLE, Int.reduceEq, Int.reduceNeg, Int.reduceToNat])
        | true =>
          have c3 : decide (eN1 T = 1) = true := by simp only [decide_eq_true_eq] at c2 ⊢; omega
          have hbt : b2 = bb := by rw [hb', c1, c3]; rfl
          subst hbt
          simp only [push_cast, Nat.reduceAdd, Nat.reduceSub, Nat.reduceMul, Nat.reduceLeDiff, Nat.reduceEqDiff, Nat.reduceLT, Int.reduceLT, Int.reduceLE, Int.reduceEq, Int.reduceNeg, Int.reduceToNat, sc, ents_length, x1, x2, x3, happ, ws, if_true, decide_not, c2]
          refine ⟨_, ?_, hgo (by omega)⟩
          exact Weak.drop (by simp only [push_cast, Nat.reduceAdd, Nat.reduceSub, Nat.reduceMul, Nat.reduceLeDiff, Nat.reduceEqDiff, Nat.reduceLT, Int.reduceLT, Int.reduceLE, Int.reduceEq, Int.reduceNeg, Int.reduceToNat]) (by simp only [push_cast, Nat.reduceAdd, Nat.reduceSub, Nat.reduceMul, Nat.reduceLeDiff, Nat.reduceEqDiff, Nat.reduceLT, Int.reduceLT, Int.reduceLE, Int.reduceEq, Int.reduceNeg, Int.reduceToNat]) (by simp only [push_cast, Nat.reduceAdd, Nat.reduceSub, Nat.reduceMul, Nat.reduceLeDiff, Nat.reduceEqDiff, Nat.reduceLT, Int.reduceLT, Int.reduceLE, Int.reduceEq, Int.reduceNeg, Int.reduceToNat])
end Go.Proofs.Ytadbfhgeekpdgaa
