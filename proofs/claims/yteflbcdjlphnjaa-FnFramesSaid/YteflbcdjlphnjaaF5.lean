/- FnFrames. -/
import Derived.Test.YteflbcdjlphnjaaF4
namespace Go.Proofs.Yteflbcdjlphnjaa
open Go.RowKit Go.Rx
set_option linter.unusedSimpArgs false
set_option maxRecDepth 100000

theorem same_ok (xs : List ByteArray) (hx : xs.length ≤ 140737488355328) : PureFn Try.prog 9 [.one (.sh 1 (vR (strs xs))), .one (.sh 1 (vR (strs xs)))] [bo true] := by
  refine PureFn_of_Go Try.func9 rfl (by decide) mo (by decide +kernel) ?_
  simp only [Try.ntmps9, Try.results9, push_cast, Nat.reduceAdd, Nat.reduceSub, Nat.reduceMul, Nat.reduceLeDiff, Nat.reduceEqDiff, Nat.reduceLT, Int.reduceLT, Int.reduceLE, Int.reduceEq, Int.reduceNeg, Int.reduceToNat, strs_length]
  refine Go_loop (α := {i : Nat // i ≤ xs.length})
    (fun i => ⟨tp 26 [(0, .x (.one (.sh 1 (vR (strs xs))))), (1, .x (.one (.sh 1 (vR (strs xs))))), (5, int i.1)], 0, [], []⟩) (fun i => xs.length - i.1) ⟨0, by omega⟩ ?_ ?_
  · exact Weak.same (by simp only [push_cast, Nat.reduceAdd, Nat.reduceSub, Nat.reduceMul, Nat.reduceLeDiff, Nat.reduceEqDiff, Nat.reduceLT, Int.reduceLT, Int.reduceLE, Int.reduceEq, Int.reduceNeg, Int.reduceToNat, Int.ofNat_zero])
  · rintro ⟨i, hi⟩ X hX
    by_cases hlt : (i : Int) < (xs.length : Int)
    · have hi' : i < xs.length := by omega
      have ws := wsucc hi' hx
      have hg := strs_getD xs hi'
      obtain ⟨i', hi1⟩ : ∃ i', i' = i + 1 := ⟨_, rfl⟩
      rw [← hi1] at ws
      simp only [push_cast, Nat.reduceAdd, Nat.reduceSub, Nat.reduceMul, Nat.reduceLeDiff, Nat.reduceEqDiff, Nat.reduceLT, Int.reduceLT, Int.reduceLE, Int.reduceEq, Int.reduceNeg, Int.reduceToNat, strs_length, hlt, hi', vR_getD, hg, ws]
      refine ⟨_, ?_, hX ⟨i', by omega⟩ (by simp only; omega)⟩
      exact Weak.same (by simp only [push_cast, Nat.reduceAdd, Nat.reduceSub, Nat.reduceMul, Nat.reduceLeDiff, Nat.reduceEqDiff, Nat.reduceLT, Int.reduceLT, Int.reduceLE, Int.reduceEq, Int.reduceNeg, Int.reduceToNat])
    · simp only [Try.ntmps9, Try.results9, push_cast, Nat.reduceAdd, Nat.reduceSub, Nat.reduceMul, Nat.reduceLeDiff, Nat.reduceEqDiff, Nat.reduceLT, Int.reduceLT, Int.reduceLE, Int.reduceEq, Int.reduceNeg, Int.reduceToNat, strs_length, hlt]
theorem big_ok (c : List UInt8) : PureFn Try.prog 4 [.one (.sh 1 (byR c))] [bo (decide ((1048576 : Int) < (c.length : Int)))] := by
  refine PureFn_of_Go Try.func4 rfl (by decide) mo (by decide +kernel) ?_
  simp only [Try.ntmps4, Try.results4, push_cast, Nat.reduceAdd, Nat.reduceSub, Nat.reduceMul, Nat.reduceLeDiff, Nat.reduceEqDiff, Nat.reduceLT, Int.reduceLT, Int.reduceLE, Int.reduceEq, Int.reduceNeg, Int.reduceToNat]

theorem ext_all (s : ByteArray) : s.extract 0 s.size = s := bytes_bu (by rw [ByteArray.size_extract]; omega) fun i hi => by
  rw [ByteArray.size_extract] at hi
  rw [bu_pre _ (by omega)]
theorem app_assoc (x y z : ByteArray) : x ++ y ++ z = x ++ (y ++ z) := bytes_ext (by simp only [app_list, List.append_assoc])
theorem app_nil (x : ByteArray) : x ++ (⟨#[]⟩ : ByteArray) = x := bytes_ext (by rw [app_list]; exact List.append_nil _)
theorem varB_two {n : Nat} (h : n ≤ 9000) : (varB n).size ≤ 2 := by
  show (varL n).toArray.size ≤ 2
  by_cases h1 : n ≤ 127
  · rw [varL_small h1]; exact Nat.le_succ 1
  · rw [varL_two h1 h]; exact Nat.le_refl 2
def okT (t : ByteArray) : Prop := 1 ≤ t.size ∧ t.size ≤ 900

/-- What is told of a file of three frames, cut at k. -/
structure Three (t1 t2 t3 s : ByteArray) (e1 e2 e3 : Nat) : Prop where
  l1 : okLen t1 = true
  l2 : okLen t2 = true
  l3 : okLen t3 = true
  z1 : (frameB t1).size = e1
  z2 : e1 + (frameB t2).size = e2
  z3 : e2 + (frameB t3).size = e3
  s1 : e1 ≤ 906
  s2 : e2 ≤ 1812
  s3 : e3 ≤ 2718
  w : frameB t1 ++ frameB t2 ++ frameB t3 = s
  wz : s.size = e3
  lt1 : 0 < e1
  lt2 : e1 < e2
  lt3 : e2 < e3
  cut : ∀ k, k ≤ e3 → frs (s.extract 0 k) = if k < e1 then [] else if k < e2 then [(t1, e1)] else if k < e3 then [(t1, e1), (t2, e2)] else [(t1, e1), (t2, e2), (t3, e3)]
theorem three {t1 t2 t3 : ByteArray} (h1 : okT t1) (h2 : okT t2) (h3 : okT t3) :
    ∃ s e1 e2 e3, Three t1 t2 t3 s e1 e2 e3 := by
  obtain ⟨a1, b1⟩ := h1
  obtain ⟨a2, b2⟩ := h2
  obtain ⟨a3, b3⟩ := h3
  have ok : ∀ {t : ByteArray}, 1 ≤ t.size → t.size ≤ 900 → okLen t = true := fun {t} p q => by simp [okLen]; omega
  have f1 := frame_size t1
  have f2 := frame_size t2
  have f3 := frame_size t3
  have v1 := varB_two (n := t1.size) (by omega)
  have v2 := varB_two (n := t2.size) (by omega)
  have v3 := varB_two (n := t3.size) (by omega)
  have hw : frameB t1 ++ frameB t2 ++ frameB t3 = wholeB [t1, t2, t3] := by
    simp only [wholeB, app_nil, app_assoc]
  have hz : (wholeB [t1, t2, t3]).size = (frameB t1).size + (frameB t2).size + (frameB t3).size := by rw [← hw, ByteArray.size_append, ByteArray.size_append]
  refine ⟨wholeB [t1, t2, t3], _, _, _, ok a1 b1, ok a2 b2, ok a3 b3, rfl, rfl, rfl, by omega, by omega, by omega, hw, hz, by omega, by omega, by omega, fun k hk => ?_⟩
  rw [frs_whole k (by intro t ht; simp only [List.mem_cons, List.not_mem_nil, or_false] at ht; rcases ht with rfl | rfl | rfl <;> omega) (by rw [hz]; exact hk) (by omega)]
  simp only [cutF, Nat.zero_add]
  by_cases c1 : (frameB t1).size ≤ k
  · rw [if_pos c1, if_neg (Nat.not_lt.2 c1)]
    by_cases c2 : (frameB t1).size + (frameB t2).size ≤ k
    · rw [if_pos c2, if_neg (Nat.not_lt.2 c2)]
      by_cases c3 : (frameB t1).size + (frameB t2).size + (frameB t3).size ≤ k
      · rw [if_pos c3, if_neg (Nat.not_lt.2 c3)]
      · rw [if_neg c3, if_pos (Nat.not_le.1 c3)]
    · rw [if_neg c2, if_pos (Nat.not_le.1 c2)]
  · rw [if_neg c1, if_pos (Nat.not_le.1 c1)]

theorem ren_vR (a b : Root) (R : List (List Value)) : (vR R).map (fun x => x.map (renC a b)) = vR R := by
  unfold vR
  rw [List.map_map]
  refine List.map_congr_left fun r _ => ?_
  simp only [Function.comp_apply, List.map_map]
  rfl
def accW (T : List ByteArray) : Nat → ByteArray
  | 0 => ⟨#[]⟩
  | i + 1 => accW T i ++ frameB (T.getD i default)
def accE (T : List ByteArray) : Nat → List Int
  | 0 => [0]
  | i + 1 => accE T i ++ [((accW T (i + 1)).size : Int)]
theorem accE_length (T : List ByteArray) : ∀ i, (accE T i).length = i + 1
  | 0 => rfl
  | i + 1 => by rw [accE, List.length_append, accE_length T i]; rfl
theorem accW_size {T : List ByteArray} (h : ∀ i, i < T.length → (frameB (T.getD i default)).size ≤ 4000) : ∀ i, i ≤ T.length → (accW T i).size ≤ 4000 * i
  | 0, _ => Nat.le_refl _
  | i + 1, hi => by
    have h1 := accW_size h i (by omega)
    have h2 := h i (by omega)
    rw [accW, ByteArray.size_append]; omega
def two : ByteArray := ⟨#[116, 119, 111]⟩
def thr : ByteArray := ⟨#[116, 104, 114, 101, 101, 32, 97, 110, 100, 32, 109, 111, 114, 101]⟩
def one' : ByteArray := ⟨#[111, 110, 101]⟩
set_option maxHeartbeats 1000000 in
theorem law_ok (c : List UInt8) : PureFn Try.prog 3 [.one (.sh 1 (byR c))] [bo true] := by
  refine PureFn_of_Go Try.func3 rfl (by decide) mo (by decide +kernel) ?_
  simp only [Try.ntmps3, Try.results3, push_cast, Nat.reduceAdd, Nat.reduceSub, Nat.reduceMul, Nat.reduceLeDiff, Nat.reduceEqDiff, Nat.reduceLT, Int.reduceLT, Int.reduceLE, Int.reduceEq, Int.reduceNeg, Int.reduceToNat]
  refine GoL_call rfl rfl (big_ok c) rfl rfl ?_
  cases cb : decide ((1048576 : Int) < (c.length : Int)) with
  | true => simp only [Try.ntmps3, Try.results3, push_cast, Nat.reduceAdd, Nat.reduceSub, Nat.reduceMul, Nat.reduceLeDiff, Nat.reduceEqDiff, Nat.reduceLT, Int.reduceLT, Int.reduceLE, Int.reduceEq, Int.reduceNeg, Int.reduceToNat]
  | false =>
    have hc : c.length ≤ 1048576 := by have := of_decide_eq_false cb; omega
    simp only [Try.ntmps3, Try.results3, push_cast, Nat.reduceAdd, Nat.reduceSub, Nat.reduceMul, Nat.reduceLeDiff, Nat.reduceEqDiff, Nat.reduceLT, Int.reduceLT, Int.reduceLE, Int.reduceEq, Int.reduceNeg, Int.reduceToNat]
    refine GoL_call rfl rfl (places_ok c hc) rfl rfl ?_
    simp only [Try.ntmps3, Try.results3, push_cast, Nat.reduceAdd, Nat.reduceSub, Nat.reduceMul, Nat.reduceLeDiff, Nat.reduceEqDiff, Nat.reduceLT, Int.reduceLT, Int.reduceLE, Int.reduceEq, Int.reduceNeg, Int.reduceToNat]
    refine GoL_call rfl rfl (hex_ok c hc) rfl rfl ?_
    have hx := hexB_size c
    have hpl : ∃ p : Nat, (ints (places c)).getD 0 [] = [.int .i64 p] := by
      have := plN_b c 0
      exact ⟨(plN c 0).toNat, by rw [Int.toNat_of_nonneg this.1]; rfl⟩
    obtain ⟨p, hp⟩ := hpl
    have hPl : (ints (places c)).length = 12 := rfl
    generalize ints (places c) = PL at hp hPl
    generalize hexB c = x at hx
    simp only [Try.ntmps3, Try.results3, push_cast, Nat.reduceAdd, Nat.reduceSub, Nat.reduceMul, Nat.reduceLeDiff, Nat.reduceEqDiff, Nat.reduceLT, Int.reduceLT, Int.reduceLE, Int.reduceEq, Int.reduceNeg, Int.reduceToNat, hPl]
    refine GoM_cut [Fr.sq _] (fun σ' => ∃ t1, okT t1 ∧ ∃ v24 v25 v26 v27 v28 v29 v30 v31 v32 v33 v34 v35 v36 : V, σ' = ⟨tp 128 [(0, .x (.one (.sh 1 (byR c)))), (2, .x (bo false)), (3, .x (.one (.rs (0, 1216) [] 1 0 12))), (4, .x (.one (.rs (0, 1408) [] 1 0 3))),
      (16, .x (.one (.sh 1 (byR c)))), (17, .x (bo false)), (18, .x (.one (.sh 1 (byR c)))), (19, .x (.one (.rs (0, 1216) [] 1 0 12))), (20, .x (.one (.sh 1 (byR c)))), (21, .x (st x)), (22, .x (.one (.rs (0, 1408) [] 1 0 3))), (23, .x (.one (.rs (0, 1408) [] 1 0 3))),
      (24, v24), (25, v25), (26, v26), (27, v27), (28, v28), (29, v29), (30, v30), (31, v31), (32, v32), (33, v33), (34, v34), (35, v35), (36, v36)], 0, [((0, 1408), ⟨.sl, 1, vR (strs [t1, two, thr])⟩), ((0, 1216), ⟨.sl, 1, vR PL⟩)], []⟩) ?_ ?_
    · by_cases h0 : (x.size : Int) = 0
      · simp only [push_cast, Nat.reduceAdd, Nat.reduceSub, Nat.reduceMul, Nat.reduceLeDiff, Nat.reduceEqDiff, Nat.reduceLT, Int.reduceLT, Int.reduceLE, Int.reduceEq, Int.reduceNeg, Int.reduceToNat, Int.zero_add, Int.reduceAdd, h0]
        exact ⟨one', ⟨by decide, by decide⟩, _, _, _, _, _, _, _, _, _, _, _, _, _, rfl⟩
      · by_cases h9 : (900 : Int) < (x.size : Int)
        · simp only [push_cast, Nat.reduceAdd, Nat.reduceSub, Nat.reduceMul, Nat.reduceLeDiff, Nat.reduceEqDiff, Nat.reduceLT, Int.reduceLT, Int.reduceLE, Int.reduceEq, Int.reduceNeg, Int.reduceToNat, Int.zero_add, Int.reduceAdd, h0, h9]
          exact ⟨one', ⟨by decide, by decide⟩, _, _, _, _, _, _, _, _, _, _, _, _, _, rfl⟩
        · simp only [push_cast, Nat.reduceAdd, Nat.reduceSub, Nat.reduceMul, Nat.reduceLeDiff, Nat.reduceEqDiff, Nat.reduceLT, Int.reduceLT, Int.reduceLE, Int.reduceEq, Int.reduceNeg, Int.reduceToNat, Int.zero_add, Int.reduceAdd, h0, h9]
          exact ⟨x, ⟨by omega, by omega⟩, _, _, _, _, _, _, _, _, _, _, _, _, _, rfl⟩
    · rintro σ' ⟨t1, ht, v24, v25, v26, v27, v28, v29, v30, v31, v32, v33, v34, v35, v36, rfl⟩
      obtain ⟨s, e1, e2, e3, h3⟩ := three ht (t2 := two) (t3 := thr) ⟨by decide, by decide⟩ ⟨by decide, by decide⟩
      generalize two = t2 at h3
      generalize thr = t3 at h3
      have hz : ∀ t, okLen t = true → t.size ≤ 140737488355328 := fun t h => by simp [okLen] at h; omega
      have hT : ∀ i : Nat, i < 3 → okLen ([t1, t2, t3].getD i default) = true ∧ (frameB ([t1, t2, t3].getD i default)).size ≤ 4000 := fun i hi => by
        have b1 := h3.s1
        have b2 := h3.s2
        have b3 := h3.s3
        have z1 := h3.z1
        have z2 := h3.z2
        have z3 := h3.z3
        match i, hi with
        | 0, _ => exact ⟨h3.l1, show (frameB t1).size ≤ 4000 by omega⟩
        | 1, _ => exact ⟨h3.l2, show (frameB t2).size ≤ 4000 by omega⟩
        | 2, _ => exact ⟨h3.l3, show (frameB t3).size ≤ 4000 by omega⟩
      have hW : accW [t1, t2, t3] 3 = s := by
        show ((⟨#[]⟩ : ByteArray) ++ frameB t1) ++ frameB t2 ++ frameB t3 = s
        rw [empty_append]; exact h3.w
      have hE : accE [t1, t2, t3] 3 = [0, (e1 : Int), (e2 : Int), (e3 : Int)] := by
        have q1 : (accW [t1, t2, t3] 1).size = e1 := by
          show ((⟨#[]⟩ : ByteArray) ++ frameB t1).size = e1
          rw [empty_append]; exact h3.z1
        have q2 : (accW [t1, t2, t3] 2).size = e2 := by
          show (accW [t1, t2, t3] 1 ++ frameB t2).size = e2
          rw [ByteArray.size_append, q1]; exact h3.z2
        have q3 : (accW [t1, t2, t3] 3).size = e3 := by rw [hW]; exact h3.wz
        show [0, ((accW [t1, t2, t3] 1).size : Int), ((accW [t1, t2, t3] 2).size : Int), ((accW [t1, t2, t3] 3).size : Int)] = _
        rw [q1, q2, q3]
      have hTl : [t1, t2, t3].length = 3 := rfl
      have hTe : vR (strs [t1, t2, t3]) = vR (strs [t1, t2, t3]) := rfl
      obtain ⟨T, hTT⟩ : ∃ T, T = [t1, t2, t3] := ⟨_, rfl⟩
      rw [← hTT] at hT hW hE hTl ⊢
      have hWz := accW_size (T := T) (fun i hi => (hT i (by omega)).2)
      have hR : (strs T).length = 3 := by rw [strs_length, hTl]
      simp only [Try.ntmps3, Try.results3, push_cast, Nat.reduceAdd, Nat.reduceSub, Nat.reduceMul, Nat.reduceLeDiff, Nat.reduceEqDiff, Nat.reduceLT, Int.reduceLT, Int.reduceLE, Int.reduceEq, Int.reduceNeg, Int.reduceToNat]
      refine Go_loop (α := {i : Nat // i ≤ 3}) (fun i => ⟨tp 128 [(2, .x (bo false)), (3, .x (.one (.rs (0, 1216) [] 1 0 12))), (4, .x (.one (.rs (0, 1408) [] 1 0 3))), (5, .x (st (accW T i.1))), (6, .x (.one (.rs (0, 3904) [] 1 0 (i.1 + 1)))), (7, int i.1)], 0,
        [((0, 3904), ⟨.sl, 1, vR (ints (accE T i.1))⟩), ((0, 1408), ⟨.sl, 1, vR (strs T)⟩), ((0, 1216), ⟨.sl, 1, vR PL⟩)], []⟩) (fun i => 3 - i.1) ⟨0, Nat.zero_le _⟩ ?_ ?_
      · refine Weak.trans (Weak.rename (0, 2368) (0, 3904) rfl rfl (by decide) rfl) ?_
        rw [show vR (ints (accE T 0)) = [[.v (.int .i64 0)]] from rfl]
        simp only [push_cast, Nat.reduceAdd, Nat.reduceSub, Nat.reduceMul, Nat.reduceLeDiff, Nat.reduceEqDiff, Nat.reduceLT, Int.reduceLT, Int.reduceLE, Int.reduceEq, Int.reduceNeg, Int.reduceToNat, Int.ofNat_zero, accW, ren_vR]
        exact Weak.same (by simp only [push_cast, Nat.reduceAdd, Nat.reduceSub, Nat.reduceMul, Nat.reduceLeDiff, Nat.reduceEqDiff, Nat.reduceLT, Int.reduceLT, Int.reduceLE, Int.reduceEq, Int.reduceNeg, Int.reduceToNat])
      · rintro ⟨i, hi⟩ X hX
        have hel := accE_length T i
        have hil : (ints (accE T i)).length = i + 1 := by rw [ints_length, hel]
        by_cases hlt : (i : Int) < 3
        · have hi' : i < 3 := by omega
          obtain ⟨hok, hfz⟩ := hT i hi'
          have hg := strs_getD T (show i < T.length by omega)
          have hwz := hWz i (by omega)
          have k := frameI_ok (T.getD i default) (hz _ hok)
          simp only [frameX, hok, if_true] at k
          have hsz : (accW T i).size + (frameB (T.getD i default)).size ≤ 9223372036854775807 := by omega
          have hw1 : accW T i ++ frameB (T.getD i default) = accW T (i + 1) := rfl
          have he1 : accE T i ++ [((accW T (i + 1)).size : Int)] = accE T (i + 1) := rfl
          have s2 := vR_snoc (ints (accE T i)) [.int .i64 ((accW T (i + 1)).size : Int)]
          have s3 : ints (accE T i) ++ [[Value.int .i64 ((accW T (i + 1)).size : Int)]] = ints (accE T (i + 1)) := by rw [← he1]; simp [ints]
          rw [s3] at s2
          simp only [List.map_cons, List.map_nil] at s2
          have a0 : (i + 1) + 1 ≤ 4294967296 := by omega
          have a1 := max_len a0
          have a3 := room_le (b := 8) a0 (by decide)
          have hl3 : (3 : Int) = (3 : Int) := rfl
          generalize T.getD i default = ti at hg k hsz hw1
          obtain ⟨i', hi1⟩ : ∃ i', i' = i + 1 := ⟨_, rfl⟩
          have ws : IntKind.i64.wrap ((i : Int) + 1) = (i' : Int) := wN (by omega) (by omega)
          rw [← hi1] at hw1 s2 a1 a3 hil
          rw [← hi1]
          simp only [push_cast, Nat.reduceAdd, Nat.reduceSub, Nat.reduceMul, Nat.reduceLeDiff, Nat.reduceEqDiff, Nat.reduceLT, Int.reduceLT, Int.reduceLE, Int.reduceEq, Int.reduceNeg, Int.reduceToNat, hR, hlt, hi', vR_getD, hg, Int.zero_add, Int.reduceAdd]
          refine GoL_call rfl rfl k rfl rfl ?_
          simp only [push_cast, Nat.reduceAdd, Nat.reduceSub, Nat.reduceMul, Nat.reduceLeDiff, Nat.reduceEqDiff, Nat.reduceLT, Int.reduceLT, Int.reduceLE, Int.reduceEq, Int.reduceNeg, Int.reduceToNat, hsz, hw1, hil, s2, a1, a3, ws, flatRows, flatRow]
          refine ⟨_, ?_, hX ⟨i', by omega⟩ (by simp only; omega)⟩
          exact Weak.drop (by simp only [push_cast, Nat.reduceAdd, Nat.reduceSub, Nat.reduceMul, Nat.reduceLeDiff, Nat.reduceEqDiff, Nat.reduceLT, Int.reduceLT, Int.reduceLE, Int.reduceEq, Int.reduceNeg, Int.reduceToNat]) (by simp only [push_cast, Nat.reduceAdd, Nat.reduceSub, Nat.reduceMul, Nat.reduceLeDiff, Nat.reduceEqDiff, Nat.reduceLT, Int.reduceLT, Int.reduceLE, Int.reduceEq, Int.reduceNeg, Int.reduceToNat]) (by simp only [push_cast, Nat.reduceAdd, Nat.reduceSub, Nat.reduceMul, Nat.reduceLeDiff, Nat.reduceEqDiff, Nat.reduceLT, Int.reduceLT, Int.reduceLE, Int.reduceEq, Int.reduceNeg, Int.reduceToNat])
        · have hi3 : i = 3 := by omega
          subst hi3
          have hs9 : s.size ≤ 140737488355328 := by rw [h3.wz]; have := h3.s3; omega
          have hfull := h3.cut e3 (Nat.le_refl _)
          rw [← h3.wz, ext_all, h3.wz] at hfull
          have hlt3 := h3.lt3
          have hlt2 := h3.lt2
          have hlt1 := h3.lt1
          rw [if_neg (by omega), if_neg (by omega), if_neg (by omega)] at hfull
          have u1 : unfT s = [t1, t2, t3] := by rw [unfT, hfull]; rfl
          have u2 : unfE s = e3 := by rw [unfE, hfull]; rfl
          have k1 := unframeI_ok s hs9
          rw [u1, u2, ← hTT] at k1
          have k2 := same_ok T (by omega)
          have hwz := h3.wz
          have hz3 := h3.s3
          rw [hW, hE]
          have hTk : (vR (strs T)).take 3 = vR (strs T) := List.take_of_length_le (by rw [vR_length, hR]; exact Nat.le_refl 3)
          simp only [Try.ntmps3, Try.results3, push_cast, Nat.reduceAdd, Nat.reduceSub, Nat.reduceMul, Nat.reduceLeDiff, Nat.reduceEqDiff, Nat.reduceLT, Int.reduceLT, Int.reduceLE, Int.reduceEq, Int.reduceNeg, Int.reduceToNat, hlt, Int.zero_add, Int.reduceAdd]
          refine GoL_call rfl rfl k1 (by simp only [push_cast, Nat.reduceAdd, Nat.reduceSub, Nat.reduceMul, Nat.reduceLeDiff, Nat.reduceEqDiff, Nat.reduceLT, Int.reduceLT, Int.reduceLE, Int.reduceEq, Int.reduceNeg, Int.reduceToNat]) rfl ?_
          simp only [Try.ntmps3, Try.results3, push_cast, Nat.reduceAdd, Nat.reduceSub, Nat.reduceMul, Nat.reduceLeDiff, Nat.reduceEqDiff, Nat.reduceLT, Int.reduceLT, Int.reduceLE, Int.reduceEq, Int.reduceNeg, Int.reduceToNat, hlt, Int.zero_add, Int.reduceAdd, hR, hwz, hTk]
          refine GoL_call rfl (by simp only [push_cast, Nat.reduceAdd, Nat.reduceSub, Nat.reduceMul, Nat.reduceLeDiff, Nat.reduceEqDiff, Nat.reduceLT, Int.reduceLT, Int.reduceLE, Int.reduceEq, Int.reduceNeg, Int.reduceToNat, hTk]) k2 rfl rfl ?_
          obtain ⟨k, hk⟩ : ∃ k, k = p % (e3 + 1) := ⟨_, rfl⟩
          have hke : k ≤ e3 := by rw [hk]; have := Nat.mod_lt p (show 0 < e3 + 1 by omega); omega
          have hw3 : IntKind.i64.wrap ((e3 : Int) + 1) = ((e3 + 1 : Nat) : Int) := wN rfl (by omega)
          have hrem := tmodN p (e3 + 1)
          rw [← hk] at hrem
          obtain ⟨e4, he4⟩ : ∃ e4, e4 = e3 + 1 := ⟨_, rfl⟩
          rw [← he4] at hw3 hrem
          have hne : ¬ ((e4 : Int) = 0) := by omega
          have hP0 : 0 < PL.length := by omega
          have hcut := h3.cut k hke
          have hks : k ≤ s.size := by omega
          have hkse : (s.extract 0 k).size ≤ 140737488355328 := by rw [ByteArray.size_extract]; omega
          have k3 := unframeI_ok (s.extract 0 k) hkse
          simp only [Try.ntmps3, Try.results3, push_cast, Nat.reduceAdd, Nat.reduceSub, Nat.reduceMul, Nat.reduceLeDiff, Nat.reduceEqDiff, Nat.reduceLT, Int.reduceLT, Int.reduceLE, Int.reduceEq, Int.reduceNeg, Int.reduceToNat, Int.zero_add, Int.reduceAdd, hPl, vR_getD, hp, hwz, hw3, hrem, hne, hks]
          by_cases hc1 : k < e1
          · rw [if_pos hc1] at hcut
            have hcF : frs (s.extract 0 k) = [] := hcut
            have u3 : unfT (s.extract 0 k) = [] := by rw [unfT, hcF]; rfl
            have u4 : unfE (s.extract 0 k) = 0 := by rw [unfE, hcF]; rfl
            rw [u3, u4] at k3
            have k4 := same_ok [] (by simp)
            have hTm : (vR (strs T)).take 0 = vR (strs []) := by rw [hTT]; rfl
            have hTm2 : (vR (strs [])).take 0 = vR (strs []) := rfl
            have hSl : (strs []).length = 0 := rfl
            have hEl : (ints [0, (e1 : Int), (e2 : Int), (e3 : Int)]).length = 4 := rfl
            have hE1 : (ints [0, (e1 : Int), (e2 : Int), (e3 : Int)]).getD 0 [] = [.int .i64 (0 : Int)] := rfl
            have hle : ((0 : Int) ≤ (k : Int)) := by omega
            have hE2 : (ints [0, (e1 : Int), (e2 : Int), (e3 : Int)]).getD 1 [] = [.int .i64 (e1 : Int)] := rfl
            have hgt : ((k : Int) < (e1 : Int)) := by omega
            have hwm : IntKind.i64.wrap 1 = 1 := by decide
            have hm3 : ¬ ((0 : Int) = 3) := by decide
            simp only [Try.ntmps3, Try.results3, push_cast, Nat.reduceAdd, Nat.reduceSub, Nat.reduceMul, Nat.reduceLeDiff, Nat.reduceEqDiff, Nat.reduceLT, Int.reduceLT, Int.reduceLE, Int.reduceEq, Int.reduceNeg, Int.reduceToNat, hke]
            refine GoL_call rfl rfl k3 (by simp only [push_cast, Nat.reduceAdd, Nat.reduceSub, Nat.reduceMul, Nat.reduceLeDiff, Nat.reduceEqDiff, Nat.reduceLT, Int.reduceLT, Int.reduceLE, Int.reduceEq, Int.reduceNeg, Int.reduceToNat]) rfl ?_
            simp only [Try.ntmps3, Try.results3, push_cast, Nat.reduceAdd, Nat.reduceSub, Nat.reduceMul, Nat.reduceLeDiff, Nat.reduceEqDiff, Nat.reduceLT, Int.reduceLT, Int.reduceLE, Int.reduceEq, Int.reduceNeg, Int.reduceToNat, Int.zero_add, Int.reduceAdd, vR_getD, hEl, hE1, hle, hSl, hTm, hTm2, hE2, hgt, hwm, hm3]
            refine GoL_call rfl (by simp only [push_cast, Nat.reduceAdd, Nat.reduceSub, Nat.reduceMul, Nat.reduceLeDiff, Nat.reduceEqDiff, Nat.reduceLT, Int.reduceLT, Int.reduceLE, Int.reduceEq, Int.reduceNeg, Int.reduceToNat, hTm, hTm2]) k4 rfl rfl ?_
            simp only [Try.ntmps3, Try.results3, push_cast, Nat.reduceAdd, Nat.reduceSub, Nat.reduceMul, Nat.reduceLeDiff, Nat.reduceEqDiff, Nat.reduceLT, Int.reduceLT, Int.reduceLE, Int.reduceEq, Int.reduceNeg, Int.reduceToNat, Int.zero_add, Int.reduceAdd, vR_getD, hEl, hE1, hle, hSl, hTm, hTm2, hE2, hgt, hwm, hm3]
          · rw [if_neg hc1] at hcut
            by_cases hc2 : k < e2
            · rw [if_pos hc2] at hcut
              have hcF : frs (s.extract 0 k) = [(t1, e1)] := hcut
              have u3 : unfT (s.extract 0 k) = [t1] := by rw [unfT, hcF]; rfl
              have u4 : unfE (s.extract 0 k) = e1 := by rw [unfE, hcF]; rfl
              rw [u3, u4] at k3
              have k4 := same_ok [t1] (by simp)
              have hTm : (vR (strs T)).take 1 = vR (strs [t1]) := by rw [hTT]; rfl
              have hTm2 : (vR (strs [t1])).take 1 = vR (strs [t1]) := rfl
              have hSl : (strs [t1]).length = 1 := rfl
              have hEl : (ints [0, (e1 : Int), (e2 : Int), (e3 : Int)]).length = 4 := rfl
              have hE1 : (ints [0, (e1 : Int), (e2 : Int), (e3 : Int)]).getD 1 [] = [.int .i64 (e1 : Int)] := rfl
              have hle : ((e1 : Int) ≤ (k : Int)) := by omega
              have hE2 : (ints [0, (e1 : Int), (e2 : Int), (e3 : Int)]).getD 2 [] = [.int .i64 (e2 : Int)] := rfl
              have hgt : ((k : Int) < (e2 : Int)) := by omega
              have hwm : IntKind.i64.wrap 2 = 2 := by decide
              have hm3 : ¬ ((1 : Int) = 3) := by decide
              simp only [Try.ntmps3, Try.results3, push_cast, Nat.reduceAdd, Nat.reduceSub, Nat.reduceMul, Nat.reduceLeDiff, Nat.reduceEqDiff, Nat.reduceLT, Int.reduceLT, Int.reduceLE, Int.reduceEq, Int.reduceNeg, Int.reduceToNat, hke]
              refine GoL_call rfl rfl k3 (by simp only [push_cast, Nat.reduceAdd, Nat.reduceSub, Nat.reduceMul, Nat.reduceLeDiff, Nat.reduceEqDiff, Nat.reduceLT, Int.reduceLT, Int.reduceLE, Int.reduceEq, Int.reduceNeg, Int.reduceToNat]) rfl ?_
              simp only [Try.ntmps3, Try.results3, push_cast, Nat.reduceAdd, Nat.reduceSub, Nat.reduceMul, Nat.reduceLeDiff, Nat.reduceEqDiff, Nat.reduceLT, Int.reduceLT, Int.reduceLE, Int.reduceEq, Int.reduceNeg, Int.reduceToNat, Int.zero_add, Int.reduceAdd, vR_getD, hEl, hE1, hle, hSl, hTm, hTm2, hE2, hgt, hwm, hm3]
              refine GoL_call rfl (by simp only [push_cast, Nat.reduceAdd, Nat.reduceSub, Nat.reduceMul, Nat.reduceLeDiff, Nat.reduceEqDiff, Nat.reduceLT, Int.reduceLT, Int.reduceLE, Int.reduceEq, Int.reduceNeg, Int.reduceToNat, hTm, hTm2]) k4 rfl rfl ?_
              simp only [Try.ntmps3, Try.results3, push_cast, Nat.reduceAdd, Nat.reduceSub, Nat.reduceMul, Nat.reduceLeDiff, Nat.reduceEqDiff, Nat.reduceLT, Int.reduceLT, Int.reduceLE, Int.reduceEq, Int.reduceNeg, Int.reduceToNat, Int.zero_add, Int.reduceAdd, vR_getD, hEl, hE1, hle, hSl, hTm, hTm2, hE2, hgt, hwm, hm3]
            · rw [if_neg hc2] at hcut
              by_cases hc3 : k < e3
              · rw [if_pos hc3] at hcut
                have hcF : frs (s.extract 0 k) = [(t1, e1), (t2, e2)] := hcut
                have u3 : unfT (s.extract 0 k) = [t1, t2] := by rw [unfT, hcF]; rfl
                have u4 : unfE (s.extract 0 k) = e2 := by rw [unfE, hcF]; rfl
                rw [u3, u4] at k3
                have k4 := same_ok [t1, t2] (by simp)
                have hTm : (vR (strs T)).take 2 = vR (strs [t1, t2]) := by rw [hTT]; rfl
                have hTm2 : (vR (strs [t1, t2])).take 2 = vR (strs [t1, t2]) := rfl
                have hSl : (strs [t1, t2]).length = 2 := rfl
                have hEl : (ints [0, (e1 : Int), (e2 : Int), (e3 : Int)]).length = 4 := rfl
                have hE1 : (ints [0, (e1 : Int), (e2 : Int), (e3 : Int)]).getD 2 [] = [.int .i64 (e2 : Int)] := rfl
                have hle : ((e2 : Int) ≤ (k : Int)) := by omega
                have hE2 : (ints [0, (e1 : Int), (e2 : Int), (e3 : Int)]).getD 3 [] = [.int .i64 (e3 : Int)] := rfl
                have hgt : ((k : Int) < (e3 : Int)) := by omega
                have hwm : IntKind.i64.wrap 3 = 3 := by decide
                have hm3 : ¬ ((2 : Int) = 3) := by decide
                simp only [Try.ntmps3, Try.results3, push_cast, Nat.reduceAdd, Nat.reduceSub, Nat.reduceMul, Nat.reduceLeDiff, Nat.reduceEqDiff, Nat.reduceLT, Int.reduceLT, Int.reduceLE, Int.reduceEq, Int.reduceNeg, Int.reduceToNat, hke]
                refine GoL_call rfl rfl k3 (by simp only [push_cast, Nat.reduceAdd, Nat.reduceSub, Nat.reduceMul, Nat.reduceLeDiff, Nat.reduceEqDiff, Nat.reduceLT, Int.reduceLT, Int.reduceLE, Int.reduceEq, Int.reduceNeg, Int.reduceToNat]) rfl ?_
                simp only [Try.ntmps3, Try.results3, push_cast, Nat.reduceAdd, Nat.reduceSub, Nat.reduceMul, Nat.reduceLeDiff, Nat.reduceEqDiff, Nat.reduceLT, Int.reduceLT, Int.reduceLE, Int.reduceEq, Int.reduceNeg, Int.reduceToNat, Int.zero_add, Int.reduceAdd, vR_getD, hEl, hE1, hle, hSl, hTm, hTm2, hE2, hgt, hwm, hm3]
                refine GoL_call rfl (by simp only [push_cast, Nat.reduceAdd, Nat.reduceSub, Nat.reduceMul, Nat.reduceLeDiff, Nat.reduceEqDiff, Nat.reduceLT, Int.reduceLT, Int.reduceLE, Int.reduceEq, Int.reduceNeg, Int.reduceToNat, hTm, hTm2]) k4 rfl rfl ?_
                simp only [Try.ntmps3, Try.results3, push_cast, Nat.reduceAdd, Nat.reduceSub, Nat.reduceMul, Nat.reduceLeDiff, Nat.reduceEqDiff, Nat.reduceLT, Int.reduceLT, Int.reduceLE, Int.reduceEq, Int.reduceNeg, Int.reduceToNat, Int.zero_add, Int.reduceAdd, vR_getD, hEl, hE1, hle, hSl, hTm, hTm2, hE2, hgt, hwm, hm3]
              · rw [if_neg hc3] at hcut
                have hcF : frs (s.extract 0 k) = [(t1, e1), (t2, e2), (t3, e3)] := hcut
                have u3 : unfT (s.extract 0 k) = [t1, t2, t3] := by rw [unfT, hcF]; rfl
                have u4 : unfE (s.extract 0 k) = e3 := by rw [unfE, hcF]; rfl
                rw [u3, u4] at k3
                have k4 := same_ok [t1, t2, t3] (by simp)
                have hTm : (vR (strs T)).take 3 = vR (strs [t1, t2, t3]) := by rw [hTT]; rfl
                have hTm2 : (vR (strs [t1, t2, t3])).take 3 = vR (strs [t1, t2, t3]) := rfl
                have hSl : (strs [t1, t2, t3]).length = 3 := rfl
                have hEl : (ints [0, (e1 : Int), (e2 : Int), (e3 : Int)]).length = 4 := rfl
                have hE1 : (ints [0, (e1 : Int), (e2 : Int), (e3 : Int)]).getD 3 [] = [.int .i64 (e3 : Int)] := rfl
                have hle : ((e3 : Int) ≤ (k : Int)) := by omega
                simp only [Try.ntmps3, Try.results3, push_cast, Nat.reduceAdd, Nat.reduceSub, Nat.reduceMul, Nat.reduceLeDiff, Nat.reduceEqDiff, Nat.reduceLT, Int.reduceLT, Int.reduceLE, Int.reduceEq, Int.reduceNeg, Int.reduceToNat, hke]
                refine GoL_call rfl rfl k3 (by simp only [push_cast, Nat.reduceAdd, Nat.reduceSub, Nat.reduceMul, Nat.reduceLeDiff, Nat.reduceEqDiff, Nat.reduceLT, Int.reduceLT, Int.reduceLE, Int.reduceEq, Int.reduceNeg, Int.reduceToNat]) rfl ?_
                simp only [Try.ntmps3, Try.results3, push_cast, Nat.reduceAdd, Nat.reduceSub, Nat.reduceMul, Nat.reduceLeDiff, Nat.reduceEqDiff, Nat.reduceLT, Int.reduceLT, Int.reduceLE, Int.reduceEq, Int.reduceNeg, Int.reduceToNat, Int.zero_add, Int.reduceAdd, vR_getD, hEl, hE1, hle, hSl, hTm, hTm2]
                refine GoL_call rfl (by simp only [push_cast, Nat.reduceAdd, Nat.reduceSub, Nat.reduceMul, Nat.reduceLeDiff, Nat.reduceEqDiff, Nat.reduceLT, Int.reduceLT, Int.reduceLE, Int.reduceEq, Int.reduceNeg, Int.reduceToNat, hTm, hTm2]) k4 rfl rfl ?_
                simp only [Try.ntmps3, Try.results3, push_cast, Nat.reduceAdd, Nat.reduceSub, Nat.reduceMul, Nat.reduceLeDiff, Nat.reduceEqDiff, Nat.reduceLT, Int.reduceLT, Int.reduceLE, Int.reduceEq, Int.reduceNeg, Int.reduceToNat, Int.zero_add, Int.reduceAdd, vR_getD, hEl, hE1, hle, hSl, hTm, hTm2]
theorem byR_dec : ∀ R : List (List C), (∀ r ∈ R, HasKt (.int .u8) r) → ∃ l, R = byR l
  | [], _ => ⟨[], rfl⟩
  | r :: R, h => by
    obtain ⟨l, rfl⟩ := byR_dec R fun r' hr => h r' (List.mem_cons_of_mem _ hr)
    obtain ⟨n, rfl, hn⟩ := h r (List.mem_cons_self ..)
    have hn2 : 0 ≤ n ∧ n < 256 := by
      have h1 : IntKind.u8.min = 0 := rfl
      have h2 : IntKind.u8.max = 255 := rfl
      simp only [Lit.wf, Bool.and_eq_true, decide_eq_true_eq] at hn
      omega
    refine ⟨UInt8.ofNat n.toNat :: l, ?_⟩
    have : ((UInt8.ofNat n.toNat).toNat : Int) = n := by rw [ofNat_toNat (by omega)]; omega
    simp only [byR, List.map_cons, this]
theorem lawFrames (xs : List X) (h : HasXs [.sl 1 1 (.int .u8)] xs) : PureFn Try.prog 3 xs [.one (.v (.bool true))] := by
  obtain ⟨x, _, rfl, ⟨c, rfl, hc⟩, rfl⟩ := h
  simp only [HasKt] at hc
  obtain ⟨R, hR, _, _, h2⟩ := hc
  cases hR
  obtain ⟨l, rfl⟩ := byR_dec R fun r hr => h2 r hr
  exact law_ok l
end Go.Proofs.Yteflbcdjlphnjaa
