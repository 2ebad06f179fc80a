/- The reference's frames of a file; Frame. -/
import Derived.Test.YtbnabpmfdnfigaaW6
namespace Go.Proofs.Ytbnabpmfdnfigaa
open Go.RowKit Go.Rx
set_option linter.unusedSimpArgs false
set_option maxRecDepth 100000

theorem seg_append (s : ByteArray) (a i j : Nat) : seg s a (i + j) = seg s a i ++ seg s (a + i) j := by
  unfold seg
  rw [List.take_add, List.drop_drop]
theorem seg_len {s : ByteArray} {a k : Nat} (h : a + k ≤ s.size) : (seg s a k).length = k := by
  unfold seg
  have : s.data.toList.length = s.size := by rw [Array.length_toList]; rfl
  rw [List.length_take, List.length_drop, this]; omega
theorem rvL_canon {s : ByteArray} {a m x : Nat} : ∀ (k i n u : Nat), u = 128 ^ i → n = val (seg s a i) → a + i ≤ s.size → (∀ q ∈ seg s a i, 128 ≤ q.toNat) → rvL s a k i n u = some (m, x) → varL m = seg s a (x - a)
  | 0, _, _, _, _, _, _, _, h => by cases h
  | k + 1, i, n, u, hu, hn, hi, hall, h => by
    by_cases h1 : a + i < s.size
    · have hsg := seg_succ h1
      have hl := seg_len hi
      have hval : n + (bu s (a + i)).toNat % 128 * u = val (seg s a (i + 1)) := by rw [hsg, val_snoc, ← hn, hl, ← hu]
      by_cases h2 : 128 ≤ (bu s (a + i)).toNat
      · rw [rvL_go h1 h2] at h
        refine rvL_canon k (i + 1) _ _ (by rw [Nat.pow_succ, hu]) hval (by omega) (fun q hq => ?_) h
        rw [hsg, List.mem_append] at hq
        rcases hq with hq | hq
        · exact hall q hq
        · rw [List.mem_singleton.1 hq]; exact h2
      · by_cases h3 : ((bu s (a + i)).toNat = 0 ∧ 0 < i) ∨ 1000000000 < n + (bu s (a + i)).toNat % 128 * u
        · rw [rvL_no h1 h2 h3] at h; cases h
        · rw [rvL_yes h1 h2 h3] at h
          obtain ⟨rfl, rfl⟩ := Prod.mk.inj (Option.some.inj h)
          have hcan := (canon (b := bu s (a + i)) hall (by omega)).2 (by rw [hl]; exact fun hc => h3 (.inl hc))
          rw [← hsg] at hcan
          rw [hval, hcan]
          congr 1; omega
    · rw [rvL_out h1] at h; cases h
theorem rvO_canon {s : ByteArray} {a n x : Nat} (h : rvO s a = some (n, x)) : varL n = seg s a (x - a) := by
  unfold rvO at h
  split at h
  · rename_i hc
    exact rvL_canon 5 0 0 1 rfl (by simp [seg, val]) (by omega) (by simp [seg]) h
  · cases h
theorem varL_len (n : Nat) : (varL n).length ≤ n + 1 := by
  induction n using Nat.strongRecOn with
  | ind n ih =>
    by_cases h : n ≤ 127
    · rw [varL_small h]; simp
    · rw [varL_big h, List.length_cons]
      have := ih (n / 128) (by omega)
      omega
theorem varB_size (n : Nat) : (varB n).size ≤ n + 1 := by
  have := varL_len n
  show (varL n).toArray.size ≤ _
  simpa using this
def frameB (t : ByteArray) : ByteArray := varB t.size ++ four (sumN t) ++ t
theorem app_list (x y : ByteArray) : (x ++ y).data.toList = x.data.toList ++ y.data.toList := by rw [ByteArray.data_append, Array.toList_append]
theorem frame_iff {s : ByteArray} {a n x : Nat} (h : rvO s a = some (n, x)) (hz : x + 4 + n ≤ s.size) :
    frameB (s.extract (x + 4) (x + 4 + n)) = s.extract a (x + 4 + n) ↔ four (sumN (s.extract (x + 4) (x + 4 + n))) = s.extract x (x + 4) := by
  obtain ⟨_, ha0, hax, hxs⟩ := rvO_bound h
  have hc := rvO_canon h
  have hsz : (s.extract (x + 4) (x + 4 + n)).size = n := by rw [ByteArray.size_extract]; omega
  have e1 : (frameB (s.extract (x + 4) (x + 4 + n))).data.toList = seg s a (x - a) ++ ((four (sumN (s.extract (x + 4) (x + 4 + n)))).data.toList ++ seg s (x + 4) n) := by
    unfold frameB
    rw [app_list, app_list, hsz, varB_list, hc, extract_list, show x + 4 + n - (x + 4) = n by omega, List.append_assoc]
  have e2 : (s.extract a (x + 4 + n)).data.toList = seg s a (x - a) ++ (seg s x 4 ++ seg s (x + 4) n) := by
    rw [extract_list, show x + 4 + n - a = (x - a) + (4 + n) by omega, seg_append, show a + (x - a) = x by omega, seg_append]
  have e3 : (s.extract x (x + 4)).data.toList = seg s x 4 := by rw [extract_list, show x + 4 - x = 4 by omega]
  constructor
  · intro hh
    have : (frameB (s.extract (x + 4) (x + 4 + n))).data.toList = (s.extract a (x + 4 + n)).data.toList := by rw [hh]
    rw [e1, e2] at this
    refine bytes_ext ?_
    rw [e3]
    exact List.append_cancel_right (List.append_cancel_left this)
  · intro hh
    refine bytes_ext ?_
    rw [e1, e2, hh, e3]

theorem frame_ok (t : ByteArray) (ht : t.size ≤ 4000000000) : PureFn Try.prog 55 [st t] [st (frameB t)] := by
  refine PureFn_of_Go Try.func55 rfl (by decide) mo (by decide +kernel) ?_
  simp only [Try.ntmps55, Try.results55, push_cast, fr, Nat.reduceAdd, Nat.reduceSub, Nat.reduceMul, Nat.reduceLeDiff, Nat.reduceEqDiff, Nat.reduceLT, Nat.zero_lt_one, Nat.zero_add, if_false, if_true, ne_eq, not_true_eq_false, not_false_eq_true, decide_false, decide_true, Bool.not_true, Bool.not_false, Int.natCast_nonneg, Int.toNat_natCast, and_self, true_and, and_true, Int.reduceLT, Int.reduceLE, Int.reduceEq, Int.reduceNeg, Int.reduceToNat, resOk, or_true, true_or]
  refine GoL_call rfl rfl (varText_ok t.size (by omega)) rfl rfl ?_
  simp only [Try.ntmps55, Try.results55, push_cast, fr, Nat.reduceAdd, Nat.reduceSub, Nat.reduceMul, Nat.reduceLeDiff, Nat.reduceEqDiff, Nat.reduceLT, Nat.zero_lt_one, Nat.zero_add, if_false, if_true, ne_eq, not_true_eq_false, not_false_eq_true, decide_false, decide_true, Bool.not_true, Bool.not_false, Int.natCast_nonneg, Int.toNat_natCast, and_self, true_and, and_true, Int.reduceLT, Int.reduceLE, Int.reduceEq, Int.reduceNeg, Int.reduceToNat, resOk, or_true, true_or]
  refine GoL_call rfl rfl (sumText_ok t (by omega)) rfl rfl ?_
  have h1 := varB_size t.size
  have h2 := four_size (sumN t)
  have h3 : (varB t.size).size + (four (sumN t)).size ≤ 9223372036854775807 := by omega
  have h4 : (varB t.size ++ four (sumN t)).size + t.size ≤ 9223372036854775807 := by rw [ByteArray.size_append]; omega
  simp only [Try.ntmps55, Try.results55, push_cast, fr, Nat.reduceAdd, Nat.reduceSub, Nat.reduceMul, Nat.reduceLeDiff, Nat.reduceEqDiff, Nat.reduceLT, Nat.zero_lt_one, Nat.zero_add, if_false, if_true, ne_eq, not_true_eq_false, not_false_eq_true, decide_false, decide_true, Bool.not_true, Bool.not_false, Int.natCast_nonneg, Int.toNat_natCast, and_self, true_and, and_true, Int.reduceLT, Int.reduceLE, Int.reduceEq, Int.reduceNeg, Int.reduceToNat, resOk, or_true, true_or, h3, h4, frameB]
def okLen (t : ByteArray) : Bool := decide ((1 : Int) ≤ (t.size : Int)) && decide ((t.size : Int) ≤ 9000)
def frameX (t : ByteArray) : List X := if okLen t then [st (frameB t), bo true] else [st ⟨#[]⟩, bo false]
theorem frameI_ok (t : ByteArray) (ht : t.size ≤ 140737488355328) : PureFn Try.prog 29 [st t] (frameX t) := by
  refine PureFn_of_Go Try.func29 rfl (by decide) mo (by decide +kernel) ?_
  have k := inRange_ok t.size 1 9000
  rw [show (decide ((1 : Int) ≤ (t.size : Int)) && decide ((t.size : Int) ≤ 9000)) = okLen t from rfl] at k
  simp only [Try.ntmps29, Try.results29, push_cast, fr, Nat.reduceAdd, Nat.reduceSub, Nat.reduceMul, Nat.reduceLeDiff, Nat.reduceEqDiff, Nat.reduceLT, Nat.zero_lt_one, Nat.zero_add, if_false, if_true, ne_eq, not_true_eq_false, not_false_eq_true, decide_false, decide_true, Bool.not_true, Bool.not_false, Int.natCast_nonneg, Int.toNat_natCast, and_self, true_and, and_true, Int.reduceLT, Int.reduceLE, Int.reduceEq, Int.reduceNeg, Int.reduceToNat, resOk, or_true, true_or]
  refine GoL_call rfl rfl k rfl rfl ?_
  cases c : okLen t with
  | true =>
    have hc : t.size ≤ 9000 := by simp [okLen] at c; omega
    simp only [Try.ntmps29, Try.results29, push_cast, fr, Nat.reduceAdd, Nat.reduceSub, Nat.reduceMul, Nat.reduceLeDiff, Nat.reduceEqDiff, Nat.reduceLT, Nat.zero_lt_one, Nat.zero_add, if_false, if_true, ne_eq, not_true_eq_false, not_false_eq_true, decide_false, decide_true, Bool.not_true, Bool.not_false, Int.natCast_nonneg, Int.toNat_natCast, and_self, true_and, and_true, Int.reduceLT, Int.reduceLE, Int.reduceEq, Int.reduceNeg, Int.reduceToNat, resOk, or_true, true_or, frameX, c]
    refine GoL_call rfl rfl (frame_ok t (by omega)) rfl rfl ?_
    simp only [Try.ntmps29, Try.results29, push_cast, fr, Nat.reduceAdd, Nat.reduceSub, Nat.reduceMul, Nat.reduceLeDiff, Nat.reduceEqDiff, Nat.reduceLT, Nat.zero_lt_one, Nat.zero_add, if_false, if_true, ne_eq, not_true_eq_false, not_false_eq_true, decide_false, decide_true, Bool.not_true, Bool.not_false, Int.natCast_nonneg, Int.toNat_natCast, and_self, true_and, and_true, Int.reduceLT, Int.reduceLE, Int.reduceEq, Int.reduceNeg, Int.reduceToNat, resOk, or_true, true_or, frameX, c]
  | false => simp only [Try.ntmps29, Try.results29, push_cast, fr, Nat.reduceAdd, Nat.reduceSub, Nat.reduceMul, Nat.reduceLeDiff, Nat.reduceEqDiff, Nat.reduceLT, Nat.zero_lt_one, Nat.zero_add, if_false, if_true, ne_eq, not_true_eq_false, not_false_eq_true, decide_false, decide_true, Bool.not_true, Bool.not_false, Int.natCast_nonneg, Int.toNat_natCast, and_self, true_and, and_true, Int.reduceLT, Int.reduceLE, Int.reduceEq, Int.reduceNeg, Int.reduceToNat, resOk, or_true, true_or, frameX, c, Bool.false_eq_true]
theorem frameS_ok (t : ByteArray) (ht : t.size ≤ 140737488355328) : PureFn Try.prog 58 [st t] (frameX t) := by
  refine PureFn_of_Go Try.func58 rfl (by decide) mo (by decide +kernel) ?_
  have k := l01In_ok t.size 1 9000
  rw [show (decide ((1 : Int) ≤ (t.size : Int)) && decide ((t.size : Int) ≤ 9000)) = okLen t from rfl] at k
  simp only [Try.ntmps58, Try.results58, push_cast, fr, Nat.reduceAdd, Nat.reduceSub, Nat.reduceMul, Nat.reduceLeDiff, Nat.reduceEqDiff, Nat.reduceLT, Nat.zero_lt_one, Nat.zero_add, if_false, if_true, ne_eq, not_true_eq_false, not_false_eq_true, decide_false, decide_true, Bool.not_true, Bool.not_false, Int.natCast_nonneg, Int.toNat_natCast, and_self, true_and, and_true, Int.reduceLT, Int.reduceLE, Int.reduceEq, Int.reduceNeg, Int.reduceToNat, resOk, or_true, true_or]
  refine GoL_call rfl rfl k rfl rfl ?_
  cases c : okLen t with
  | true =>
    have hc : t.size ≤ 9000 := by simp [okLen] at c; omega
    simp only [Try.ntmps58, Try.results58, push_cast, fr, Nat.reduceAdd, Nat.reduceSub, Nat.reduceMul, Nat.reduceLeDiff, Nat.reduceEqDiff, Nat.reduceLT, Nat.zero_lt_one, Nat.zero_add, if_false, if_true, ne_eq, not_true_eq_false, not_false_eq_true, decide_false, decide_true, Bool.not_true, Bool.not_false, Int.natCast_nonneg, Int.toNat_natCast, and_self, true_and, and_true, Int.reduceLT, Int.reduceLE, Int.reduceEq, Int.reduceNeg, Int.reduceToNat, resOk, or_true, true_or, frameX, c]
    refine GoL_call rfl rfl (l01Var_ok t.size (by omega)) rfl rfl ?_
    simp only [Try.ntmps58, Try.results58, push_cast, fr, Nat.reduceAdd, Nat.reduceSub, Nat.reduceMul, Nat.reduceLeDiff, Nat.reduceEqDiff, Nat.reduceLT, Nat.zero_lt_one, Nat.zero_add, if_false, if_true, ne_eq, not_true_eq_false, not_false_eq_true, decide_false, decide_true, Bool.not_true, Bool.not_false, Int.natCast_nonneg, Int.toNat_natCast, and_self, true_and, and_true, Int.reduceLT, Int.reduceLE, Int.reduceEq, Int.reduceNeg, Int.reduceToNat, resOk, or_true, true_or, frameX, c]
    refine GoL_call rfl rfl (sumOfS_ok t (by omega)) rfl rfl ?_
    simp only [Try.ntmps58, Try.results58, push_cast, fr, Nat.reduceAdd, Nat.reduceSub, Nat.reduceMul, Nat.reduceLeDiff, Nat.reduceEqDiff, Nat.reduceLT, Nat.zero_lt_one, Nat.zero_add, if_false, if_true, ne_eq, not_true_eq_false, not_false_eq_true, decide_false, decide_true, Bool.not_true, Bool.not_false, Int.natCast_nonneg, Int.toNat_natCast, and_self, true_and, and_true, Int.reduceLT, Int.reduceLE, Int.reduceEq, Int.reduceNeg, Int.reduceToNat, resOk, or_true, true_or, frameX, c]
    refine GoL_call rfl rfl (l02Four_ok (sumN t)) rfl rfl ?_
    have h1 := varB_size t.size
    have h2 := four_size (sumN t)
    have h3 : (varB t.size).size + (four (sumN t)).size ≤ 9223372036854775807 := by omega
    have h4 : (varB t.size ++ four (sumN t)).size + t.size ≤ 9223372036854775807 := by rw [ByteArray.size_append]; omega
    simp only [Try.ntmps58, Try.results58, push_cast, fr, Nat.reduceAdd, Nat.reduceSub, Nat.reduceMul, Nat.reduceLeDiff, Nat.reduceEqDiff, Nat.reduceLT, Nat.zero_lt_one, Nat.zero_add, if_false, if_true, ne_eq, not_true_eq_false, not_false_eq_true, decide_false, decide_true, Bool.not_true, Bool.not_false, Int.natCast_nonneg, Int.toNat_natCast, and_self, true_and, and_true, Int.reduceLT, Int.reduceLE, Int.reduceEq, Int.reduceNeg, Int.reduceToNat, resOk, or_true, true_or, frameX, c, h3, h4, frameB]
  | false => simp only [Try.ntmps58, Try.results58, push_cast, fr, Nat.reduceAdd, Nat.reduceSub, Nat.reduceMul, Nat.reduceLeDiff, Nat.reduceEqDiff, Nat.reduceLT, Nat.zero_lt_one, Nat.zero_add, if_false, if_true, ne_eq, not_true_eq_false, not_false_eq_true, decide_false, decide_true, Bool.not_true, Bool.not_false, Int.natCast_nonneg, Int.toNat_natCast, and_self, true_and, and_true, Int.reduceLT, Int.reduceLE, Int.reduceEq, Int.reduceNeg, Int.reduceToNat, resOk, or_true, true_or, frameX, c, Bool.false_eq_true]

theorem frLast_snoc (l : List (ByteArray × Nat)) (t : ByteArray) (x : Nat) : frLast (l ++ [(t, x)]) = x := by simp [frLast]
theorem unframeS_ok (s : ByteArray) (hs : s.size ≤ 140737488355328) : PureFn Try.prog 32 [st s] [.one (.own 1 (vR (strs (unfT s)))), i64 (unfE s)] := by
  refine PureFn_of_Go Try.func32 rfl (by decide) mo (by decide +kernel) ?_
  obtain ⟨F, hF⟩ : ∃ F, F = frs s := ⟨_, rfl⟩
  unfold unfT unfE
  rw [← hF]
  by_cases c0 : (20000 : Int) < (s.size : Int)
  · have e0 : F = [] := by rw [hF]; exact if_neg (by omega)
    subst e0
    simp only [Try.ntmps32, Try.results32, push_cast, fr, Nat.reduceAdd, Nat.reduceSub, Nat.reduceMul, Nat.reduceLeDiff, Nat.reduceEqDiff, Nat.reduceLT, Nat.zero_lt_one, Nat.zero_add, if_false, if_true, ne_eq, not_true_eq_false, not_false_eq_true, decide_false, decide_true, Bool.not_true, Bool.not_false, Int.natCast_nonneg, Int.toNat_natCast, and_self, true_and, and_true, Int.reduceLT, Int.reduceLE, Int.reduceEq, Int.reduceNeg, Int.reduceToNat, resOk, or_true, true_or, c0, frTs, frLast, strs, List.map_nil, List.getLast?_nil, Option.map_none, Option.getD_none, Int.ofNat_zero]
  have hFe : F = frL s (s.size + 1) 0 := by rw [hF]; exact if_pos (by omega)
  simp only [Try.ntmps32, Try.results32, push_cast, fr, Nat.reduceAdd, Nat.reduceSub, Nat.reduceMul, Nat.reduceLeDiff, Nat.reduceEqDiff, Nat.reduceLT, Nat.zero_lt_one, Nat.zero_add, if_false, if_true, ne_eq, not_true_eq_false, not_false_eq_true, decide_false, decide_true, Bool.not_true, Bool.not_false, Int.natCast_nonneg, Int.toNat_natCast, and_self, true_and, and_true, Int.reduceLT, Int.reduceLE, Int.reduceEq, Int.reduceNeg, Int.reduceToNat, resOk, or_true, true_or, c0]
  refine Go_loop (α := {p : List (ByteArray × Nat) × Nat // p.2 ≤ s.size ∧ p.1.length ≤ p.2 ∧ p.1 ++ frL s (s.size + 1 - p.2) p.2 = F ∧ frLast p.1 = p.2})
    (fun p => ⟨tp 79 [(0, .x (st s)), (4, .x (.one (.rs (0, 4608) [] 1 0 p.1.1.length))), (5, int p.1.2)], 0, [((0, 4608), ⟨.sl, 1, vR (strs (frTs p.1.1))⟩)], []⟩)
    (fun p => s.size - p.1.2) ⟨([], 0), by simp, by simp, hFe.symm, rfl⟩ ?_ ?_
  · refine Weak.trans (Weak.rename (0, 768) (0, 4608) rfl rfl (by decide) rfl) ?_
    simp only [push_cast, fr, Nat.reduceAdd, Nat.reduceSub, Nat.reduceMul, Nat.reduceLeDiff, Nat.reduceEqDiff, Nat.reduceLT, Nat.zero_lt_one, Nat.zero_add, if_false, if_true, ne_eq, not_true_eq_false, not_false_eq_true, decide_false, decide_true, Bool.not_true, Bool.not_false, Int.natCast_nonneg, Int.toNat_natCast, and_self, true_and, and_true, Int.reduceLT, Int.reduceLE, Int.reduceEq, Int.reduceNeg, Int.reduceToNat, resOk, or_true, true_or, frTs, strs, List.map_nil]
    exact Weak.same (by simp only [push_cast, fr, Nat.reduceAdd, Nat.reduceSub, Nat.reduceMul, Nat.reduceLeDiff, Nat.reduceEqDiff, Nat.reduceLT, Nat.zero_lt_one, Nat.zero_add, if_false, if_true, ne_eq, not_true_eq_false, not_false_eq_true, decide_false, decide_true, Bool.not_true, Bool.not_false, Int.natCast_nonneg, Int.toNat_natCast, and_self, true_and, and_true, Int.reduceLT, Int.reduceLE, Int.reduceEq, Int.reduceNeg, Int.reduceToNat, resOk, or_true, true_or, Int.ofNat_zero])
  · rintro ⟨⟨l, a⟩, ha, hla, hinv, hlast⟩ X hX
    simp only at ha hla hinv hlast
    have l1 : (strs (frTs l)).length = l.length := by simp [strs, frTs]
    have stop : frO s a = none → F = l := fun hf => by
      rw [← hinv, show s.size + 1 - a = (s.size - a) + 1 by omega, frL, hf, List.append_nil]
    by_cases c1 : (a : Int) < (s.size : Int)
    · cases hr : rvO s a with
      | none =>
        have hFl := stop (by simp [frO, hr])
        subst hFl
        have k := readVarS_ok s hs a (by omega)
        rw [hr] at k
        simp only [Try.ntmps32, Try.results32, push_cast, fr, Nat.reduceAdd, Nat.reduceSub, Nat.reduceMul, Nat.reduceLeDiff, Nat.reduceEqDiff, Nat.reduceLT, Nat.zero_lt_one, Nat.zero_add, if_false, if_true, ne_eq, not_true_eq_false, not_false_eq_true, decide_false, decide_true, Bool.not_true, Bool.not_false, Int.natCast_nonneg, Int.toNat_natCast, and_self, true_and, and_true, Int.reduceLT, Int.reduceLE, Int.reduceEq, Int.reduceNeg, Int.reduceToNat, resOk, or_true, true_or, c1]
        refine GoL_call rfl rfl k rfl rfl ?_
        simp only [Try.ntmps32, Try.results32, push_cast, fr, Nat.reduceAdd, Nat.reduceSub, Nat.reduceMul, Nat.reduceLeDiff, Nat.reduceEqDiff, Nat.reduceLT, Nat.zero_lt_one, Nat.zero_add, if_false, if_true, ne_eq, not_true_eq_false, not_false_eq_true, decide_false, decide_true, Bool.not_true, Bool.not_false, Int.natCast_nonneg, Int.toNat_natCast, and_self, true_and, and_true, Int.reduceLT, Int.reduceLE, Int.reduceEq, Int.reduceNeg, Int.reduceToNat, resOk, or_true, true_or, rvX, l1, hlast]
      | some p =>
        obtain ⟨n, x⟩ := p
        obtain ⟨hn1, _, hx1, hx2⟩ := rvO_bound hr
        have k := readVarS_ok s hs a (by omega)
        rw [hr] at k
        have w1 : IntKind.i64.wrap ((s.size : Int) - (x : Int)) = ((s.size - x : Nat) : Int) := wN (by omega) (by omega)
        obtain ⟨r, hrr⟩ : ∃ r, r = s.size - x := ⟨_, rfl⟩
        rw [← hrr] at w1
        have w2 : IntKind.i64.wrap ((r : Int) - 4) = (r : Int) - 4 := w64 (by omega) (by omega)
        have hfO : frO s a = if x + 4 + n ≤ s.size ∧ 1 ≤ n ∧ n ≤ 9000 ∧ four (sumN (s.extract (x + 4) (x + 4 + n))) = s.extract x (x + 4) then some (s.extract (x + 4) (x + 4 + n), x + 4 + n) else none := by simp [frO, hr]
        by_cases c2 : (r : Int) - 4 < (n : Int)
        · have hFl := stop (by rw [hfO, if_neg fun h => by omega])
          subst hFl
          simp only [Try.ntmps32, Try.results32, push_cast, fr, Nat.reduceAdd, Nat.reduceSub, Nat.reduceMul, Nat.reduceLeDiff, Nat.reduceEqDiff, Nat.reduceLT, Nat.zero_lt_one, Nat.zero_add, if_false, if_true, ne_eq, not_true_eq_false, not_false_eq_true, decide_false, decide_true, Bool.not_true, Bool.not_false, Int.natCast_nonneg, Int.toNat_natCast, and_self, true_and, and_true, Int.reduceLT, Int.reduceLE, Int.reduceEq, Int.reduceNeg, Int.reduceToNat, resOk, or_true, true_or, c1]
          refine GoL_call rfl rfl k rfl rfl ?_
          simp only [Try.ntmps32, Try.results32, push_cast, fr, Nat.reduceAdd, Nat.reduceSub, Nat.reduceMul, Nat.reduceLeDiff, Nat.reduceEqDiff, Nat.reduceLT, Nat.zero_lt_one, Nat.zero_add, if_false, if_true, ne_eq, not_true_eq_false, not_false_eq_true, decide_false, decide_true, Bool.not_true, Bool.not_false, Int.natCast_nonneg, Int.toNat_natCast, and_self, true_and, and_true, Int.reduceLT, Int.reduceLE, Int.reduceEq, Int.reduceNeg, Int.reduceToNat, resOk, or_true, true_or, rvX, l1, hlast, w1, w2, c2]
        · have hiff := frame_iff hr (by omega)
          have w3 : IntKind.i64.wrap ((x : Int) + 4) = ((x + 4 : Nat) : Int) := wN (by omega) (by omega)
          have w4 : IntKind.i64.wrap (((x + 4 : Nat) : Int) + (n : Int)) = ((x + 4 + n : Nat) : Int) := wN (by omega) (by omega)
          have hsz : (s.extract (x + 4) (x + 4 + n)).size = n := by rw [ByteArray.size_extract]; omega
          obtain ⟨y, hy⟩ : ∃ y, y = x + 4 := ⟨_, rfl⟩
          rw [← hy] at w3 w4 hsz hfO hiff
          obtain ⟨z, hz⟩ : ∃ z, z = y + n := ⟨_, rfl⟩
          rw [← hz] at w4 hsz hfO hiff
          have b1 : y ≤ z := by omega
          have b2 : z ≤ s.size := by omega
          have b3 : a ≤ z := by omega
          have kf := frameS_ok (s.extract y z) (by rw [hsz]; omega)
          obtain ⟨t, ht⟩ : ∃ t, t = s.extract y z := ⟨_, rfl⟩
          rw [← ht] at hsz hfO hiff kf
          simp only [Try.ntmps32, Try.results32, push_cast, fr, Nat.reduceAdd, Nat.reduceSub, Nat.reduceMul, Nat.reduceLeDiff, Nat.reduceEqDiff, Nat.reduceLT, Nat.zero_lt_one, Nat.zero_add, if_false, if_true, ne_eq, not_true_eq_false, not_false_eq_true, decide_false, decide_true, Bool.not_true, Bool.not_false, Int.natCast_nonneg, Int.toNat_natCast, and_self, true_and, and_true, Int.reduceLT, Int.reduceLE, Int.reduceEq, Int.reduceNeg, Int.reduceToNat, resOk, or_true, true_or, c1]
          refine GoL_call rfl rfl k rfl rfl ?_
          simp only [Try.ntmps32, Try.results32, push_cast, fr, Nat.reduceAdd, Nat.reduceSub, Nat.reduceMul, Nat.reduceLeDiff, Nat.reduceEqDiff, Nat.reduceLT, Nat.zero_lt_one, Nat.zero_add, if_false, if_true, ne_eq, not_true_eq_false, not_false_eq_true, decide_false, decide_true, Bool.not_true, Bool.not_false, Int.natCast_nonneg, Int.toNat_natCast, and_self, true_and, and_true, Int.reduceLT, Int.reduceLE, Int.reduceEq, Int.reduceNeg, Int.reduceToNat, resOk, or_true, true_or, rvX, l1, w1, w2, c2, w3, w4, b1, b2, ← ht]
          cases c3 : okLen t with
          | false =>
            simp only [frameX, c3, Bool.false_eq_true, if_false] at kf
            refine GoL_call rfl rfl kf rfl rfl ?_
            have hFl := stop (by rw [hfO, if_neg]; rintro ⟨_, h1, h2, _⟩; simp [okLen] at c3; omega)
            subst hFl
            simp only [Try.ntmps32, Try.results32, push_cast, fr, Nat.reduceAdd, Nat.reduceSub, Nat.reduceMul, Nat.reduceLeDiff, Nat.reduceEqDiff, Nat.reduceLT, Nat.zero_lt_one, Nat.zero_add, if_false, if_true, ne_eq, not_true_eq_false, not_false_eq_true, decide_false, decide_true, Bool.not_true, Bool.not_false, Int.natCast_nonneg, Int.toNat_natCast, and_self, true_and, and_true, Int.reduceLT, Int.reduceLE, Int.reduceEq, Int.reduceNeg, Int.reduceToNat, resOk, or_true, true_or, l1, hlast]
          | true =>
            have hc3 : 1 ≤ n ∧ n ≤ 9000 := by simp [okLen] at c3; omega
            simp only [frameX, c3, if_true] at kf
            refine GoL_call rfl rfl kf rfl rfl ?_
            cases c4 : decide (frameB t = s.extract a z) with
            | false =>
              have hFl := stop (by rw [hfO, if_neg]; exact fun h => of_decide_eq_false c4 (hiff.2 h.2.2.2))
              subst hFl
              simp only [Try.ntmps32, Try.results32, push_cast, fr, Nat.reduceAdd, Nat.reduceSub, Nat.reduceMul, Nat.reduceLeDiff, Nat.reduceEqDiff, Nat.reduceLT, Nat.zero_lt_one, Nat.zero_add, if_false, if_true, ne_eq, not_true_eq_false, not_false_eq_true, decide_false, decide_true, Bool.not_true, Bool.not_false, Int.natCast_nonneg, Int.toNat_natCast, and_self, true_and, and_true, Int.reduceLT, Int.reduceLE, Int.reduceEq, Int.reduceNeg, Int.reduceToNat, resOk, or_true, true_or, l1, hlast, w3, w4, b3, b2, c4]
            | true =>
              have hf : frO s a = some (t, z) := by rw [hfO, if_pos ⟨b2, hc3.1, hc3.2, hiff.1 (of_decide_eq_true c4)⟩]
              rw [show s.size + 1 - a = (s.size - a) + 1 by omega, frL, hf] at hinv
              simp only at hinv
              rw [frL_fuel s (s.size - a) (s.size + 1 - z) z (by omega) (by omega)] at hinv
              have a0 : l.length + 1 ≤ 4294967296 := by omega
              have a1 := max_len a0
              have a2 := room_le (b := 16) a0 (by decide)
              have s1 := vR_snoc (strs (frTs l)) [.string t]
              have e1 : strs (frTs l) ++ [[Value.string t]] = strs (frTs (l ++ [(t, z)])) := by simp [strs, frTs]
              rw [e1] at s1
              simp only [List.map_cons, List.map_nil] at s1
              obtain ⟨l', hl'⟩ : ∃ l', l' = l ++ [(t, z)] := ⟨_, rfl⟩
              rw [← hl'] at s1
              have hll : l'.length = l.length + 1 := by rw [hl']; simp
              simp only [push_cast, fr, Nat.reduceAdd, Nat.reduceSub, Nat.reduceMul, Nat.reduceLeDiff, Nat.reduceEqDiff, Nat.reduceLT, Nat.zero_lt_one, Nat.zero_add, if_false, if_true, ne_eq, not_true_eq_false, not_false_eq_true, decide_false, decide_true, Bool.not_true, Bool.not_false, Int.natCast_nonneg, Int.toNat_natCast, and_self, true_and, and_true, Int.reduceLT, Int.reduceLE, Int.reduceEq, Int.reduceNeg, Int.reduceToNat, resOk, or_true, true_or, l1, w3, w4, b3, b2, c4, a1, a2, s1, flatRows, flatRow]
              refine ⟨_, ?_, hX ⟨(l', z), b2, by simp only; omega, by simp only; rw [hl', List.append_assoc]; exact hinv, by simp only; rw [hl', frLast_snoc]⟩ (by simp only; omega)⟩
              exact Weak.drop (by simp only [push_cast, fr, Nat.reduceAdd, Nat.reduceSub, Nat.reduceMul, Nat.reduceLeDiff, Nat.reduceEqDiff, Nat.reduceLT, Nat.zero_lt_one, Nat.zero_add, if_false, if_true, ne_eq, not_true_eq_false, not_false_eq_true, decide_false, decide_true, Bool.not_true, Bool.not_false, Int.natCast_nonneg, Int.toNat_natCast, and_self, true_and, and_true, Int.reduceLT, Int.reduceLE, Int.reduceEq, Int.reduceNeg, Int.reduceToNat, resOk, or_true, true_or, hll]) (by simp only [push_cast, fr, Nat.reduceAdd, Nat.reduceSub, Nat.reduceMul, Nat.reduceLeDiff, Nat.reduceEqDiff, Nat.reduceLT, Nat.zero_lt_one, Nat.zero_add, if_false, if_true, ne_eq, not_true_eq_false, not_false_eq_true, decide_false, decide_true, Bool.not_true, Bool.not_false, Int.natCast_nonneg, Int.toNat_natCast, and_self, true_and, and_true, Int.reduceLT, Int.reduceLE, Int.reduceEq, Int.reduceNeg, Int.reduceToNat, resOk, or_true, true_or, hll]) (by simp only [push_cast, fr, Nat.reduceAdd, Nat.reduceSub, Nat.reduceMul, Nat.reduceLeDiff, Nat.reduceEqDiff, Nat.reduceLT, Nat.zero_lt_one, Nat.zero_add, if_false, if_true, ne_eq, not_true_eq_false, not_false_eq_true, decide_false, decide_true, Bool.not_true, Bool.not_false, Int.natCast_nonneg, Int.toNat_natCast, and_self, true_and, and_true, Int.reduceLT, Int.reduceLE, Int.reduceEq, Int.reduceNeg, Int.reduceToNat, resOk, or_true, true_or, hll])
    · have hFl := stop (by
        unfold frO rvO
        rw [if_pos (by omega), rvL_out (by simp; omega)])
      subst hFl
      simp only [Try.ntmps32, Try.results32, push_cast, fr, Nat.reduceAdd, Nat.reduceSub, Nat.reduceMul, Nat.reduceLeDiff, Nat.reduceEqDiff, Nat.reduceLT, Nat.zero_lt_one, Nat.zero_add, if_false, if_true, ne_eq, not_true_eq_false, not_false_eq_true, decide_false, decide_true, Bool.not_true, Bool.not_false, Int.natCast_nonneg, Int.toNat_natCast, and_self, true_and, and_true, Int.reduceLT, Int.reduceLE, Int.reduceEq, Int.reduceNeg, Int.reduceToNat, resOk, or_true, true_or, c1, l1, hlast]

theorem lawUnframe_ok (s : ByteArray) (hs : s.size ≤ 140737488355328) : PureFn Try.prog 8 [st s] [bo true] := by
  refine PureFn_of_Go Try.func8 rfl (by decide) mo (by decide +kernel) ?_
  by_cases c0 : (1048576 : Int) < (s.size : Int)
  · simp only [Try.ntmps8, Try.results8, push_cast, fr, Nat.reduceAdd, Nat.reduceSub, Nat.reduceMul, Nat.reduceLeDiff, Nat.reduceEqDiff, Nat.reduceLT, Nat.zero_lt_one, Nat.zero_add, if_false, if_true, ne_eq, not_true_eq_false, not_false_eq_true, decide_false, decide_true, Bool.not_true, Bool.not_false, Int.natCast_nonneg, Int.toNat_natCast, and_self, true_and, and_true, Int.reduceLT, Int.reduceLE, Int.reduceEq, Int.reduceNeg, Int.reduceToNat, resOk, or_true, true_or, c0]
  have hlen : (unfT s).length ≤ 20000 := by have := frs_len s; simp only [unfT, frTs, List.length_map]; exact this
  have k1 := unframeS_ok s hs
  have k2 := unframeI_ok s hs
  have k3 := eqStringS_ok (unfT s) (by omega)
  have l1 := strs_length (unfT s)
  obtain ⟨n, hn⟩ : ∃ n, n = (unfT s).length := ⟨_, rfl⟩
  obtain ⟨e, he⟩ : ∃ e, e = 1 + n := ⟨_, rfl⟩
  have k4 := markStringS_ok (unfT s) (by omega) 1 (by decide) (by decide) e (by rw [he, hn])
  have k5 := heldStringS_ok 1 n (by omega) (by decide) (by decide) e he
  rw [← hn] at k4 l1
  have tk : (vR (marks 1 n)).take n = vR (marks 1 n) := List.take_of_length_le (by rw [vR_length, marks_length]; exact Nat.le_refl _)
  have ts : (vR (strs (unfT s))).take n = vR (strs (unfT s)) := List.take_of_length_le (by rw [vR_length, l1]; exact Nat.le_refl _)
  have c5 : ¬ (e : Int) < 0 := by omega
  generalize unfE s = E at k1 k2
  simp only [Try.ntmps8, Try.results8, push_cast, fr, Nat.reduceAdd, Nat.reduceSub, Nat.reduceMul, Nat.reduceLeDiff, Nat.reduceEqDiff, Nat.reduceLT, Nat.zero_lt_one, Nat.zero_add, if_false, if_true, ne_eq, not_true_eq_false, not_false_eq_true, decide_false, decide_true, Bool.not_true, Bool.not_false, Int.natCast_nonneg, Int.toNat_natCast, and_self, true_and, and_true, Int.reduceLT, Int.reduceLE, Int.reduceEq, Int.reduceNeg, Int.reduceToNat, resOk, or_true, true_or, c0]
  refine GoL_call rfl rfl k1 (by simp only [push_cast, fr, Nat.reduceAdd, Nat.reduceSub, Nat.reduceMul, Nat.reduceLeDiff, Nat.reduceEqDiff, Nat.reduceLT, Nat.zero_lt_one, Nat.zero_add, if_false, if_true, ne_eq, not_true_eq_false, not_false_eq_true, decide_false, decide_true, Bool.not_true, Bool.not_false, Int.natCast_nonneg, Int.toNat_natCast, and_self, true_and, and_true, Int.reduceLT, Int.reduceLE, Int.reduceEq, Int.reduceNeg, Int.reduceToNat, resOk, or_true, true_or]) rfl ?_
  simp only [Try.ntmps8, Try.results8, push_cast, fr, Nat.reduceAdd, Nat.reduceSub, Nat.reduceMul, Nat.reduceLeDiff, Nat.reduceEqDiff, Nat.reduceLT, Nat.zero_lt_one, Nat.zero_add, if_false, if_true, ne_eq, not_true_eq_false, not_false_eq_true, decide_false, decide_true, Bool.not_true, Bool.not_false, Int.natCast_nonneg, Int.toNat_natCast, and_self, true_and, and_true, Int.reduceLT, Int.reduceLE, Int.reduceEq, Int.reduceNeg, Int.reduceToNat, resOk, or_true, true_or]
  refine GoL_call rfl rfl k2 (by simp only [push_cast, fr, Nat.reduceAdd, Nat.reduceSub, Nat.reduceMul, Nat.reduceLeDiff, Nat.reduceEqDiff, Nat.reduceLT, Nat.zero_lt_one, Nat.zero_add, if_false, if_true, ne_eq, not_true_eq_false, not_false_eq_true, decide_false, decide_true, Bool.not_true, Bool.not_false, Int.natCast_nonneg, Int.toNat_natCast, and_self, true_and, and_true, Int.reduceLT, Int.reduceLE, Int.reduceEq, Int.reduceNeg, Int.reduceToNat, resOk, or_true, true_or]) rfl ?_
  simp only [Try.ntmps8, Try.results8, push_cast, fr, Nat.reduceAdd, Nat.reduceSub, Nat.reduceMul, Nat.reduceLeDiff, Nat.reduceEqDiff, Nat.reduceLT, Nat.zero_lt_one, Nat.zero_add, if_false, if_true, ne_eq, not_true_eq_false, not_false_eq_true, decide_false, decide_true, Bool.not_true, Bool.not_false, Int.natCast_nonneg, Int.toNat_natCast, and_self, true_and, and_true, Int.reduceLT, Int.reduceLE, Int.reduceEq, Int.reduceNeg, Int.reduceToNat, resOk, or_true, true_or, l1]
  refine GoL_call rfl (by simp only [push_cast, fr, Nat.reduceAdd, Nat.reduceSub, Nat.reduceMul, Nat.reduceLeDiff, Nat.reduceEqDiff, Nat.reduceLT, Nat.zero_lt_one, Nat.zero_add, if_false, if_true, ne_eq, not_true_eq_false, not_false_eq_true, decide_false, decide_true, Bool.not_true, Bool.not_false, Int.natCast_nonneg, Int.toNat_natCast, and_self, true_and, and_true, Int.reduceLT, Int.reduceLE, Int.reduceEq, Int.reduceNeg, Int.reduceToNat, resOk, or_true, true_or, ts]) k3 rfl rfl ?_
  simp only [Try.ntmps8, Try.results8, push_cast, fr, Nat.reduceAdd, Nat.reduceSub, Nat.reduceMul, Nat.reduceLeDiff, Nat.reduceEqDiff, Nat.reduceLT, Nat.zero_lt_one, Nat.zero_add, if_false, if_true, ne_eq, not_true_eq_false, not_false_eq_true, decide_false, decide_true, Bool.not_true, Bool.not_false, Int.natCast_nonneg, Int.toNat_natCast, and_self, true_and, and_true, Int.reduceLT, Int.reduceLE, Int.reduceEq, Int.reduceNeg, Int.reduceToNat, resOk, or_true, true_or]
  refine GoL_io (0, 1344) .sl 1 (strs (unfT s)) rfl rfl (by rw [l1]; rfl) rfl (.inr rfl) rfl k4 rfl rfl ?_
  simp only [Try.ntmps8, Try.results8, push_cast, fr, Nat.reduceAdd, Nat.reduceSub, Nat.reduceMul, Nat.reduceLeDiff, Nat.reduceEqDiff, Nat.reduceLT, Nat.zero_lt_one, Nat.zero_add, if_false, if_true, ne_eq, not_true_eq_false, not_false_eq_true, decide_false, decide_true, Bool.not_true, Bool.not_false, Int.natCast_nonneg, Int.toNat_natCast, and_self, true_and, and_true, Int.reduceLT, Int.reduceLE, Int.reduceEq, Int.reduceNeg, Int.reduceToNat, resOk, or_true, true_or]
  refine GoL_call rfl (by simp only [push_cast, fr, Nat.reduceAdd, Nat.reduceSub, Nat.reduceMul, Nat.reduceLeDiff, Nat.reduceEqDiff, Nat.reduceLT, Nat.zero_lt_one, Nat.zero_add, if_false, if_true, ne_eq, not_true_eq_false, not_false_eq_true, decide_false, decide_true, Bool.not_true, Bool.not_false, Int.natCast_nonneg, Int.toNat_natCast, and_self, true_and, and_true, Int.reduceLT, Int.reduceLE, Int.reduceEq, Int.reduceNeg, Int.reduceToNat, resOk, or_true, true_or, tk]; rfl) k5 rfl rfl ?_
  simp only [Try.ntmps8, Try.results8, push_cast, fr, Nat.reduceAdd, Nat.reduceSub, Nat.reduceMul, Nat.reduceLeDiff, Nat.reduceEqDiff, Nat.reduceLT, Nat.zero_lt_one, Nat.zero_add, if_false, if_true, ne_eq, not_true_eq_false, not_false_eq_true, decide_false, decide_true, Bool.not_true, Bool.not_false, Int.natCast_nonneg, Int.toNat_natCast, and_self, true_and, and_true, Int.reduceLT, Int.reduceLE, Int.reduceEq, Int.reduceNeg, Int.reduceToNat, resOk, or_true, true_or, c5]
  refine GoL_call rfl rfl k2 (by simp only [push_cast, fr, Nat.reduceAdd, Nat.reduceSub, Nat.reduceMul, Nat.reduceLeDiff, Nat.reduceEqDiff, Nat.reduceLT, Nat.zero_lt_one, Nat.zero_add, if_false, if_true, ne_eq, not_true_eq_false, not_false_eq_true, decide_false, decide_true, Bool.not_true, Bool.not_false, Int.natCast_nonneg, Int.toNat_natCast, and_self, true_and, and_true, Int.reduceLT, Int.reduceLE, Int.reduceEq, Int.reduceNeg, Int.reduceToNat, resOk, or_true, true_or]) rfl ?_
  simp only [Try.ntmps8, Try.results8, push_cast, fr, Nat.reduceAdd, Nat.reduceSub, Nat.reduceMul, Nat.reduceLeDiff, Nat.reduceEqDiff, Nat.reduceLT, Nat.zero_lt_one, Nat.zero_add, if_false, if_true, ne_eq, not_true_eq_false, not_false_eq_true, decide_false, decide_true, Bool.not_true, Bool.not_false, Int.natCast_nonneg, Int.toNat_natCast, and_self, true_and, and_true, Int.reduceLT, Int.reduceLE, Int.reduceEq, Int.reduceNeg, Int.reduceToNat, resOk, or_true, true_or, l1]
  refine GoL_call rfl (by simp only [push_cast, fr, Nat.reduceAdd, Nat.reduceSub, Nat.reduceMul, Nat.reduceLeDiff, Nat.reduceEqDiff, Nat.reduceLT, Nat.zero_lt_one, Nat.zero_add, if_false, if_true, ne_eq, not_true_eq_false, not_false_eq_true, decide_false, decide_true, Bool.not_true, Bool.not_false, Int.natCast_nonneg, Int.toNat_natCast, and_self, true_and, and_true, Int.reduceLT, Int.reduceLE, Int.reduceEq, Int.reduceNeg, Int.reduceToNat, resOk, or_true, true_or, ts]) k3 rfl rfl ?_
  simp only [Try.ntmps8, Try.results8, push_cast, fr, Nat.reduceAdd, Nat.reduceSub, Nat.reduceMul, Nat.reduceLeDiff, Nat.reduceEqDiff, Nat.reduceLT, Nat.zero_lt_one, Nat.zero_add, if_false, if_true, ne_eq, not_true_eq_false, not_false_eq_true, decide_false, decide_true, Bool.not_true, Bool.not_false, Int.natCast_nonneg, Int.toNat_natCast, and_self, true_and, and_true, Int.reduceLT, Int.reduceLE, Int.reduceEq, Int.reduceNeg, Int.reduceToNat, resOk, or_true, true_or]
  refine GoL_call rfl (by simp only [push_cast, fr, Nat.reduceAdd, Nat.reduceSub, Nat.reduceMul, Nat.reduceLeDiff, Nat.reduceEqDiff, Nat.reduceLT, Nat.zero_lt_one, Nat.zero_add, if_false, if_true, ne_eq, not_true_eq_false, not_false_eq_true, decide_false, decide_true, Bool.not_true, Bool.not_false, Int.natCast_nonneg, Int.toNat_natCast, and_self, true_and, and_true, Int.reduceLT, Int.reduceLE, Int.reduceEq, Int.reduceNeg, Int.reduceToNat, resOk, or_true, true_or, tk]; rfl) k5 rfl rfl ?_
  simp only [Try.ntmps8, Try.results8, push_cast, fr, Nat.reduceAdd, Nat.reduceSub, Nat.reduceMul, Nat.reduceLeDiff, Nat.reduceEqDiff, Nat.reduceLT, Nat.zero_lt_one, Nat.zero_add, if_false, if_true, ne_eq, not_true_eq_false, not_false_eq_true, decide_false, decide_true, Bool.not_true, Bool.not_false, Int.natCast_nonneg, Int.toNat_natCast, and_self, true_and, and_true, Int.reduceLT, Int.reduceLE, Int.reduceEq, Int.reduceNeg, Int.reduceToNat, resOk, or_true, true_or, c5]
end Go.Proofs.Ytbnabpmfdnfigaa
