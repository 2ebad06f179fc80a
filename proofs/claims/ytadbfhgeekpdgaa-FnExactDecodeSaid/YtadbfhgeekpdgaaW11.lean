/- ReadEntry: both ways come to the same. -/
import Derived.Test.YtadbfhgeekpdgaaW10
namespace Go.Proofs.Ytadbfhgeekpdgaa
open Go.RowKit Go.Rx
set_option linter.unusedSimpArgs false
set_option maxRecDepth 100000

theorem numB_false {s : ByteArray} {a : Nat} {b : Bool} (h : numB s a b = false) : b = false ∧ ∃ n x, rvO s a = some (n, x) ∧ numN s a b = n ∧ numA s a b = x := by
  cases b with
  | true => simp [numB] at h
  | false =>
    cases hr : rvO s a with
    | none => simp [numB, hr] at h
    | some p =>
      obtain ⟨n, x⟩ := p
      exact ⟨rfl, n, x, rfl, by simp [numN, hr], by simp [numA, hr]⟩
theorem takeB_false {s : ByteArray} {a n : Nat} {b : Bool} (h : takeB s a b n = false) : b = false ∧ a + n ≤ s.size ∧ takeA s a b n = a + n ∧ takeT s a b n = s.extract a (a + n) := by
  have ho : takeOk s a b n = true := by simpa [takeB] using h
  refine ⟨?_, ?_, by simp only [takeA, ho, if_true], by simp only [takeT, ho, if_true]⟩
  · simp [takeOk] at ho; exact ho.1
  · simp [takeOk] at ho; exact ho.2
theorem seg_append (s : ByteArray) (a i j : Nat) : seg s a (i + j) = seg s a i ++ seg s (a + i) j := by
  unfold seg
  rw [List.take_add, List.drop_drop]
theorem seg_len {s : ByteArray} {a k : Nat} (h : a + k ≤ s.size) : (seg s a k).length = k := by
  unfold seg
  have : s.data.toList.length = s.size := by rw [Array.length_toList]; rfl
  rw [List.length_take, List.length_drop, this]; omega
theorem seg_all (s : ByteArray) : seg s 0 s.size = s.data.toList := by
  unfold seg
  have : s.data.toList.length = s.size := by rw [Array.length_toList]; rfl
  rw [List.drop_zero, ← this, List.take_length]
theorem app_list (x y : ByteArray) : (x ++ y).data.toList = x.data.toList ++ y.data.toList := by rw [ByteArray.data_append, Array.toList_append]
theorem rvL_canon {s : ByteArray} {a m x : Nat} : ∀ (k i n u : Nat), u = 128 ^ i → n = val (seg s a i) → a + i ≤ s.size → (∀ q ∈ seg s a i, 128 ≤ q.toNat) → rvL s a k i n u = some (m, x) → varL m = seg s a (x - a)
  | 0, _, _, _, _, _, _, _, h => by cases h
  | k + 1, i, n, u, hu, hn, hi, hall, h => by
    by_cases h1 : a + i < s.size
    · have hsg := seg_succ h1
      have hl := seg_len hi
      have hval : n + (bu s (a + i)).toNat % 128 * u = val (seg s a (i + 1)) := by rw [hsg, val_snoc, ← hn, hl, ← hu]
      by_cases h2 : 128 ≤ (bu s (a + i)).toNat
      · rw [rvL_go h1 h2] at h
        refine rvL_canon k (i + 1) _ _ (by rw [Nat.pow_succ, hu]) hval (by omega) (fun q hq => ?_) h
        rw [hsg, List.mem_append] at hq
        rcases hq with hq | hq
        · exact hall q hq
        · rw [List.mem_singleton.1 hq]; exact h2
      · by_cases h3 : ((bu s (a + i)).toNat = 0 ∧ 0 < i) ∨ 1000000000 < n + (bu s (a + i)).toNat % 128 * u
        · rw [rvL_no h1 h2 h3] at h; cases h
        · rw [rvL_yes h1 h2 h3] at h
          obtain ⟨rfl, rfl⟩ := Prod.mk.inj (Option.some.inj h)
          have hcan := (canon (b := bu s (a + i)) hall (by omega)).2 (by rw [hl]; exact fun hc => h3 (.inl hc))
          rw [← hsg] at hcan
          rw [hval, hcan]
          congr 1; omega
    · rw [rvL_out h1] at h; cases h
theorem rvO_canon {s : ByteArray} {a n x : Nat} (h : rvO s a = some (n, x)) : varL n = seg s a (x - a) := by
  unfold rvO at h
  split at h
  · rename_i hc
    exact rvL_canon 5 0 0 1 rfl (by simp [seg, val]) (by omega) (by simp [seg]) h
  · cases h

/-! ### where the parts stand -/
def eA1 (s : ByteArray) : Nat := takeA s 0 false 1
def eB1 (s : ByteArray) : Bool := takeB s 0 false 1
def eN1 (s : ByteArray) : Nat := numN s (eA1 s) (eB1 s)
def eA2 (s : ByteArray) : Nat := numA s (eA1 s) (eB1 s)
def eB2 (s : ByteArray) : Bool := numB s (eA1 s) (eB1 s)
def eN2 (s : ByteArray) : Nat := numN s (eA2 s) (eB2 s)
def eA3 (s : ByteArray) : Nat := numA s (eA2 s) (eB2 s)
def eB3 (s : ByteArray) : Bool := numB s (eA2 s) (eB2 s)
def eK (s : ByteArray) : Nat := octN s (eA3 s) (eB3 s)
def eA4 (s : ByteArray) : Nat := takeA s (eA3 s) (eB3 s) 1
def eB4 (s : ByteArray) : Bool := takeB s (eA3 s) (eB3 s) 1
def eD (s : ByteArray) : ByteArray := s.extract (eA4 s) s.size
def eOk (s : ByteArray) : Bool := (!eB4 s && decide (takeT s 0 false 1 = ⟨#[69]⟩)) && (inR (eN1 s) 1 1000000 && eoB (eN2 s) (eK s) (eD s))
def eX (s : ByteArray) : List X := if eOk s then [i64 (eN1 s), .agg (entC (eN2 s) (eK s) (eD s)), bo true] else [i64 0, .agg (entC 0 0 ⟨#[]⟩), bo false]
theorem eX_true {s : ByteArray} (h : eOk s = true) : eX s = [i64 (eN1 s), .agg (entC (eN2 s) (eK s) (eD s)), bo true] := by simp only [eX, h, if_true]
theorem eX_false {s : ByteArray} (h : eOk s = false) : eX s = [i64 0, .agg (entC 0 0 ⟨#[]⟩), bo false] := by simp only [eX, h, Bool.false_eq_true, if_false]
theorem eA1_le (s : ByteArray) : eA1 s ≤ s.size := takeA_le (Nat.zero_le _)
theorem eA2_le (s : ByteArray) : eA2 s ≤ s.size := numA_le (eA1_le s)
theorem eA3_le (s : ByteArray) : eA3 s ≤ s.size := numA_le (eA2_le s)
theorem eA4_le (s : ByteArray) : eA4 s ≤ s.size := takeA_le (eA3_le s)
theorem e_iff {s : ByteArray} (h : eB4 s = false) : etB (eN1 s) (eN2 s) (eK s) (eD s) = s ↔ takeT s 0 false 1 = ⟨#[69]⟩ := by
  obtain ⟨h3, hs4, ha4, _⟩ := takeB_false h
  obtain ⟨h2, n2, x3, r2, e2, f2⟩ := numB_false h3
  obtain ⟨h1, n1, x2, r1, e1, f1⟩ := numB_false h2
  obtain ⟨_, hs1, ha1, ht1⟩ := takeB_false h1
  have hA1 : eA1 s = 1 := by rw [eA1, ha1]
  have hN1 : eN1 s = n1 := e1
  have hA2 : eA2 s = x2 := f1
  have hN2 : eN2 s = n2 := e2
  have hA3 : eA3 s = x3 := f2
  rw [hA1] at r1
  rw [hA2] at r2
  rw [hA3] at hs4
  have hA4 : eA4 s = x3 + 1 := by rw [eA4, ha4, hA3]
  have hK : eK s = (bu s x3).toNat := by
    have ho : takeOk s (eA3 s) (eB3 s) 1 = true := by simpa [eB4, takeB] using h
    rw [eK, octN, if_pos ho, hA3]
  have c1 := rvO_canon r1
  have c2 := rvO_canon r2
  obtain ⟨_, _, b1, b1'⟩ := rvO_bound r1
  obtain ⟨_, _, b2, b2'⟩ := rvO_bound r2
  have g3 : seg s x3 1 = [bu s x3] := by rw [show (1 : Nat) = 0 + 1 from rfl, seg_succ (by omega), seg_zero]; rfl
  have L : (etB (eN1 s) (eN2 s) (eK s) (eD s)).data.toList = [69] ++ (seg s 1 (x2 - 1) ++ (seg s x2 (x3 - x2) ++ (seg s x3 1 ++ seg s (x3 + 1) (s.size - (x3 + 1))))) := by
    unfold etB eD
    rw [app_list, app_list, app_list, app_list, varB_list, varB_list, hN1, hN2, c1, c2, hK, hA4, extract_list, g3]
    simp
  have R : s.data.toList = seg s 0 1 ++ (seg s 1 (x2 - 1) ++ (seg s x2 (x3 - x2) ++ (seg s x3 1 ++ seg s (x3 + 1) (s.size - (x3 + 1))))) := by
    rw [← seg_all s, show s.size = 1 + ((x2 - 1) + ((x3 - x2) + (1 + (s.size - (x3 + 1))))) by omega]
    rw [seg_append, show (0 : Nat) + 1 = 1 from rfl, seg_append, show 1 + (x2 - 1) = x2 by omega, seg_append, show x2 + (x3 - x2) = x3 by omega, seg_append]
    rw [show 1 + (x2 - 1 + (x3 - x2 + (1 + (s.size - (x3 + 1))))) - (x3 + 1) = s.size - (x3 + 1) by omega]
  have T : (takeT s 0 false 1).data.toList = seg s 0 1 := by rw [ht1, extract_list]
  constructor
  · intro hh
    refine bytes_ext ?_
    rw [T]
    have : (etB (eN1 s) (eN2 s) (eK s) (eD s)).data.toList = s.data.toList := by rw [hh]
    rw [L] at this
    conv at this => rhs; rw [R]
    exact (List.append_cancel_right this).symm
  · intro hh
    refine bytes_ext ?_
    rw [L]
    conv => rhs; rw [R]
    rw [← T, hh]

theorem readEntryI_ok (s : ByteArray) (hs : s.size ≤ 140737488355328) : PureFn Try.prog 10 [st s] (eX s) := by
  refine PureFn_of_Go Try.func10 rfl (by decide) mo (by decide +kernel) ?_
  have k1 := take_ok s hs 0 (Nat.zero_le _) false 1 (by omega)
  have k2 := number_ok s hs (eA1 s) (eB1 s)
  have k3 := number_ok s hs (eA2 s) (eB2 s)
  have k4 := octet_ok s hs (eA3 s) (eA3_le s) (eB3 s)
  have k5 := inRange_ok (eN1 s) 1 1000000
  have k6 := entryOkI_ok (eN2 s) (eK s) (eD s) (by unfold eD; exact Nat.le_trans (by rw [ByteArray.size_extract]; omega) hs)
  rw [show (decide ((1 : Int) ≤ (eN1 s : Int)) && decide ((eN1 s : Int) ≤ 1000000)) = inR (eN1 s) 1 1000000 from rfl] at k5
  simp only [entC] at k6
  have hle := eA4_le s
  simp only [Try.ntmps10, Try.results10, push_cast, Nat.reduceAdd, Nat.reduceSub, Nat.reduceMul, Nat.reduceLeDiff, Nat.reduceEqDiff, Nat.reduceLT, Int.reduceLT, Int.reduceLE, Int.reduceEq, Int.reduceNeg, Int.reduceToNat]
  refine GoL_io (0, 320) .box 3 [sc s 0 false] rfl rfl rfl rfl (.inl rfl) rfl k1 rfl rfl ?_
  rw [show takeA s 0 false 1 = eA1 s from rfl, show takeB s 0 false 1 = eB1 s from rfl]
  simp only [Try.ntmps10, Try.results10, push_cast, Nat.reduceAdd, Nat.reduceSub, Nat.reduceMul, Nat.reduceLeDiff, Nat.reduceEqDiff, Nat.reduceLT, Int.reduceLT, Int.reduceLE, Int.reduceEq, Int.reduceNeg, Int.reduceToNat, sc]
  refine GoL_io (0, 320) .box 3 [sc s (eA1 s) (eB1 s)] rfl rfl rfl rfl (.inl rfl) rfl k2 rfl rfl ?_
  rw [show numA s (eA1 s) (eB1 s) = eA2 s from rfl, show numB s (eA1 s) (eB1 s) = eB2 s from rfl, show numN s (eA1 s) (eB1 s) = eN1 s from rfl]
  simp only [Try.ntmps10, Try.results10, push_cast, Nat.reduceAdd, Nat.reduceSub, Nat.reduceMul, Nat.reduceLeDiff, Nat.reduceEqDiff, Nat.reduceLT, Int.reduceLT, Int.reduceLE, Int.reduceEq, Int.reduceNeg, Int.reduceToNat, sc]
  refine GoL_io (0, 320) .box 3 [sc s (eA2 s) (eB2 s)] rfl rfl rfl rfl (.inl rfl) rfl k3 rfl rfl ?_
  rw [show numA s (eA2 s) (eB2 s) = eA3 s from rfl, show numB s (eA2 s) (eB2 s) = eB3 s from rfl, show numN s (eA2 s) (eB2 s) = eN2 s from rfl]
  simp only [Try.ntmps10, Try.results10, push_cast, Nat.reduceAdd, Nat.reduceSub, Nat.reduceMul, Nat.reduceLeDiff, Nat.reduceEqDiff, Nat.reduceLT, Int.reduceLT, Int.reduceLE, Int.reduceEq, Int.reduceNeg, Int.reduceToNat, sc]
  refine GoL_io (0, 320) .box 3 [sc s (eA3 s) (eB3 s)] rfl rfl rfl rfl (.inl rfl) rfl k4 rfl rfl ?_
  rw [show takeA s (eA3 s) (eB3 s) 1 = eA4 s from rfl, show takeB s (eA3 s) (eB3 s) 1 = eB4 s from rfl, show octN s (eA3 s) (eB3 s) = eK s from rfl]
  cases c1 : eB4 s with
  | true =>
    rw [eX_false (by simp only [eOk, c1, Bool.not_true, Bool.false_and])]
    simp only [Try.ntmps10, Try.results10, push_cast, Nat.reduceAdd, Nat.reduceSub, Nat.reduceMul, Nat.reduceLeDiff, Nat.reduceEqDiff, Nat.reduceLT, Int.reduceLT, Int.reduceLE, Int.reduceEq, Int.reduceNeg, Int.reduceToNat, sc, entC]
  | false =>
    cases c2 : decide (takeT s 0 false 1 = ⟨#[69]⟩) with
    | false =>
      rw [eX_false (by simp only [eOk, c1, c2, Bool.and_false, Bool.false_and])]
      simp only [Try.ntmps10, Try.results10, push_cast, Nat.reduceAdd, Nat.reduceSub, Nat.reduceMul, Nat.reduceLeDiff, Nat.reduceEqDiff, Nat.reduceLT, Int.reduceLT, Int.reduceLE, Int.reduceEq, Int.reduceNeg, Int.reduceToNat, sc, entC, c2]
    | true =>
      have hc : eOk s = (inR (eN1 s) 1 1000000 && eoB (eN2 s) (eK s) (eD s)) := by simp only [eOk, c1, c2, Bool.not_false, Bool.true_and]
      have hd : s.extract (eA4 s) s.size = eD s := rfl
      simp only [Try.ntmps10, Try.results10, push_cast, Nat.reduceAdd, Nat.reduceSub, Nat.reduceMul, Nat.reduceLeDiff, Nat.reduceEqDiff, Nat.reduceLT, Int.reduceLT, Int.reduceLE, Int.reduceEq, Int.reduceNeg, Int.reduceToNat, sc, entC, c2, hle, hd, Nat.le_refl]
      refine GoL_call rfl rfl k5 rfl rfl ?_
      cases c3 : inR (eN1 s) 1 1000000 with
      | false =>
        rw [eX_false (by rw [hc, c3]; rfl)]
        simp only [Try.ntmps10, Try.results10, push_cast, Nat.reduceAdd, Nat.reduceSub, Nat.reduceMul, Nat.reduceLeDiff, Nat.reduceEqDiff, Nat.reduceLT, Int.reduceLT, Int.reduceLE, Int.reduceEq, Int.reduceNeg, Int.reduceToNat, entC]
      | true =>
        simp only [Try.ntmps10, Try.results10, push_cast, Nat.reduceAdd, Nat.reduceSub, Nat.reduceMul, Nat.reduceLeDiff, Nat.reduceEqDiff, Nat.reduceLT, Int.reduceLT, Int.reduceLE, Int.reduceEq, Int.reduceNeg, Int.reduceToNat, entC]
        refine GoL_call rfl rfl k6 rfl rfl ?_
        cases c4 : eoB (eN2 s) (eK s) (eD s) with
        | false =>
          rw [eX_false (by rw [hc, c3, c4]; rfl)]
          simp only [Try.ntmps10, Try.results10, push_cast, Nat.reduceAdd, Nat.reduceSub, Nat.reduceMul, Nat.reduceLeDiff, Nat.reduceEqDiff, Nat.reduceLT, Int.reduceLT, Int.reduceLE, Int.reduceEq, Int.reduceNeg, Int.reduceToNat, entC]
        | true =>
          rw [eX_true (by rw [hc, c3, c4]; rfl)]
          simp only [Try.ntmps10, Try.results10, push_cast, Nat.reduceAdd, Nat.reduceSub, Nat.reduceMul, Nat.reduceLeDiff, Nat.reduceEqDiff, Nat.reduceLT, Int.reduceLT, Int.reduceLE, Int.reduceEq, Int.reduceNeg, Int.reduceToNat, entC]
theorem readEntryS_ok (s : ByteArray) (hs : s.size ≤ 140737488355328) : PureFn Try.prog 9 [st s] (eX s) := by
  refine PureFn_of_Go Try.func9 rfl (by decide) mo (by decide +kernel) ?_
  have k1 := l05Take_ok s hs 0 (Nat.zero_le _) false 1 (by omega)
  have k2 := l05Var_ok s hs (eA1 s) (eA1_le s) (eB1 s)
  have k3 := l05Var_ok s hs (eA2 s) (eA2_le s) (eB2 s)
  have k4 := l05Take_ok s hs (eA3 s) (eA3_le s) (eB3 s) 1 (by omega)
  have k6 := entryTextS_ok (eN1 s) (eN2 s) (eK s) (numN_le s _ _) (numN_le s _ _) (eD s) (by unfold eD; exact Nat.le_trans (by rw [ByteArray.size_extract]; omega) hs)
  simp only [entC] at k6
  have hle := eA4_le s
  simp only [Try.ntmps9, Try.results9, push_cast, Nat.reduceAdd, Nat.reduceSub, Nat.reduceMul, Nat.reduceLeDiff, Nat.reduceEqDiff, Nat.reduceLT, Int.reduceLT, Int.reduceLE, Int.reduceEq, Int.reduceNeg, Int.reduceToNat]
  refine GoL_io (0, 832) .box 3 [sc s 0 false] rfl rfl rfl rfl (.inl rfl) rfl k1 rfl rfl ?_
  rw [show takeA s 0 false 1 = eA1 s from rfl, show takeB s 0 false 1 = eB1 s from rfl]
  simp only [Try.ntmps9, Try.results9, push_cast, Nat.reduceAdd, Nat.reduceSub, Nat.reduceMul, Nat.reduceLeDiff, Nat.reduceEqDiff, Nat.reduceLT, Int.reduceLT, Int.reduceLE, Int.reduceEq, Int.reduceNeg, Int.reduceToNat, sc]
  refine GoL_io (0, 832) .box 3 [sc s (eA1 s) (eB1 s)] rfl rfl rfl rfl (.inl rfl) rfl k2 rfl rfl ?_
  rw [show numA s (eA1 s) (eB1 s) = eA2 s from rfl, show numB s (eA1 s) (eB1 s) = eB2 s from rfl, show numN s (eA1 s) (eB1 s) = eN1 s from rfl]
  simp only [Try.ntmps9, Try.results9, push_cast, Nat.reduceAdd, Nat.reduceSub, Nat.reduceMul, Nat.reduceLeDiff, Nat.reduceEqDiff, Nat.reduceLT, Int.reduceLT, Int.reduceLE, Int.reduceEq, Int.reduceNeg, Int.reduceToNat, sc]
  refine GoL_io (0, 832) .box 3 [sc s (eA2 s) (eB2 s)] rfl rfl rfl rfl (.inl rfl) rfl k3 rfl rfl ?_
  rw [show numA s (eA2 s) (eB2 s) = eA3 s from rfl, show numB s (eA2 s) (eB2 s) = eB3 s from rfl, show numN s (eA2 s) (eB2 s) = eN2 s from rfl]
  simp only [Try.ntmps9, Try.results9, push_cast, Nat.reduceAdd, Nat.reduceSub, Nat.reduceMul, Nat.reduceLeDiff, Nat.reduceEqDiff, Nat.reduceLT, Int.reduceLT, Int.reduceLE, Int.reduceEq, Int.reduceNeg, Int.reduceToNat, sc]
  refine GoL_io (0, 832) .box 3 [sc s (eA3 s) (eB3 s)] rfl rfl rfl rfl (.inl rfl) rfl k4 rfl rfl ?_
  rw [show takeA s (eA3 s) (eB3 s) 1 = eA4 s from rfl, show takeB s (eA3 s) (eB3 s) 1 = eB4 s from rfl]
  cases c1 : eB4 s with
  | true =>
    rw [eX_false (by simp only [eOk, c1, Bool.not_true, Bool.false_and])]
    simp only [Try.ntmps9, Try.results9, push_cast, Nat.reduceAdd, Nat.reduceSub, Nat.reduceMul, Nat.reduceLeDiff, Nat.reduceEqDiff, Nat.reduceLT, Int.reduceLT, Int.reduceLE, Int.reduceEq, Int.reduceNeg, Int.reduceToNat, sc, entC]
  | false =>
    obtain ⟨_, hs4, _, ht4⟩ := takeB_false c1
    have hiff := e_iff c1
    have hone := extract_one hs4
    have hK : eK s = (bu s (eA3 s)).toNat := by
      have ho : takeOk s (eA3 s) (eB3 s) 1 = true := by simpa [eB4, takeB] using c1
      rw [eK, octN, if_pos ho]
    rw [ht4, hone]
    obtain ⟨t, htt⟩ : ∃ t : ByteArray, t = ⟨[bu s (eA3 s)].toArray⟩ := ⟨_, rfl⟩
    rw [← htt]
    have h0 : t[0]? = some (bu s (eA3 s)) := by rw [htt]; rfl
    have hw : IntKind.i64.wrap ((bu s (eA3 s)).toNat : Int) = (eK s : Int) := wN (by rw [hK]) (by have := u8_lt (bu s (eA3 s)); omega)
    have hix := index_str (P := Try.prog) (t := 9) t 0 .i64
    rw [show ((0 : Nat) : Int) = 0 from rfl, h0] at hix
    have hd : s.extract (eA4 s) s.size = eD s := rfl
    simp only [Try.ntmps9, Try.results9, push_cast, Nat.reduceAdd, Nat.reduceSub, Nat.reduceMul, Nat.reduceLeDiff, Nat.reduceEqDiff, Nat.reduceLT, Int.reduceLT, Int.reduceLE, Int.reduceEq, Int.reduceNeg, Int.reduceToNat, sc, entC, hle, hd, Nat.le_refl, hix, hw]
    cases c2 : etOk (eN1 s) (eN2 s) (eK s) (eD s) with
    | false =>
      simp only [etX, c2, Bool.false_eq_true, if_false] at k6
      have hno : eOk s = false := by
        simp only [eOk]; rw [show (inR (eN1 s : Int) 1 1000000 && eoB (eN2 s) (eK s) (eD s)) = false from by rw [Bool.and_comm]; exact c2, Bool.and_false]
      rw [eX_false hno]
      refine GoL_call rfl rfl k6 rfl rfl ?_
      simp only [Try.ntmps9, Try.results9, push_cast, Nat.reduceAdd, Nat.reduceSub, Nat.reduceMul, Nat.reduceLeDiff, Nat.reduceEqDiff, Nat.reduceLT, Int.reduceLT, Int.reduceLE, Int.reduceEq, Int.reduceNeg, Int.reduceToNat, entC]
    | true =>
      simp only [etX, c2, if_true] at k6
      have hc : eOk s = decide (takeT s 0 false 1 = ⟨#[69]⟩) := by
        simp only [eOk, c1, Bool.not_false, Bool.true_and]; rw [show (inR (eN1 s : Int) 1 1000000 && eoB (eN2 s) (eK s) (eD s)) = true from by rw [Bool.and_comm]; exact c2, Bool.and_true]
      refine GoL_call rfl rfl k6 rfl rfl ?_
      cases c3 : decide (etB (eN1 s) (eN2 s) (eK s) (eD s) = s) with
      | true =>
        rw [eX_true (by rw [hc]; exact decide_eq_true (hiff.1 (of_decide_eq_true c3)))]
        simp only [Try.ntmps9, Try.results9, push_cast, Nat.reduceAdd, Nat.reduceSub, Nat.reduceMul, Nat.reduceLeDiff, Nat.reduceEqDiff, Nat.reduceLT, Int.reduceLT, Int.reduceLE, Int.reduceEq, Int.reduceNeg, Int.reduceToNat, entC, c3]
      | false =>
        rw [eX_false (by rw [hc]; exact decide_eq_false fun h => of_decide_eq_false c3 (hiff.2 h))]
        simp only [Try.ntmps9, Try.results9, push_cast, Nat.reduceAdd, Nat.reduceSub, Nat.reduceMul, Nat.reduceLeDiff, Nat.reduceEqDiff, Nat.reduceLT, Int.reduceLT, Int.reduceLE, Int.reduceEq, Int.reduceNeg, Int.reduceToNat, entC, c3]
end Go.Proofs.Ytadbfhgeekpdgaa
