/- Lists of texts: equality, marks; frames. -/
import Derived.Test.YtbnabpmfdnfigaaW4
namespace Go.Proofs.Ytbnabpmfdnfigaa
open Go.RowKit Go.Rx
set_option linter.unusedSimpArgs false
set_option maxRecDepth 100000

def strs (xs : List ByteArray) : List (List Value) := xs.map fun x => [.string x]
def ints (xs : List Int) : List (List Value) := xs.map fun x => [.int .i64 x]
theorem strs_length (xs : List ByteArray) : (strs xs).length = xs.length := by simp [strs]
theorem ints_length (xs : List Int) : (ints xs).length = xs.length := by simp [ints]
theorem strs_getD (xs : List ByteArray) {i : Nat} (h : i < xs.length) : (strs xs).getD i [] = [.string (xs.getD i default)] := by
  simp [strs, List.getD_eq_getElem?_getD, List.getElem?_map, List.getElem?_eq_getElem h]
theorem ints_getD (xs : List Int) {i : Nat} (h : i < xs.length) : (ints xs).getD i [] = [.int .i64 (xs.getD i default)] := by
  simp [ints, List.getD_eq_getElem?_getD, List.getElem?_map, List.getElem?_eq_getElem h]
theorem wsucc {i n : Nat} (h : i < n) (hn : n ≤ 140737488355328) : IntKind.i64.wrap ((i : Int) + 1) = ((i + 1 : Nat) : Int) := by rw [IntKind.wrap_i64]; omega

theorem eqStringS_ok (xs : List ByteArray) (hx : xs.length ≤ 140737488355328) : PureFn Try.prog 33 [.one (.sh 1 (vR (strs xs))), .one (.sh 1 (vR (strs xs)))] [bo true] := by
  refine PureFn_of_Go Try.func33 rfl (by decide) mo (by decide +kernel) ?_
  simp only [Try.ntmps33, Try.results33, push_cast, fr, Nat.reduceAdd, Nat.reduceSub, Nat.reduceMul, Nat.reduceLeDiff, Nat.reduceEqDiff, Nat.reduceLT, Nat.zero_lt_one, Nat.zero_add, if_false, if_true, ne_eq, not_true_eq_false, not_false_eq_true, decide_false, decide_true, Bool.not_true, Bool.not_false, Int.natCast_nonneg, Int.toNat_natCast, and_self, true_and, and_true, Int.reduceLT, Int.reduceLE, Int.reduceEq, Int.reduceNeg, Int.reduceToNat, resOk, or_true, true_or, strs_length]
  refine Go_loop (α := {i : Nat // i ≤ xs.length})
    (fun i => ⟨tp 26 [(0, .x (.one (.sh 1 (vR (strs xs))))), (1, .x (.one (.sh 1 (vR (strs xs))))), (5, int i.1)], 0, [], []⟩) (fun i => xs.length - i.1) ⟨0, by omega⟩ ?_ ?_
  · exact Weak.same (by simp only [push_cast, fr, Nat.reduceAdd, Nat.reduceSub, Nat.reduceMul, Nat.reduceLeDiff, Nat.reduceEqDiff, Nat.reduceLT, Nat.zero_lt_one, Nat.zero_add, if_false, if_true, ne_eq, not_true_eq_false, not_false_eq_true, decide_false, decide_true, Bool.not_true, Bool.not_false, Int.natCast_nonneg, Int.toNat_natCast, and_self, true_and, and_true, Int.reduceLT, Int.reduceLE, Int.reduceEq, Int.reduceNeg, Int.reduceToNat, resOk, or_true, true_or, Int.ofNat_zero])
  · rintro ⟨i, hi⟩ X hX
    by_cases hlt : (i : Int) < (xs.length : Int)
    · have hi' : i < xs.length := by omega
      have ws := wsucc hi' hx
      have hg := strs_getD xs hi'
      obtain ⟨i', hi1⟩ : ∃ i', i' = i + 1 := ⟨_, rfl⟩
      rw [← hi1] at ws
      simp only [push_cast, fr, Nat.reduceAdd, Nat.reduceSub, Nat.reduceMul, Nat.reduceLeDiff, Nat.reduceEqDiff, Nat.reduceLT, Nat.zero_lt_one, Nat.zero_add, if_false, if_true, ne_eq, not_true_eq_false, not_false_eq_true, decide_false, decide_true, Bool.not_true, Bool.not_false, Int.natCast_nonneg, Int.toNat_natCast, and_self, true_and, and_true, Int.reduceLT, Int.reduceLE, Int.reduceEq, Int.reduceNeg, Int.reduceToNat, resOk, or_true, true_or, strs_length, hlt, hi', vR_getD, hg, ws]
      refine ⟨_, ?_, hX ⟨i', by omega⟩ (by simp only; omega)⟩
      exact Weak.same (by simp only [push_cast, fr, Nat.reduceAdd, Nat.reduceSub, Nat.reduceMul, Nat.reduceLeDiff, Nat.reduceEqDiff, Nat.reduceLT, Nat.zero_lt_one, Nat.zero_add, if_false, if_true, ne_eq, not_true_eq_false, not_false_eq_true, decide_false, decide_true, Bool.not_true, Bool.not_false, Int.natCast_nonneg, Int.toNat_natCast, and_self, true_and, and_true, Int.reduceLT, Int.reduceLE, Int.reduceEq, Int.reduceNeg, Int.reduceToNat, resOk, or_true, true_or])
    · simp only [Try.ntmps33, Try.results33, push_cast, fr, Nat.reduceAdd, Nat.reduceSub, Nat.reduceMul, Nat.reduceLeDiff, Nat.reduceEqDiff, Nat.reduceLT, Nat.zero_lt_one, Nat.zero_add, if_false, if_true, ne_eq, not_true_eq_false, not_false_eq_true, decide_false, decide_true, Bool.not_true, Bool.not_false, Int.natCast_nonneg, Int.toNat_natCast, and_self, true_and, and_true, Int.reduceLT, Int.reduceLE, Int.reduceEq, Int.reduceNeg, Int.reduceToNat, resOk, or_true, true_or, strs_length, hlt]

/-! ### marks -/
def digB (n : Nat) : ByteArray := if n = 0 then ⟨#[]⟩ else digB (n / 10) ++ ⟨[UInt8.ofNat (48 + n % 10)].toArray⟩
termination_by n
decreasing_by omega
theorem digB_zero : digB 0 = ⟨#[]⟩ := by rw [digB, if_pos rfl]
theorem digB_pos {n : Nat} (h : n ≠ 0) : digB n = digB (n / 10) ++ ⟨[UInt8.ofNat (48 + n % 10)].toArray⟩ := by rw [digB, if_neg h]
def mkB (k : Nat) : ByteArray := ⟨#[109]⟩ ++ digB k
theorem empty_append (b : ByteArray) : (⟨#[]⟩ : ByteArray) ++ b = b := bytes_ext (by simp [ByteArray.data_append])

theorem markText_ok (k : Nat) (hk : 0 < k) (hk2 : k ≤ 140737488355328) : PureFn Try.prog 59 [i64 k] [st (mkB k)] := by
  refine PureFn_of_Go Try.func59 rfl (by decide) mo (by decide +kernel) ?_
  have h0 : ¬ (k : Int) ≤ 0 := by omega
  simp only [Try.ntmps59, Try.results59, push_cast, fr, Nat.reduceAdd, Nat.reduceSub, Nat.reduceMul, Nat.reduceLeDiff, Nat.reduceEqDiff, Nat.reduceLT, Nat.zero_lt_one, Nat.zero_add, if_false, if_true, ne_eq, not_true_eq_false, not_false_eq_true, decide_false, decide_true, Bool.not_true, Bool.not_false, Int.natCast_nonneg, Int.toNat_natCast, and_self, true_and, and_true, Int.reduceLT, Int.reduceLE, Int.reduceEq, Int.reduceNeg, Int.reduceToNat, resOk, or_true, true_or, h0]
  refine Go_loop (α := {p : Nat × ByteArray // digB p.1 ++ p.2 = digB k ∧ p.1 + p.2.size ≤ k})
    (fun p => ⟨tp 20 [(0, int p.1.1), (3, .x (st p.1.2))], 0, [], []⟩) (fun p => p.1.1) ⟨(k, ⟨#[]⟩), bytes_ext (by simp [ByteArray.data_append]), by simp [ByteArray.size]⟩ ?_ ?_
  · exact Weak.same (by simp only [push_cast, fr, Nat.reduceAdd, Nat.reduceSub, Nat.reduceMul, Nat.reduceLeDiff, Nat.reduceEqDiff, Nat.reduceLT, Nat.zero_lt_one, Nat.zero_add, if_false, if_true, ne_eq, not_true_eq_false, not_false_eq_true, decide_false, decide_true, Bool.not_true, Bool.not_false, Int.natCast_nonneg, Int.toNat_natCast, and_self, true_and, and_true, Int.reduceLT, Int.reduceLE, Int.reduceEq, Int.reduceNeg, Int.reduceToNat, resOk, or_true, true_or])
  · rintro ⟨⟨m, out⟩, hp, hm⟩ X hX
    simp only at hp hm
    by_cases hlt : (0 : Int) < (m : Int)
    · have hrem := tmodN m 10
      rw [show ((10 : Nat) : Int) = 10 from rfl] at hrem
      obtain ⟨q, hq⟩ : ∃ q, q = m % 10 := ⟨_, rfl⟩
      rw [← hq] at hrem
      have hw1 : IntKind.i64.wrap (48 + (q : Int)) = ((48 + q : Nat) : Int) := wN (by omega) (by omega)
      have hw2 := wu8 (n := 48 + q)
      have hb : UInt8.ofNat (48 + q) = UInt8.ofNat (48 + m % 10) := by rw [hq]
      obtain ⟨z, hz⟩ : ∃ z, z = 48 + q := ⟨_, rfl⟩
      rw [← hz] at hw1 hw2 hb
      obtain ⟨c, hc⟩ : ∃ c, c = UInt8.ofNat z := ⟨_, rfl⟩
      rw [← hc] at hw2 hb
      have hdiv := tdivN m 10
      rw [show ((10 : Nat) : Int) = 10 from rfl] at hdiv
      have hw3 : IntKind.i64.wrap ((m : Int).tdiv 10) = ((m / 10 : Nat) : Int) := wN hdiv (by omega)
      obtain ⟨m', hm'⟩ : ∃ m', m' = m / 10 := ⟨_, rfl⟩
      rw [← hm'] at hw3
      have hf := str_natsOf [c]
      simp only [natsOf, List.map_cons, List.map_nil] at hf
      obtain ⟨cc, hcc⟩ : ∃ cc : ByteArray, cc = ⟨[c].toArray⟩ := ⟨_, rfl⟩
      rw [← hcc] at hf
      have hcs : cc.size = 1 := by rw [hcc]; rfl
      have hroom : cc.size + out.size ≤ 9223372036854775807 := by omega
      have hinv : digB m' ++ (cc ++ out) = digB k := by
        rw [← hp, digB_pos (n := m) (by omega), hm', hcc, hb, ByteArray.append_assoc]
      have hsz : m' + (cc ++ out).size ≤ k := by rw [ByteArray.size_append]; omega
      simp only [push_cast, fr, Nat.reduceAdd, Nat.reduceSub, Nat.reduceMul, Nat.reduceLeDiff, Nat.reduceEqDiff, Nat.reduceLT, Nat.zero_lt_one, Nat.zero_add, if_false, if_true, ne_eq, not_true_eq_false, not_false_eq_true, decide_false, decide_true, Bool.not_true, Bool.not_false, Int.natCast_nonneg, Int.toNat_natCast, and_self, true_and, and_true, Int.reduceLT, Int.reduceLE, Int.reduceEq, Int.reduceNeg, Int.reduceToNat, resOk, or_true, true_or, hlt, hrem, hw1, hw2, hw3, hf, hroom]
      refine ⟨_, ?_, hX ⟨(m', cc ++ out), hinv, hsz⟩ (by simp only; omega)⟩
      exact Weak.drop (by simp only [push_cast, fr, Nat.reduceAdd, Nat.reduceSub, Nat.reduceMul, Nat.reduceLeDiff, Nat.reduceEqDiff, Nat.reduceLT, Nat.zero_lt_one, Nat.zero_add, if_false, if_true, ne_eq, not_true_eq_false, not_false_eq_true, decide_false, decide_true, Bool.not_true, Bool.not_false, Int.natCast_nonneg, Int.toNat_natCast, and_self, true_and, and_true, Int.reduceLT, Int.reduceLE, Int.reduceEq, Int.reduceNeg, Int.reduceToNat, resOk, or_true, true_or]) (by simp only [push_cast, fr, Nat.reduceAdd, Nat.reduceSub, Nat.reduceMul, Nat.reduceLeDiff, Nat.reduceEqDiff, Nat.reduceLT, Nat.zero_lt_one, Nat.zero_add, if_false, if_true, ne_eq, not_true_eq_false, not_false_eq_true, decide_false, decide_true, Bool.not_true, Bool.not_false, Int.natCast_nonneg, Int.toNat_natCast, and_self, true_and, and_true, Int.reduceLT, Int.reduceLE, Int.reduceEq, Int.reduceNeg, Int.reduceToNat, resOk, or_true, true_or]) (by simp only [push_cast, fr, Nat.reduceAdd, Nat.reduceSub, Nat.reduceMul, Nat.reduceLeDiff, Nat.reduceEqDiff, Nat.reduceLT, Nat.zero_lt_one, Nat.zero_add, if_false, if_true, ne_eq, not_true_eq_false, not_false_eq_true, decide_false, decide_true, Bool.not_true, Bool.not_false, Int.natCast_nonneg, Int.toNat_natCast, and_self, true_and, and_true, Int.reduceLT, Int.reduceLE, Int.reduceEq, Int.reduceNeg, Int.reduceToNat, resOk, or_true, true_or])
    · have hm0 : m = 0 := by omega
      have hfin : (⟨#[109]⟩ : ByteArray) ++ out = mkB k := by
        rw [mkB, ← hp, hm0, digB_zero, empty_append]
      have hroom : (⟨#[109]⟩ : ByteArray).size + out.size ≤ 9223372036854775807 := by
        have : (⟨#[109]⟩ : ByteArray).size = 1 := rfl
        omega
      simp only [Try.ntmps59, Try.results59, push_cast, fr, Nat.reduceAdd, Nat.reduceSub, Nat.reduceMul, Nat.reduceLeDiff, Nat.reduceEqDiff, Nat.reduceLT, Nat.zero_lt_one, Nat.zero_add, if_false, if_true, ne_eq, not_true_eq_false, not_false_eq_true, decide_false, decide_true, Bool.not_true, Bool.not_false, Int.natCast_nonneg, Int.toNat_natCast, and_self, true_and, and_true, Int.reduceLT, Int.reduceLE, Int.reduceEq, Int.reduceNeg, Int.reduceToNat, resOk, or_true, true_or, hlt, hroom, hfin]

def marks (k n : Nat) : List (List Value) := (List.range n).map fun j => [.string (mkB (k + j))]
theorem marks_length (k n : Nat) : (marks k n).length = n := by simp [marks]
theorem marks_getD (k : Nat) {n i : Nat} (h : i < n) : (marks k n).getD i [] = [.string (mkB (k + i))] := by
  simp [marks, List.getD_eq_getElem?_getD, List.getElem?_map, h]
theorem markStringS_ok (xs : List ByteArray) (hx : xs.length ≤ 1073741824) (k : Nat) (hk : 0 < k) (hk2 : k ≤ 1073741824) (e : Nat) (he : e = k + xs.length) :
    IoFn Try.prog 34 .sl 1 (strs xs) [i64 k] (marks k xs.length) [i64 e] := by
  refine IoFn_of_Go Try.func34 rfl (by decide) mo (by decide +kernel) (ioOk_sl (fun x => [Value.string x]) (fun _ => rfl) xs) (ioOk_sl (fun j => [Value.string (mkB (k + j))]) (fun _ => rfl) (List.range xs.length)) rfl (by rw [marks_length, strs_length]) ?_
  have hm : marks k xs.length = mix (fun j => [.string (mkB (k + j))]) (strs xs) xs.length := by
    rw [← strs_length xs, mix_all]; rfl
  rw [hm]
  simp only [Try.ntmps34, Try.results34, push_cast, fr, Nat.reduceAdd, Nat.reduceSub, Nat.reduceMul, Nat.reduceLeDiff, Nat.reduceEqDiff, Nat.reduceLT, Nat.zero_lt_one, Nat.zero_add, if_false, if_true, ne_eq, not_true_eq_false, not_false_eq_true, decide_false, decide_true, Bool.not_true, Bool.not_false, Int.natCast_nonneg, Int.toNat_natCast, and_self, true_and, and_true, Int.reduceLT, Int.reduceLE, Int.reduceEq, Int.reduceNeg, Int.reduceToNat, resOk, or_true, true_or, strs_length]
  refine Go_loop (α := {i : Nat // i ≤ xs.length})
    (fun i => ⟨tp 20 [(0, .x (.one (.rs (0, 1) [] 1 0 xs.length))), (1, int (k + i.1 : Nat)), (5, int i.1)], 1, [], [((0, 1), ⟨.sl, 1, vR (mix (fun j => [.string (mkB (k + j))]) (strs xs) i.1)⟩)]⟩) (fun i => xs.length - i.1) ⟨0, by omega⟩ ?_ ?_
  · rw [mix_zero]
    exact Weak.same (by simp only [push_cast, fr, Nat.reduceAdd, Nat.reduceSub, Nat.reduceMul, Nat.reduceLeDiff, Nat.reduceEqDiff, Nat.reduceLT, Nat.zero_lt_one, Nat.zero_add, if_false, if_true, ne_eq, not_true_eq_false, not_false_eq_true, decide_false, decide_true, Bool.not_true, Bool.not_false, Int.natCast_nonneg, Int.toNat_natCast, and_self, true_and, and_true, Int.reduceLT, Int.reduceLE, Int.reduceEq, Int.reduceNeg, Int.reduceToNat, resOk, or_true, true_or, Int.ofNat_zero, Int.add_zero, Nat.add_zero])
  · rintro ⟨i, hi⟩ X hX
    obtain ⟨m, hmk⟩ : ∃ m, m = k + i := ⟨_, rfl⟩
    simp only
    rw [← hmk]
    by_cases hlt : (i : Int) < (xs.length : Int)
    · have hi' : i < xs.length := by omega
      have ws := wsucc hi' (by omega)
      have ws2 : IntKind.i64.wrap ((m : Int) + 1) = ((m + 1 : Nat) : Int) := wN (by omega) (by omega)
      obtain ⟨i', hi1⟩ : ∃ i', i' = i + 1 := ⟨_, rfl⟩
      obtain ⟨m', hm1⟩ : ∃ m', m' = m + 1 := ⟨_, rfl⟩
      rw [← hi1] at ws
      rw [← hm1] at ws2
      have his : i < (strs xs).length := by rw [strs_length]; exact hi'
      have hmix := mix_length (fun j => [Value.string (mkB (k + j))]) (strs xs) (Nat.le_of_lt his)
      rw [strs_length] at hmix
      have hg := vR_mix_getD (fun j => [.string (mkB (k + j))]) (strs xs) his
      rw [strs_getD xs hi'] at hg
      have hset := mix_set (fun j => [.string (mkB (k + j))]) (strs xs) his
      rw [← hi1, ← hmk] at hset
      simp only [List.map_cons, List.map_nil] at hg hset
      simp only [push_cast, fr, Nat.reduceAdd, Nat.reduceSub, Nat.reduceMul, Nat.reduceLeDiff, Nat.reduceEqDiff, Nat.reduceLT, Nat.zero_lt_one, Nat.zero_add, if_false, if_true, ne_eq, not_true_eq_false, not_false_eq_true, decide_false, decide_true, Bool.not_true, Bool.not_false, Int.natCast_nonneg, Int.toNat_natCast, and_self, true_and, and_true, Int.reduceLT, Int.reduceLE, Int.reduceEq, Int.reduceNeg, Int.reduceToNat, resOk, or_true, true_or, hlt]
      refine GoL_call rfl rfl (markText_ok m (by omega) (by omega)) rfl rfl ?_
      simp only [push_cast, fr, Nat.reduceAdd, Nat.reduceSub, Nat.reduceMul, Nat.reduceLeDiff, Nat.reduceEqDiff, Nat.reduceLT, Nat.zero_lt_one, Nat.zero_add, if_false, if_true, ne_eq, not_true_eq_false, not_false_eq_true, decide_false, decide_true, Bool.not_true, Bool.not_false, Int.natCast_nonneg, Int.toNat_natCast, and_self, true_and, and_true, Int.reduceLT, Int.reduceLE, Int.reduceEq, Int.reduceNeg, Int.reduceToNat, resOk, or_true, true_or, hlt, hi', hmix, hg, hset, ws, ws2]
      refine ⟨_, ?_, hX ⟨i', by omega⟩ (by simp only; omega)⟩
      have hmm : m' = k + i' := by omega
      simp only [← hmm]
      exact Weak.same (by simp only [push_cast, fr, Nat.reduceAdd, Nat.reduceSub, Nat.reduceMul, Nat.reduceLeDiff, Nat.reduceEqDiff, Nat.reduceLT, Nat.zero_lt_one, Nat.zero_add, if_false, if_true, ne_eq, not_true_eq_false, not_false_eq_true, decide_false, decide_true, Bool.not_true, Bool.not_false, Int.natCast_nonneg, Int.toNat_natCast, and_self, true_and, and_true, Int.reduceLT, Int.reduceLE, Int.reduceEq, Int.reduceNeg, Int.reduceToNat, resOk, or_true, true_or])
    · have hii : i = xs.length := by omega
      have hfin : e = m := by rw [he, hmk, hii]
      subst hfin
      simp only [hii] at hlt ⊢
      simp only [Try.ntmps34, Try.results34, push_cast, fr, Nat.reduceAdd, Nat.reduceSub, Nat.reduceMul, Nat.reduceLeDiff, Nat.reduceEqDiff, Nat.reduceLT, Nat.zero_lt_one, Nat.zero_add, if_false, if_true, ne_eq, not_true_eq_false, not_false_eq_true, decide_false, decide_true, Bool.not_true, Bool.not_false, Int.natCast_nonneg, Int.toNat_natCast, and_self, true_and, and_true, Int.reduceLT, Int.reduceLE, Int.reduceEq, Int.reduceNeg, Int.reduceToNat, resOk, or_true, true_or, hlt]
theorem heldStringS_ok (k n : Nat) (hn : n ≤ 1073741824) (hk : 0 < k) (hk2 : k ≤ 1073741824) (e : Nat) (he : e = k + n) :
    PureFn Try.prog 35 [.one (.sh 1 (vR (marks k n))), i64 k] [i64 e] := by
  refine PureFn_of_Go Try.func35 rfl (by decide) mo (by decide +kernel) ?_
  simp only [Try.ntmps35, Try.results35, push_cast, fr, Nat.reduceAdd, Nat.reduceSub, Nat.reduceMul, Nat.reduceLeDiff, Nat.reduceEqDiff, Nat.reduceLT, Nat.zero_lt_one, Nat.zero_add, if_false, if_true, ne_eq, not_true_eq_false, not_false_eq_true, decide_false, decide_true, Bool.not_true, Bool.not_false, Int.natCast_nonneg, Int.toNat_natCast, and_self, true_and, and_true, Int.reduceLT, Int.reduceLE, Int.reduceEq, Int.reduceNeg, Int.reduceToNat, resOk, or_true, true_or]
  refine Go_loop (α := {i : Nat // i ≤ n})
    (fun i => ⟨tp 22 [(0, .x (.one (.sh 1 (vR (marks k n))))), (1, int (k + i.1 : Nat)), (5, int i.1)], 0, [], []⟩) (fun i => n - i.1) ⟨0, by omega⟩ ?_ ?_
  · exact Weak.same (by simp only [push_cast, fr, Nat.reduceAdd, Nat.reduceSub, Nat.reduceMul, Nat.reduceLeDiff, Nat.reduceEqDiff, Nat.reduceLT, Nat.zero_lt_one, Nat.zero_add, if_false, if_true, ne_eq, not_true_eq_false, not_false_eq_true, decide_false, decide_true, Bool.not_true, Bool.not_false, Int.natCast_nonneg, Int.toNat_natCast, and_self, true_and, and_true, Int.reduceLT, Int.reduceLE, Int.reduceEq, Int.reduceNeg, Int.reduceToNat, resOk, or_true, true_or, Int.ofNat_zero, Int.add_zero, Nat.add_zero])
  · rintro ⟨i, hi⟩ X hX
    obtain ⟨m, hmk⟩ : ∃ m, m = k + i := ⟨_, rfl⟩
    simp only
    rw [← hmk]
    by_cases hlt : (i : Int) < (n : Int)
    · have hi' : i < n := by omega
      have ws := wsucc hi' (by omega)
      have ws2 : IntKind.i64.wrap ((m : Int) + 1) = ((m + 1 : Nat) : Int) := wN (by omega) (by omega)
      obtain ⟨i', hi1⟩ : ∃ i', i' = i + 1 := ⟨_, rfl⟩
      obtain ⟨m', hm1⟩ : ∃ m', m' = m + 1 := ⟨_, rfl⟩
      rw [← hi1] at ws
      rw [← hm1] at ws2
      have hg := marks_getD k hi'
      rw [← hmk] at hg
      simp only [push_cast, fr, Nat.reduceAdd, Nat.reduceSub, Nat.reduceMul, Nat.reduceLeDiff, Nat.reduceEqDiff, Nat.reduceLT, Nat.zero_lt_one, Nat.zero_add, if_false, if_true, ne_eq, not_true_eq_false, not_false_eq_true, decide_false, decide_true, Bool.not_true, Bool.not_false, Int.natCast_nonneg, Int.toNat_natCast, and_self, true_and, and_true, Int.reduceLT, Int.reduceLE, Int.reduceEq, Int.reduceNeg, Int.reduceToNat, resOk, or_true, true_or, marks_length, hlt, hi', vR_getD, hg]
      refine GoD_call rfl rfl (markText_ok m (by omega) (by omega)) rfl rfl ?_
      simp only [push_cast, fr, Nat.reduceAdd, Nat.reduceSub, Nat.reduceMul, Nat.reduceLeDiff, Nat.reduceEqDiff, Nat.reduceLT, Nat.zero_lt_one, Nat.zero_add, if_false, if_true, ne_eq, not_true_eq_false, not_false_eq_true, decide_false, decide_true, Bool.not_true, Bool.not_false, Int.natCast_nonneg, Int.toNat_natCast, and_self, true_and, and_true, Int.reduceLT, Int.reduceLE, Int.reduceEq, Int.reduceNeg, Int.reduceToNat, resOk, or_true, true_or, marks_length, hlt, hi', vR_getD, hg, ws, ws2]
      refine ⟨_, ?_, hX ⟨i', by omega⟩ (by simp only; omega)⟩
      have hmm : m' = k + i' := by omega
      simp only [← hmm]
      exact Weak.same (by simp only [push_cast, fr, Nat.reduceAdd, Nat.reduceSub, Nat.reduceMul, Nat.reduceLeDiff, Nat.reduceEqDiff, Nat.reduceLT, Nat.zero_lt_one, Nat.zero_add, if_false, if_true, ne_eq, not_true_eq_false, not_false_eq_true, decide_false, decide_true, Bool.not_true, Bool.not_false, Int.natCast_nonneg, Int.toNat_natCast, and_self, true_and, and_true, Int.reduceLT, Int.reduceLE, Int.reduceEq, Int.reduceNeg, Int.reduceToNat, resOk, or_true, true_or])
    · have hii : i = n := by omega
      have hfin : e = m := by rw [he, hmk, hii]
      subst hfin
      simp only [Try.ntmps35, Try.results35, push_cast, fr, Nat.reduceAdd, Nat.reduceSub, Nat.reduceMul, Nat.reduceLeDiff, Nat.reduceEqDiff, Nat.reduceLT, Nat.zero_lt_one, Nat.zero_add, if_false, if_true, ne_eq, not_true_eq_false, not_false_eq_true, decide_false, decide_true, Bool.not_true, Bool.not_false, Int.natCast_nonneg, Int.toNat_natCast, and_self, true_and, and_true, Int.reduceLT, Int.reduceLE, Int.reduceEq, Int.reduceNeg, Int.reduceToNat, resOk, or_true, true_or, marks_length, hlt]
end Go.Proofs.Ytbnabpmfdnfigaa
