/- Lists of entries and of applied entries: equality, marks. -/
import Derived.Test.YtcdjpfikpliagaaV3
namespace Go.Proofs.Ytcdjpfikpliagaa
open Go.RowKit Go.Rx
set_option linter.unusedSimpArgs false
set_option maxRecDepth 100000

/-! ### marks -/
def digB (n : Nat) : ByteArray := if n = 0 then ⟨#[]⟩ else digB (n / 10) ++ ⟨[UInt8.ofNat (48 + n % 10)].toArray⟩
termination_by n
decreasing_by omega
theorem digB_zero : digB 0 = ⟨#[]⟩ := by rw [digB, if_pos rfl]
theorem digB_pos {n : Nat} (h : n ≠ 0) : digB n = digB (n / 10) ++ ⟨[UInt8.ofNat (48 + n % 10)].toArray⟩ := by rw [digB, if_neg h]
def mkB (k : Nat) : ByteArray := ⟨#[109]⟩ ++ digB k
theorem empty_append (b : ByteArray) : (⟨#[]⟩ : ByteArray) ++ b = b := bytes_ext (by simp [ByteArray.data_append])

theorem markText_ok (k : Nat) (hk : 0 < k) (hk2 : k ≤ 140737488355328) : PureFn Try.prog 30 [i64 k] [st (mkB k)] := by
  refine PureFn_of_Go Try.func30 rfl (by decide) mo (by decide +kernel) ?_
  have h0 : ¬ (k : Int) ≤ 0 := by omega
  simp only [Try.ntmps30, Try.results30, push_cast, Nat.reduceAdd, Nat.reduceSub, Nat.reduceMul, Nat.reduceLeDiff, Nat.reduceEqDiff, Nat.reduceLT, Int.reduceLT, Int.reduceLE, Int.reduceEq, Int.reduceNeg, Int.reduceToNat, h0]
  refine Go_loop (α := {p : Nat × ByteArray // digB p.1 ++ p.2 = digB k ∧ p.1 + p.2.size ≤ k})
    (fun p => ⟨tp 20 [(0, int p.1.1), (3, .x (st p.1.2))], 0, [], []⟩) (fun p => p.1.1) ⟨(k, ⟨#[]⟩), bytes_ext (by simp [ByteArray.data_append]), by simp [ByteArray.size]⟩ ?_ ?_
  · exact Weak.same (by simp only [push_cast, Nat.reduceAdd, Nat.reduceSub, Nat.reduceMul, Nat.reduceLeDiff, Nat.reduceEqDiff, Nat.reduceLT, Int.reduceLT, Int.reduceLE, Int.reduceEq, Int.reduceNeg, Int.reduceToNat])
  · rintro ⟨⟨m, out⟩, hp, hm⟩ X hX
    simp only at hp hm
    by_cases hlt : (0 : Int) < (m : Int)
    · have hrem := tmodN m 10
      rw [show ((10 : Nat) : Int) = 10 from rfl] at hrem
      obtain ⟨q, hq⟩ : ∃ q, q = m % 10 := ⟨_, rfl⟩
      rw [← hq] at hrem
      have hw1 : IntKind.i64.wrap (48 + (q : Int)) = ((48 + q : Nat) : Int) := wN (by omega) (by omega)
      have hw2 := wu8 (n := 48 + q)
      have hb : UInt8.ofNat (48 + q) = UInt8.ofNat (48 + m % 10) := by rw [hq]
      obtain ⟨z, hz⟩ : ∃ z, z = 48 + q := ⟨_, rfl⟩
      rw [← hz] at hw1 hw2 hb
      obtain ⟨c, hc⟩ : ∃ c, c = UInt8.ofNat z := ⟨_, rfl⟩
      rw [← hc] at hw2 hb
      have hdiv := tdivN m 10
      rw [show ((10 : Nat) : Int) = 10 from rfl] at hdiv
      have hw3 : IntKind.i64.wrap ((m : Int).tdiv 10) = ((m / 10 : Nat) : Int) := wN hdiv (by omega)
      obtain ⟨m', hm'⟩ : ∃ m', m' = m / 10 := ⟨_, rfl⟩
      rw [← hm'] at hw3
      have hf := str_natsOf [c]
      simp only [natsOf, List.map_cons, List.map_nil] at hf
      obtain ⟨cc, hcc⟩ : ∃ cc : ByteArray, cc = ⟨[c].toArray⟩ := ⟨_, rfl⟩
      rw [← hcc] at hf
      have hcs : cc.size = 1 := by rw [hcc]; rfl
      have hroom : cc.size + out.size ≤ 9223372036854775807 := by omega
      have hinv : digB m' ++ (cc ++ out) = digB k := by
        rw [← hp, digB_pos (n := m) (by omega), hm', hcc, hb, ByteArray.append_assoc]
      have hsz : m' + (cc ++ out).size ≤ k := by rw [ByteArray.size_append]; omega
      simp only [push_cast, Nat.reduceAdd, Nat.reduceSub, Nat.reduceMul, Nat.reduceLeDiff, Nat.reduceEqDiff, Nat.reduceLT, Int.reduceLT, Int.reduceLE, Int.reduceEq, Int.reduceNeg, Int.reduceToNat, hlt, hrem, hw1, hw2, hw3, hf, hroom]
      refine ⟨_, ?_, hX ⟨(m', cc ++ out), hinv, hsz⟩ (by simp only; omega)⟩
      exact Weak.drop (by simp only [push_cast, Nat.reduceAdd, Nat.reduceSub, Nat.reduceMul, Nat.reduceLeDiff, Nat.reduceEqDiff, Nat.reduceLT, Int.reduceLT, Int.reduceLE, Int.reduceEq, Int.reduceNeg, Int.reduceToNat]) (by simp only [push_cast, Nat.reduceAdd, Nat.reduceSub, Nat.reduceMul, Nat.reduceLeDiff, Nat.reduceEqDiff, Nat.reduceLT, Int.reduceLT, Int.reduceLE, Int.reduceEq, Int.reduceNeg, Int.reduceToNat]) (by simp only [push_cast, Nat.reduceAdd, Nat.reduceSub, Nat.reduceMul, Nat.reduceLeDiff, Nat.reduceEqDiff, Nat.reduceLT, Int.reduceLT, Int.reduceLE, Int.reduceEq, Int.reduceNeg, Int.reduceToNat])
    · have hm0 : m = 0 := by omega
      have hfin : (⟨#[109]⟩ : ByteArray) ++ out = mkB k := by
        rw [mkB, ← hp, hm0, digB_zero, empty_append]
      have hroom : (⟨#[109]⟩ : ByteArray).size + out.size ≤ 9223372036854775807 := by
        have : (⟨#[109]⟩ : ByteArray).size = 1 := rfl
        omega
      simp only [Try.ntmps30, Try.results30, push_cast, Nat.reduceAdd, Nat.reduceSub, Nat.reduceMul, Nat.reduceLeDiff, Nat.reduceEqDiff, Nat.reduceLT, Int.reduceLT, Int.reduceLE, Int.reduceEq, Int.reduceNeg, Int.reduceToNat, hlt, hroom, hfin]


def ents (l : List Ent) : List (List Value) := l.map entV
theorem ents_length (l : List Ent) : (ents l).length = l.length := by simp [ents]
theorem ents_getD (l : List Ent) {i : Nat} (h : i < l.length) : (ents l).getD i [] = entV (l.getD i default) := by
  simp [ents, List.getD_eq_getElem?_getD, List.getElem?_map, List.getElem?_eq_getElem h]
theorem ents_take (l : List Ent) : List.take l.length (vR (ents l)) = vR (ents l) := List.take_of_length_le (by rw [vR_length, ents_length]; exact Nat.le_refl _)
theorem eqEntryS_ok (l : List Ent) (hl : l.length ≤ 1048576) : PureFn Try.prog 18 [.one (.sh 3 (vR (ents l))), .one (.sh 3 (vR (ents l)))] [bo true] := by
  refine PureFn_of_Go Try.func18 rfl (by decide) mo (by decide +kernel) ?_
  simp only [Try.ntmps18, Try.results18, push_cast, Nat.reduceAdd, Nat.reduceSub, Nat.reduceMul, Nat.reduceLeDiff, Nat.reduceEqDiff, Nat.reduceLT, Int.reduceLT, Int.reduceLE, Int.reduceEq, Int.reduceNeg, Int.reduceToNat, ents_length]
  refine Go_loop (α := {i : Nat // i ≤ l.length})
    (fun i => ⟨tp 27 [(0, .x (.one (.sh 3 (vR (ents l))))), (1, .x (.one (.sh 3 (vR (ents l))))), (5, int i.1)], 0, [], []⟩) (fun i => l.length - i.1) ⟨0, by omega⟩ ?_ ?_
  · exact Weak.same (by simp only [push_cast, Nat.reduceAdd, Nat.reduceSub, Nat.reduceMul, Nat.reduceLeDiff, Nat.reduceEqDiff, Nat.reduceLT, Int.reduceLT, Int.reduceLE, Int.reduceEq, Int.reduceNeg, Int.reduceToNat, Int.ofNat_zero])
  · rintro ⟨i, hi⟩ X hX
    by_cases hlt : (i : Int) < (l.length : Int)
    · have hi' : i < l.length := by omega
      have ws := wsucc hi' (by omega)
      have hg := ents_getD l hi'
      obtain ⟨e, he⟩ : ∃ e, e = l.getD i default := ⟨_, rfl⟩
      rw [← he] at hg
      have k := eqEntry_ok e
      simp only [entC] at k
      obtain ⟨i', hi1⟩ : ∃ i', i' = i + 1 := ⟨_, rfl⟩
      rw [← hi1] at ws
      simp only [push_cast, Nat.reduceAdd, Nat.reduceSub, Nat.reduceMul, Nat.reduceLeDiff, Nat.reduceEqDiff, Nat.reduceLT, Int.reduceLT, Int.reduceLE, Int.reduceEq, Int.reduceNeg, Int.reduceToNat, ents_length, hlt, hi', hg, entV, vR_getD]
      refine GoD_call rfl rfl k rfl rfl ?_
      simp only [push_cast, Nat.reduceAdd, Nat.reduceSub, Nat.reduceMul, Nat.reduceLeDiff, Nat.reduceEqDiff, Nat.reduceLT, Int.reduceLT, Int.reduceLE, Int.reduceEq, Int.reduceNeg, Int.reduceToNat, ws]
      refine ⟨_, ?_, hX ⟨i', by omega⟩ (by simp only; omega)⟩
      exact Weak.same (by simp only [push_cast, Nat.reduceAdd, Nat.reduceSub, Nat.reduceMul, Nat.reduceLeDiff, Nat.reduceEqDiff, Nat.reduceLT, Int.reduceLT, Int.reduceLE, Int.reduceEq, Int.reduceNeg, Int.reduceToNat])
    · simp only [Try.ntmps18, Try.results18, push_cast, Nat.reduceAdd, Nat.reduceSub, Nat.reduceMul, Nat.reduceLeDiff, Nat.reduceEqDiff, Nat.reduceLT, Int.reduceLT, Int.reduceLE, Int.reduceEq, Int.reduceNeg, Int.reduceToNat, ents_length, hlt]
def marksE (k n : Nat) : List Ent := (List.range n).map fun j => ⟨((k + 3 * j : Nat) : Int), ((k + 3 * j + 1 : Nat) : Int), mkB (k + 3 * j + 2)⟩
theorem marksE_length (k n : Nat) : (marksE k n).length = n := by simp [marksE]
theorem marksE_getD (k : Nat) {n i : Nat} (h : i < n) : (marksE k n).getD i default = ⟨((k + 3 * i : Nat) : Int), ((k + 3 * i + 1 : Nat) : Int), mkB (k + 3 * i + 2)⟩ := by
  simp [marksE, List.getD_eq_getElem?_getD, List.getElem?_map, h]
def marksF (k j : Nat) : List Value := [.int .i64 ((k + 3 * j : Nat) : Int), .int .i64 ((k + 3 * j + 1 : Nat) : Int), .string (mkB (k + 3 * j + 2))]
theorem marksF_all (k : Nat) (l : List Ent) : ents (marksE k l.length) = mix (marksF k) (ents l) l.length := by
  have := mix_all (marksF k) (ents l)
  rw [ents_length] at this
  rw [this, ents, marksE, List.map_map]; rfl
theorem row_set_get {R : List (List C)} {i : Nat} (h : i < R.length) (x : List C) : (R.set i x).getD i [] = x := by
  rw [List.getD_eq_getElem?_getD, List.getElem?_set_self h]; rfl
theorem markEntryS_ok (l : List Ent) (hl : l.length ≤ 1048576) (k : Nat) (hk : 0 < k) (hk2 : k ≤ 1073741824) (e : Nat) (he : e = k + 3 * l.length) :
    IoFn Try.prog 20 .sl 3 (ents l) [i64 k] (ents (marksE k l.length)) [i64 e] := by
  have hlen : (ents (marksE k l.length)).length = (ents l).length := by rw [ents_length, ents_length, marksE_length]
  refine IoFn_of_Go Try.func20 rfl (by decide) mo (by decide +kernel) (ioOk_sl entV (fun _ => rfl) l) (ioOk_sl entV (fun _ => rfl) (marksE k l.length)) rfl hlen ?_
  rw [marksF_all]
  simp only [Try.ntmps20, Try.results20, push_cast, Nat.reduceAdd, Nat.reduceSub, Nat.reduceMul, Nat.reduceLeDiff, Nat.reduceEqDiff, Nat.reduceLT, Int.reduceLT, Int.reduceLE, Int.reduceEq, Int.reduceNeg, Int.reduceToNat, ents_length]
  refine Go_loop (α := {i : Nat // i ≤ l.length})
    (fun i => ⟨tp 35 [(0, .x (.one (.rs (0, 1) [] 3 0 l.length))), (1, int (k + 3 * i.1 : Nat)), (5, int i.1)], 1, [], [((0, 1), ⟨.sl, 3, vR (mix (marksF k) (ents l) i.1)⟩)]⟩) (fun i => l.length - i.1) ⟨0, by omega⟩ ?_ ?_
  · rw [mix_zero]
    exact Weak.same (by simp only [push_cast, Nat.reduceAdd, Nat.reduceSub, Nat.reduceMul, Nat.reduceLeDiff, Nat.reduceEqDiff, Nat.reduceLT, Int.reduceLT, Int.reduceLE, Int.reduceEq, Int.reduceNeg, Int.reduceToNat, Int.ofNat_zero, Int.add_zero, Nat.add_zero, Nat.mul_zero])
  · rintro ⟨i, hi⟩ X hX
    obtain ⟨m, hmk⟩ : ∃ m, m = k + 3 * i := ⟨_, rfl⟩
    simp only
    rw [← hmk]
    by_cases hlt : (i : Int) < (l.length : Int)
    · have hi' : i < l.length := by omega
      have ws := wsucc hi' (by omega)
      have w1 : IntKind.i64.wrap ((m : Int) + 1) = ((m + 1 : Nat) : Int) := wN (by omega) (by omega)
      have his : i < (ents l).length := by rw [ents_length]; exact hi'
      have hmix := mix_length (marksF k) (ents l) (Nat.le_of_lt his)
      rw [ents_length] at hmix
      have hg := vR_mix_getD (marksF k) (ents l) his
      rw [ents_getD l hi'] at hg
      have hset := mix_set (marksF k) (ents l) his
      simp only [marksF] at hset
      rw [← hmk] at hset
      obtain ⟨i', hi1⟩ : ∃ i', i' = i + 1 := ⟨_, rfl⟩
      obtain ⟨m1, hm1⟩ : ∃ m1, m1 = m + 1 := ⟨_, rfl⟩
      have w2 : IntKind.i64.wrap ((m1 : Int) + 1) = ((m + 2 : Nat) : Int) := wN (by omega) (by omega)
      obtain ⟨m2, hm2⟩ : ∃ m2, m2 = m + 2 := ⟨_, rfl⟩
      have w3 : IntKind.i64.wrap ((m2 : Int) + 1) = ((m + 3 : Nat) : Int) := wN (by omega) (by omega)
      obtain ⟨m3, hm3⟩ : ∃ m3, m3 = m + 3 := ⟨_, rfl⟩
      rw [← hi1] at ws hset
      rw [← hm1] at w1 hset
      rw [← hm2] at w2 hset
      rw [← hm3] at w3
      simp only [List.map_cons, List.map_nil] at hset
      obtain ⟨⟨t0, k0, d0⟩, he0⟩ : ∃ x, x = l.getD i default := ⟨_, rfl⟩
      rw [← he0] at hg
      simp only [entV, List.map_cons, List.map_nil] at hg
      have km := markText_ok m2 (by omega) (by omega)
      obtain ⟨M, hM⟩ : ∃ M, M = mkB m2 := ⟨_, rfl⟩
      rw [← hM] at km hset
      obtain ⟨R, hR⟩ : ∃ R, R = vR (mix (marksF k) (ents l) i) := ⟨_, rfl⟩
      obtain ⟨R', hR'⟩ : ∃ R', R' = vR (mix (marksF k) (ents l) i') := ⟨_, rfl⟩
      have hRl : R.length = l.length := by rw [hR, vR_length, hmix]
      rw [← hR] at hg hset
      rw [← hR'] at hset
      have hiR : i < R.length := by omega
      have g2 := row_set_get hiR [C.v (.int .i64 m), .v (.int .i64 k0), .v (.string d0)]
      have g3 := row_set_get hiR [C.v (.int .i64 m), .v (.int .i64 m1), .v (.string d0)]
      simp only [← hR]
      simp only [push_cast, Nat.reduceAdd, Nat.reduceSub, Nat.reduceMul, Nat.reduceLeDiff, Nat.reduceEqDiff, Nat.reduceLT, Int.reduceLT, Int.reduceLE, Int.reduceEq, Int.reduceNeg, Int.reduceToNat, hlt, hi', hRl, hg, g2, g3, List.set_set, List.length_set, w1, w2]
      refine GoL_call rfl rfl km rfl rfl ?_
      simp only [push_cast, Nat.reduceAdd, Nat.reduceSub, Nat.reduceMul, Nat.reduceLeDiff, Nat.reduceEqDiff, Nat.reduceLT, Int.reduceLT, Int.reduceLE, Int.reduceEq, Int.reduceNeg, Int.reduceToNat, hlt, hi', hRl, hg, g2, g3, List.set_set, List.length_set, hset, w3, ws]
      refine ⟨_, ?_, hX ⟨i', by omega⟩ (by simp only; omega)⟩
      have hmm : m3 = k + 3 * i' := by omega
      simp only [← hmm, ← hR']
      exact Weak.same (by simp only [push_cast, Nat.reduceAdd, Nat.reduceSub, Nat.reduceMul, Nat.reduceLeDiff, Nat.reduceEqDiff, Nat.reduceLT, Int.reduceLT, Int.reduceLE, Int.reduceEq, Int.reduceNeg, Int.reduceToNat])
    · have hii : i = l.length := by omega
      have hfin : e = m := by rw [he, hmk, hii]
      subst hfin
      simp only [hii] at hlt ⊢
      simp only [Try.ntmps20, Try.results20, push_cast, Nat.reduceAdd, Nat.reduceSub, Nat.reduceMul, Nat.reduceLeDiff, Nat.reduceEqDiff, Nat.reduceLT, Int.reduceLT, Int.reduceLE, Int.reduceEq, Int.reduceNeg, Int.reduceToNat, hlt]
theorem heldEntryS_ok (k n : Nat) (hn : n ≤ 1048576) (hk : 0 < k) (hk2 : k ≤ 1073741824) (e : Nat) (he : e = k + 3 * n) :
    PureFn Try.prog 21 [.one (.sh 3 (vR (ents (marksE k n)))), i64 k] [i64 e] := by
  refine PureFn_of_Go Try.func21 rfl (by decide) mo (by decide +kernel) ?_
  simp only [Try.ntmps21, Try.results21, push_cast, Nat.reduceAdd, Nat.reduceSub, Nat.reduceMul, Nat.reduceLeDiff, Nat.reduceEqDiff, Nat.reduceLT, Int.reduceLT, Int.reduceLE, Int.reduceEq, Int.reduceNeg, Int.reduceToNat, ents_length, marksE_length]
  refine Go_loop (α := {i : Nat // i ≤ n})
    (fun i => ⟨tp 41 [(0, .x (.one (.sh 3 (vR (ents (marksE k n)))))), (1, int (k + 3 * i.1 : Nat)), (5, int i.1)], 0, [], []⟩) (fun i => n - i.1) ⟨0, by omega⟩ ?_ ?_
  · exact Weak.same (by simp only [push_cast, Nat.reduceAdd, Nat.reduceSub, Nat.reduceMul, Nat.reduceLeDiff, Nat.reduceEqDiff, Nat.reduceLT, Int.reduceLT, Int.reduceLE, Int.reduceEq, Int.reduceNeg, Int.reduceToNat, Int.ofNat_zero, Int.add_zero, Nat.add_zero, Nat.mul_zero])
  · rintro ⟨i, hi⟩ X hX
    obtain ⟨m, hmk⟩ : ∃ m, m = k + 3 * i := ⟨_, rfl⟩
    simp only
    rw [← hmk]
    by_cases hlt : (i : Int) < (n : Int)
    · have hi' : i < n := by omega
      have ws := wsucc hi' (by omega)
      have w1 : IntKind.i64.wrap ((m : Int) + 1) = ((m + 1 : Nat) : Int) := wN (by omega) (by omega)
      have hg := ents_getD (marksE k n) (i := i) (by rw [marksE_length]; exact hi')
      rw [marksE_getD k hi', ← hmk] at hg
      simp only [entV] at hg
      obtain ⟨i', hi1⟩ : ∃ i', i' = i + 1 := ⟨_, rfl⟩
      obtain ⟨m1, hm1⟩ : ∃ m1, m1 = m + 1 := ⟨_, rfl⟩
      have w2 : IntKind.i64.wrap ((m1 : Int) + 1) = ((m + 2 : Nat) : Int) := wN (by omega) (by omega)
      obtain ⟨m2, hm2⟩ : ∃ m2, m2 = m + 2 := ⟨_, rfl⟩
      have w3 : IntKind.i64.wrap ((m2 : Int) + 1) = ((m + 3 : Nat) : Int) := wN (by omega) (by omega)
      obtain ⟨m3, hm3⟩ : ∃ m3, m3 = m + 3 := ⟨_, rfl⟩
      rw [← hi1] at ws
      rw [← hm1] at w1 hg
      rw [← hm2] at w2 hg
      rw [← hm3] at w3
      simp only [push_cast, Nat.reduceAdd, Nat.reduceSub, Nat.reduceMul, Nat.reduceLeDiff, Nat.reduceEqDiff, Nat.reduceLT, Int.reduceLT, Int.reduceLE, Int.reduceEq, Int.reduceNeg, Int.reduceToNat, ents_length, marksE_length, hlt, hi', vR_getD, hg, w1, w2]
      refine GoD_call rfl rfl (markText_ok m2 (by omega) (by omega)) rfl rfl ?_
      simp only [push_cast, Nat.reduceAdd, Nat.reduceSub, Nat.reduceMul, Nat.reduceLeDiff, Nat.reduceEqDiff, Nat.reduceLT, Int.reduceLT, Int.reduceLE, Int.reduceEq, Int.reduceNeg, Int.reduceToNat, ents_length, marksE_length, hlt, hi', vR_getD, hg, w3, ws]
      refine ⟨_, ?_, hX ⟨i', by omega⟩ (by simp only; omega)⟩
      have hmm : m3 = k + 3 * i' := by omega
      simp only [← hmm]
      exact Weak.same (by simp only [push_cast, Nat.reduceAdd, Nat.reduceSub, Nat.reduceMul, Nat.reduceLeDiff, Nat.reduceEqDiff, Nat.reduceLT, Int.reduceLT, Int.reduceLE, Int.reduceEq, Int.reduceNeg, Int.reduceToNat])
    · have hii : i = n := by omega
      have hfin : e = m := by rw [he, hmk, hii]
      subst hfin
      simp only [Try.ntmps21, Try.results21, push_cast, Nat.reduceAdd, Nat.reduceSub, Nat.reduceMul, Nat.reduceLeDiff, Nat.reduceEqDiff, Nat.reduceLT, Int.reduceLT, Int.reduceLE, Int.reduceEq, Int.reduceNeg, Int.reduceToNat, ents_length, marksE_length, hlt]

/-! ### applied entries, marked -/
def marksA (k n : Nat) : List Ap := (List.range n).map fun j => ⟨((k + 6 * j : Nat) : Int), ((k + 6 * j + 1 : Nat) : Int), ((k + 6 * j + 2 : Nat) : Int), ⟨((k + 6 * j + 3 : Nat) : Int), ((k + 6 * j + 4 : Nat) : Int), mkB (k + 6 * j + 5)⟩⟩
theorem marksA_length (k n : Nat) : (marksA k n).length = n := by simp [marksA]
def marksG (k j : Nat) : List Value := [.int .i64 ((k + 6 * j : Nat) : Int), .int .i64 ((k + 6 * j + 1 : Nat) : Int), .int .i64 ((k + 6 * j + 2 : Nat) : Int), .int .i64 ((k + 6 * j + 3 : Nat) : Int), .int .i64 ((k + 6 * j + 4 : Nat) : Int), .string (mkB (k + 6 * j + 5))]
theorem marksG_all (k : Nat) (l : List Ap) : aps (marksA k l.length) = mix (marksG k) (aps l) l.length := by
  have := mix_all (marksG k) (aps l)
  rw [aps_length] at this
  rw [this, aps, marksA, List.map_map]; rfl
theorem markAppliedS_ok (l : List Ap) (hl : l.length ≤ 1048576) (k : Nat) (hk2 : k ≤ 1073741824) (e : Nat) (he : e = k + 6 * l.length) :
    IoFn Try.prog 19 .sl 6 (aps l) [i64 k] (aps (marksA k l.length)) [i64 e] := by
  have hlen : (aps (marksA k l.length)).length = (aps l).length := by rw [aps_length, aps_length, marksA_length]
  refine IoFn_of_Go Try.func19 rfl (by decide) mo (by decide +kernel) (ioOk_sl apV (fun _ => rfl) l) (ioOk_sl apV (fun _ => rfl) (marksA k l.length)) rfl hlen ?_
  rw [marksG_all]
  simp only [Try.ntmps19, Try.results19, push_cast, Nat.reduceAdd, Nat.reduceSub, Nat.reduceMul, Nat.reduceLeDiff, Nat.reduceEqDiff, Nat.reduceLT, Int.reduceLT, Int.reduceLE, Int.reduceEq, Int.reduceNeg, Int.reduceToNat, aps_length]
  refine Go_loop (α := {i : Nat // i ≤ l.length})
    (fun i => ⟨tp 59 [(0, .x (.one (.rs (0, 1) [] 6 0 l.length))), (1, int (k + 6 * i.1 : Nat)), (5, int i.1)], 1, [], [((0, 1), ⟨.sl, 6, vR (mix (marksG k) (aps l) i.1)⟩)]⟩) (fun i => l.length - i.1) ⟨0, by omega⟩ ?_ ?_
  · rw [mix_zero]
    exact Weak.same (by simp only [push_cast, Nat.reduceAdd, Nat.reduceSub, Nat.reduceMul, Nat.reduceLeDiff, Nat.reduceEqDiff, Nat.reduceLT, Int.reduceLT, Int.reduceLE, Int.reduceEq, Int.reduceNeg, Int.reduceToNat, Int.ofNat_zero, Int.add_zero, Nat.add_zero, Nat.mul_zero])
  · rintro ⟨i, hi⟩ X hX
    obtain ⟨m, hmk⟩ : ∃ m, m = k + 6 * i := ⟨_, rfl⟩
    simp only
    rw [← hmk]
    by_cases hlt : (i : Int) < (l.length : Int)
    · have hi' : i < l.length := by omega
      have ws := wsucc hi' (by omega)
      have his : i < (aps l).length := by rw [aps_length]; exact hi'
      have hmix := mix_length (marksG k) (aps l) (Nat.le_of_lt his)
      rw [aps_length] at hmix
      have hg := vR_mix_getD (marksG k) (aps l) his
      rw [aps_getD l hi'] at hg
      have hset := mix_set (marksG k) (aps l) his
      simp only [marksG] at hset
      rw [← hmk] at hset
      obtain ⟨i', hi1⟩ : ∃ i', i' = i + 1 := ⟨_, rfl⟩
      obtain ⟨m1, hm1⟩ : ∃ m1, m1 = m + 1 := ⟨_, rfl⟩
      have w1 : IntKind.i64.wrap ((m : Int) + 1) = (m1 : Int) := wN (by omega) (by omega)
      obtain ⟨m2, hm2⟩ : ∃ m2, m2 = m + 2 := ⟨_, rfl⟩
      have w2 : IntKind.i64.wrap ((m1 : Int) + 1) = (m2 : Int) := wN (by omega) (by omega)
      obtain ⟨m3, hm3⟩ : ∃ m3, m3 = m + 3 := ⟨_, rfl⟩
      have w3 : IntKind.i64.wrap ((m2 : Int) + 1) = (m3 : Int) := wN (by omega) (by omega)
      obtain ⟨m4, hm4⟩ : ∃ m4, m4 = m + 4 := ⟨_, rfl⟩
      have w4 : IntKind.i64.wrap ((m3 : Int) + 1) = (m4 : Int) := wN (by omega) (by omega)
      obtain ⟨m5, hm5⟩ : ∃ m5, m5 = m + 5 := ⟨_, rfl⟩
      have w5 : IntKind.i64.wrap ((m4 : Int) + 1) = (m5 : Int) := wN (by omega) (by omega)
      obtain ⟨m6, hm6⟩ : ∃ m6, m6 = m + 6 := ⟨_, rfl⟩
      have w6 : IntKind.i64.wrap ((m5 : Int) + 1) = (m6 : Int) := wN (by omega) (by omega)
      rw [← hi1] at ws hset
      rw [← hm1, ← hm2, ← hm3, ← hm4, ← hm5] at hset
      simp only [List.map_cons, List.map_nil] at hset
      obtain ⟨a, ha⟩ : ∃ x, x = l.getD i default := ⟨_, rfl⟩
      rw [← ha] at hg
      simp only [apV, List.map_cons, List.map_nil] at hg
      have km := markText_ok m5 (by omega) (by omega)
      obtain ⟨M, hM⟩ : ∃ M, M = mkB m5 := ⟨_, rfl⟩
      rw [← hM] at km hset
      obtain ⟨R, hR⟩ : ∃ R, R = vR (mix (marksG k) (aps l) i) := ⟨_, rfl⟩
      obtain ⟨R', hR'⟩ : ∃ R', R' = vR (mix (marksG k) (aps l) i') := ⟨_, rfl⟩
      have hRl : R.length = l.length := by rw [hR, vR_length, hmix]
      rw [← hR] at hg hset
      rw [← hR'] at hset
      have hiR : i < R.length := by omega
      have g2 := row_set_get hiR [C.v (.int .i64 m), .v (.int .i64 a.term), .v (.int .i64 a.index), .v (.int .i64 a.e.term), .v (.int .i64 a.e.kind), .v (.string a.e.data)]
      have g3 := row_set_get hiR [C.v (.int .i64 m), .v (.int .i64 m1), .v (.int .i64 a.index), .v (.int .i64 a.e.term), .v (.int .i64 a.e.kind), .v (.string a.e.data)]
      have g4 := row_set_get hiR [C.v (.int .i64 m), .v (.int .i64 m1), .v (.int .i64 m2), .v (.int .i64 a.e.term), .v (.int .i64 a.e.kind), .v (.string a.e.data)]
      have g5 := row_set_get hiR [C.v (.int .i64 m), .v (.int .i64 m1), .v (.int .i64 m2), .v (.int .i64 m3), .v (.int .i64 a.e.kind), .v (.string a.e.data)]
      have g6 := row_set_get hiR [C.v (.int .i64 m), .v (.int .i64 m1), .v (.int .i64 m2), .v (.int .i64 m3), .v (.int .i64 m4), .v (.string a.e.data)]
      simp only [← hR]
      simp only [push_cast, Nat.reduceAdd, Nat.reduceSub, Nat.reduceMul, Nat.reduceLeDiff, Nat.reduceEqDiff, Nat.reduceLT, Int.reduceLT, Int.reduceLE, Int.reduceEq, Int.reduceNeg, Int.reduceToNat, hlt, hi', hRl, hg, g2, g3, g4, g5, g6, List.set_set, List.length_set, w1, w2, w3, w4, w5]
      refine GoL_call rfl rfl km rfl rfl ?_
      simp only [push_cast, Nat.reduceAdd, Nat.reduceSub, Nat.reduceMul, Nat.reduceLeDiff, Nat.reduceEqDiff, Nat.reduceLT, Int.reduceLT, Int.reduceLE, Int.reduceEq, Int.reduceNeg, Int.reduceToNat, hlt, hi', hRl, hg, g2, g3, g4, g5, g6, List.set_set, List.length_set, hset, w6, ws]
      refine ⟨_, ?_, hX ⟨i', by omega⟩ (by simp only; omega)⟩
      have hmm : m6 = k + 6 * i' := by omega
      simp only [← hmm, ← hR']
      exact Weak.same (by simp only [push_cast, Nat.reduceAdd, Nat.reduceSub, Nat.reduceMul, Nat.reduceLeDiff, Nat.reduceEqDiff, Nat.reduceLT, Int.reduceLT, Int.reduceLE, Int.reduceEq, Int.reduceNeg, Int.reduceToNat])
    · have hii : i = l.length := by omega
      have hfin : e = m := by rw [he, hmk, hii]
      subst hfin
      simp only [hii] at hlt ⊢
      simp only [Try.ntmps19, Try.results19, push_cast, Nat.reduceAdd, Nat.reduceSub, Nat.reduceMul, Nat.reduceLeDiff, Nat.reduceEqDiff, Nat.reduceLT, Int.reduceLT, Int.reduceLE, Int.reduceEq, Int.reduceNeg, Int.reduceToNat, hlt]
end Go.Proofs.Ytcdjpfikpliagaa
