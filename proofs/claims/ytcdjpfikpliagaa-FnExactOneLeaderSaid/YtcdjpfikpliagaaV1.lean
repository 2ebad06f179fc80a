/- Applied entries: sizes, conversions, equality. -/
import Derived.Test.YtcdjpfikpliagaaTy
import Derived.Test.YtcdjpfikpliagaaRxIV
namespace Go.Proofs.Ytcdjpfikpliagaa
open Go.RowKit Go.Rx
set_option linter.unusedSimpArgs false
set_option maxRecDepth 100000
abbrev i64 (n : Int) : X := .one (.v (.int .i64 n))
abbrev bo (b : Bool) : X := .one (.v (.bool b))
abbrev st (s : ByteArray) : X := .one (.v (.string s))
theorem mo : Try.prog.follows .mixedOrders = true := by kernel_rfl
theorem wsucc {i n : Nat} (h : i < n) (hn : n ≤ 140737488355328) : IntKind.i64.wrap ((i : Int) + 1) = ((i + 1 : Nat) : Int) := by rw [IntKind.wrap_i64]; omega
theorem bytes_ext {x y : ByteArray} (h : x.data.toList = y.data.toList) : x = y := by
  cases x; cases y; simp only at h; congr; exact Array.toList_inj.1 h

/-! ### entries -/
structure Ent where
  term : Int
  kind : Int
  data : ByteArray
  deriving Inhabited, DecidableEq
def entV (e : Ent) : List Value := [.int .i64 e.term, .int .i64 e.kind, .string e.data]
def entC (e : Ent) : List C := [.v (.int .i64 e.term), .v (.int .i64 e.kind), .v (.string e.data)]
structure Ap where
  node : Int
  term : Int
  index : Int
  e : Ent
  deriving Inhabited
def apV (a : Ap) : List Value := [.int .i64 a.node, .int .i64 a.term, .int .i64 a.index, .int .i64 a.e.term, .int .i64 a.e.kind, .string a.e.data]
def apC (a : Ap) : List C := [.v (.int .i64 a.node), .v (.int .i64 a.term), .v (.int .i64 a.index), .v (.int .i64 a.e.term), .v (.int .i64 a.e.kind), .v (.string a.e.data)]
def aps (l : List Ap) : List (List Value) := l.map apV
theorem aps_length (l : List Ap) : (aps l).length = l.length := by simp [aps]
theorem aps_getD (l : List Ap) {i : Nat} (h : i < l.length) : (aps l).getD i [] = apV (l.getD i default) := by
  simp [aps, List.getD_eq_getElem?_getD, List.getElem?_map, List.getElem?_eq_getElem h]
theorem aps_take (l : List Ap) : List.take l.length (vR (aps l)) = vR (aps l) := List.take_of_length_le (by rw [vR_length, aps_length]; exact Nat.le_refl _)
theorem getD_mem' {α : Type} [Inhabited α] (xs : List α) (i : Nat) (h : i < xs.length) : xs.getD i default ∈ xs := by
  rw [List.getD_eq_getElem?_getD, List.getElem?_eq_getElem h]; exact List.getElem_mem h
theorem drop_cons {α : Type} [Inhabited α] (xs : List α) (i : Nat) (h : i < xs.length) : xs.drop i = xs.getD i default :: xs.drop (i + 1) := by
  rw [List.getD_eq_getElem?_getD, List.getElem?_eq_getElem h]; exact List.drop_eq_getElem_cons h
def Small (l : List Ap) : Prop := l.length ≤ 140737488355328 ∧ ∀ a ∈ l, a.e.data.size ≤ 140737488355328

/-! ### sizes -/
def szA : Int → List Ap → Int
  | n, [] => n
  | n, a :: l => if n - a.e.data.size < 0 then -1 else szA (n - a.e.data.size) l
theorem szA_bound : ∀ (l : List Ap) (n : Int), -1 ≤ n → -1 ≤ szA n l ∧ szA n l ≤ n
  | [], n, h => ⟨h, Int.le_refl _⟩
  | a :: l, n, h => by
    unfold szA
    split
    · omega
    · rename_i c
      have := szA_bound l (n - a.e.data.size) (by omega)
      omega
theorem szEntry_ok (e : Ent) (he : e.data.size ≤ 140737488355328) (n : Int) (h0 : 0 ≤ n) (h1 : n ≤ 1048576) :
    PureFn Try.prog 31 [.agg (entC e), i64 n] [i64 (if n - e.data.size < 0 then -1 else n - e.data.size)] := by
  refine PureFn_of_Go Try.func31 rfl (by decide) mo (by decide +kernel) ?_
  have w1 := w64 (n := n - e.data.size) (by omega) (by omega)
  by_cases c : n - e.data.size < 0
  · rw [if_pos c]; simp only [Try.ntmps31, Try.results31, push_cast, Nat.reduceAdd, Nat.reduceSub, Nat.reduceMul, Nat.reduceLeDiff, Nat.reduceEqDiff, Nat.reduceLT, Int.reduceLT, Int.reduceLE, Int.reduceEq, Int.reduceNeg, Int.reduceToNat, entC, w1, c]
  · rw [if_neg c]; simp only [Try.ntmps31, Try.results31, push_cast, Nat.reduceAdd, Nat.reduceSub, Nat.reduceMul, Nat.reduceLeDiff, Nat.reduceEqDiff, Nat.reduceLT, Int.reduceLT, Int.reduceLE, Int.reduceEq, Int.reduceNeg, Int.reduceToNat, entC, w1, c]
theorem szApplied_ok (a : Ap) (he : a.e.data.size ≤ 140737488355328) (n : Int) (h0 : 0 ≤ n) (h1 : n ≤ 1048576) :
    PureFn Try.prog 22 [.agg (apC a), i64 n] [i64 (if n - a.e.data.size < 0 then -1 else n - a.e.data.size)] := by
  refine PureFn_of_Go Try.func22 rfl (by decide) mo (by decide +kernel) ?_
  have k := szEntry_ok a.e he n h0 h1
  simp only [entC] at k
  obtain ⟨r, hr⟩ : ∃ r, r = (if n - a.e.data.size < 0 then -1 else n - a.e.data.size) := ⟨_, rfl⟩
  have hr1 : -1 ≤ r := by rw [hr]; split <;> omega
  rw [← hr] at k ⊢
  simp only [Try.ntmps22, Try.results22, push_cast, Nat.reduceAdd, Nat.reduceSub, Nat.reduceMul, Nat.reduceLeDiff, Nat.reduceEqDiff, Nat.reduceLT, Int.reduceLT, Int.reduceLE, Int.reduceEq, Int.reduceNeg, Int.reduceToNat, apC]
  refine GoL_call rfl rfl k rfl rfl ?_
  by_cases c : r < 0
  · have : r = -1 := by omega
    subst this
    simp only [Try.ntmps22, Try.results22, push_cast, Nat.reduceAdd, Nat.reduceSub, Nat.reduceMul, Nat.reduceLeDiff, Nat.reduceEqDiff, Nat.reduceLT, Int.reduceLT, Int.reduceLE, Int.reduceEq, Int.reduceNeg, Int.reduceToNat]
  · simp only [Try.ntmps22, Try.results22, push_cast, Nat.reduceAdd, Nat.reduceSub, Nat.reduceMul, Nat.reduceLeDiff, Nat.reduceEqDiff, Nat.reduceLT, Int.reduceLT, Int.reduceLE, Int.reduceEq, Int.reduceNeg, Int.reduceToNat, c]
theorem szAppliedS_ok (l : List Ap) (hl : Small l) (n : Int) (h0 : -1 ≤ n) (h1 : n ≤ 1048576) :
    ∃ r, -1 ≤ r ∧ (0 ≤ r → l.length ≤ 1048576) ∧ PureFn Try.prog 6 [.one (.sh 6 (vR (aps l))), i64 n] [i64 r] := by
  obtain ⟨hl1, hl2⟩ := hl
  have w1 := w64 (n := n - l.length) (by omega) (by omega)
  by_cases c1 : n - l.length < 0
  · refine ⟨-1, by omega, fun h => by omega, ?_⟩
    refine PureFn_of_Go Try.func6 rfl (by decide) mo (by decide +kernel) ?_
    simp only [Try.ntmps6, Try.results6, push_cast, Nat.reduceAdd, Nat.reduceSub, Nat.reduceMul, Nat.reduceLeDiff, Nat.reduceEqDiff, Nat.reduceLT, Int.reduceLT, Int.reduceLE, Int.reduceEq, Int.reduceNeg, Int.reduceToNat, aps_length, w1, c1]
  · obtain ⟨n1, hn1⟩ : ∃ n1, n1 = n - l.length := ⟨_, rfl⟩
    rw [← hn1] at w1 c1
    obtain ⟨r, hr⟩ : ∃ r, r = szA n1 l := ⟨_, rfl⟩
    have hb := szA_bound l n1 (by omega)
    rw [← hr] at hb
    refine ⟨r, hb.1, fun _ => by omega, ?_⟩
    refine PureFn_of_Go Try.func6 rfl (by decide) mo (by decide +kernel) ?_
    simp only [Try.ntmps6, Try.results6, push_cast, Nat.reduceAdd, Nat.reduceSub, Nat.reduceMul, Nat.reduceLeDiff, Nat.reduceEqDiff, Nat.reduceLT, Int.reduceLT, Int.reduceLE, Int.reduceEq, Int.reduceNeg, Int.reduceToNat, aps_length, ← hn1, w1, c1]
    refine Go_loop (α := {p : Nat × Int // p.1 ≤ l.length ∧ 0 ≤ p.2 ∧ p.2 ≤ 1048576 ∧ szA p.2 (l.drop p.1) = r})
      (fun p => ⟨tp 27 [(0, .x (.one (.sh 6 (vR (aps l))))), (1, int p.1.2), (5, int p.1.1)], 0, [], []⟩) (fun p => l.length - p.1.1) ⟨(0, n1), by simp only; omega, by simp only; omega, by simp only; omega, hr.symm⟩ ?_ ?_
    · exact Weak.same (by simp only [push_cast, Nat.reduceAdd, Nat.reduceSub, Nat.reduceMul, Nat.reduceLeDiff, Nat.reduceEqDiff, Nat.reduceLT, Int.reduceLT, Int.reduceLE, Int.reduceEq, Int.reduceNeg, Int.reduceToNat, Int.ofNat_zero])
    · rintro ⟨⟨i, m⟩, hi, hm0, hm1, hinv⟩ X hX
      simp only at hi hm0 hm1 hinv
      by_cases hlt : (i : Int) < (l.length : Int)
      · have hi' : i < l.length := by omega
        have ws := wsucc hi' (by omega)
        have hg := aps_getD l hi'
        have hmem := getD_mem' l i hi'
        rw [drop_cons l i hi'] at hinv
        obtain ⟨a, ha⟩ : ∃ a, a = l.getD i default := ⟨_, rfl⟩
        rw [← ha] at hg hmem hinv
        have k := szApplied_ok a (hl2 a hmem) m hm0 hm1
        simp only [apC] at k
        obtain ⟨i', hi1⟩ : ∃ i', i' = i + 1 := ⟨_, rfl⟩
        rw [← hi1] at ws hinv
        by_cases c : m - a.e.data.size < 0
        · rw [if_pos c] at k
          rw [szA, if_pos c] at hinv
          subst hinv
          simp only [push_cast, Nat.reduceAdd, Nat.reduceSub, Nat.reduceMul, Nat.reduceLeDiff, Nat.reduceEqDiff, Nat.reduceLT, Int.reduceLT, Int.reduceLE, Int.reduceEq, Int.reduceNeg, Int.reduceToNat, hlt, aps_length, hi', hg, apV, vR_getD]
          refine GoL_call rfl rfl k rfl rfl ?_
          simp only [Try.ntmps6, Try.results6, push_cast, Nat.reduceAdd, Nat.reduceSub, Nat.reduceMul, Nat.reduceLeDiff, Nat.reduceEqDiff, Nat.reduceLT, Int.reduceLT, Int.reduceLE, Int.reduceEq, Int.reduceNeg, Int.reduceToNat]
        · rw [if_neg c] at k
          rw [szA, if_neg c] at hinv
          obtain ⟨m', hm'⟩ : ∃ m', m' = m - a.e.data.size := ⟨_, rfl⟩
          rw [← hm'] at k hinv c
          simp only [push_cast, Nat.reduceAdd, Nat.reduceSub, Nat.reduceMul, Nat.reduceLeDiff, Nat.reduceEqDiff, Nat.reduceLT, Int.reduceLT, Int.reduceLE, Int.reduceEq, Int.reduceNeg, Int.reduceToNat, hlt, aps_length, hi', hg, apV, vR_getD]
          refine GoL_call rfl rfl k rfl rfl ?_
          simp only [push_cast, Nat.reduceAdd, Nat.reduceSub, Nat.reduceMul, Nat.reduceLeDiff, Nat.reduceEqDiff, Nat.reduceLT, Int.reduceLT, Int.reduceLE, Int.reduceEq, Int.reduceNeg, Int.reduceToNat, c, ws]
          refine ⟨_, ?_, hX ⟨(i', m'), by simp only; omega, by simp only; omega, by simp only; omega, hinv⟩ (by simp only; omega)⟩
          exact Weak.drop (by simp only [push_cast, Nat.reduceAdd, Nat.reduceSub, Nat.reduceMul, Nat.reduceLeDiff, Nat.reduceEqDiff, Nat.reduceLT, Int.reduceLT, Int.reduceLE, Int.reduceEq, Int.reduceNeg, Int.reduceToNat]) (by simp only [push_cast, Nat.reduceAdd, Nat.reduceSub, Nat.reduceMul, Nat.reduceLeDiff, Nat.reduceEqDiff, Nat.reduceLT, Int.reduceLT, Int.reduceLE, Int.reduceEq, Int.reduceNeg, Int.reduceToNat]) (by simp only [push_cast, Nat.reduceAdd, Nat.reduceSub, Nat.reduceMul, Nat.reduceLeDiff, Nat.reduceEqDiff, Nat.reduceLT, Int.reduceLT, Int.reduceLE, Int.reduceEq, Int.reduceNeg, Int.reduceToNat])
      · have hie : i = l.length := by omega
        rw [hie, List.drop_length, szA] at hinv
        subst hinv
        simp only [Try.ntmps6, Try.results6, push_cast, Nat.reduceAdd, Nat.reduceSub, Nat.reduceMul, Nat.reduceLeDiff, Nat.reduceEqDiff, Nat.reduceLT, Int.reduceLT, Int.reduceLE, Int.reduceEq, Int.reduceNeg, Int.reduceToNat, hlt, aps_length]

/-! ### conversions -/
theorem toEntry_ok (e : Ent) : PureFn Try.prog 32 [.agg (entC e)] [.agg (entC e)] := by
  refine PureFn_of_Go Try.func32 rfl (by decide) mo (by decide +kernel) ?_
  simp only [Try.ntmps32, Try.results32, push_cast, Nat.reduceAdd, Nat.reduceSub, Nat.reduceMul, Nat.reduceLeDiff, Nat.reduceEqDiff, Nat.reduceLT, Int.reduceLT, Int.reduceLE, Int.reduceEq, Int.reduceNeg, Int.reduceToNat, entC]
theorem toApplied_ok (a : Ap) : PureFn Try.prog 23 [.agg (apC a)] [.agg (apC a)] := by
  refine PureFn_of_Go Try.func23 rfl (by decide) mo (by decide +kernel) ?_
  have k := toEntry_ok a.e
  simp only [entC] at k
  simp only [Try.ntmps23, Try.results23, push_cast, Nat.reduceAdd, Nat.reduceSub, Nat.reduceMul, Nat.reduceLeDiff, Nat.reduceEqDiff, Nat.reduceLT, Int.reduceLT, Int.reduceLE, Int.reduceEq, Int.reduceNeg, Int.reduceToNat, apC]
  refine GoL_call rfl rfl k rfl rfl ?_
  simp only [Try.ntmps23, Try.results23, push_cast, Nat.reduceAdd, Nat.reduceSub, Nat.reduceMul, Nat.reduceLeDiff, Nat.reduceEqDiff, Nat.reduceLT, Int.reduceLT, Int.reduceLE, Int.reduceEq, Int.reduceNeg, Int.reduceToNat]
def apZ (n : Nat) : List (List Value) := List.replicate n [.int .i64 0, .int .i64 0, .int .i64 0, .int .i64 0, .int .i64 0, .string ⟨#[]⟩]
theorem apZ_vR (n : Nat) : List.replicate n [C.v (.int .i64 0), .v (.int .i64 0), .v (.int .i64 0), .v (.int .i64 0), .v (.int .i64 0), .v (.string ⟨#[]⟩)] = vR (apZ n) := by simp [vR, apZ]
theorem apZ_length (n : Nat) : (apZ n).length = n := by simp [apZ]
theorem apZ_getD {n i : Nat} (h : i < n) : ((apZ n).getD i []).map C.v = [.v (.int .i64 0), .v (.int .i64 0), .v (.int .i64 0), .v (.int .i64 0), .v (.int .i64 0), .v (.string ⟨#[]⟩)] := by
  simp [apZ, List.getD_eq_getElem?_getD, List.getElem?_replicate, h]
def apF (l : List Ap) (i : Nat) : List Value := apV (l.getD i default)
theorem apF_all (l : List Ap) : (List.range l.length).map (apF l) = aps l := by
  apply List.ext_getElem
  · simp [aps]
  · intro i h1 h2
    simp at h1
    simp [aps, apF, List.getD_eq_getElem?_getD, List.getElem?_eq_getElem h1]
theorem toAppliedS_ok (l : List Ap) (hl : l.length ≤ 1048576) : PureFn Try.prog 8 [.one (.sh 6 (vR (aps l)))] [.one (.own 6 (vR (aps l)))] := by
  refine PureFn_of_Go Try.func8 rfl (by decide) mo (by decide +kernel) ?_
  have b1 : l.length * 56 ≤ 281474976710656 := by omega
  have b2 : l.length ≤ 9223372036854775807 := by omega
  have b3 : 56 * l.length ≤ 281474976710656 := by omega
  simp only [Try.ntmps8, Try.results8, push_cast, Nat.reduceAdd, Nat.reduceSub, Nat.reduceMul, Nat.reduceLeDiff, Nat.reduceEqDiff, Nat.reduceLT, Int.reduceLT, Int.reduceLE, Int.reduceEq, Int.reduceNeg, Int.reduceToNat, aps_length, b1, b2, b3]
  refine Go_loop (α := {i : Nat // i ≤ l.length})
    (fun i => ⟨tp 23 [(0, .x (.one (.sh 6 (vR (aps l))))), (3, .x (.one (.rs (0, 448) [] 6 0 l.length))), (4, int i.1)], 0, [((0, 448), ⟨.sl, 6, vR (mix (apF l) (apZ l.length) i.1)⟩)], []⟩) (fun i => l.length - i.1) ⟨0, by omega⟩ ?_ ?_
  · simp only [mix_zero, ← apZ_vR]
    exact Weak.same (by simp only [push_cast, Nat.reduceAdd, Nat.reduceSub, Nat.reduceMul, Nat.reduceLeDiff, Nat.reduceEqDiff, Nat.reduceLT, Int.reduceLT, Int.reduceLE, Int.reduceEq, Int.reduceNeg, Int.reduceToNat, Int.ofNat_zero])
  · rintro ⟨i, hi⟩ X hX
    have hml := mix_length (apF l) (apZ l.length) (i := i) (by rw [apZ_length]; exact hi)
    rw [apZ_length] at hml
    by_cases hlt : (i : Int) < (l.length : Int)
    · have hi' : i < l.length := by omega
      have ws := wsucc hi' (by omega)
      have hg := aps_getD l hi'
      have s1 := mix_set (apF l) (apZ l.length) (i := i) (by rw [apZ_length]; exact hi')
      have g1 := vR_mix_getD (apF l) (apZ l.length) (i := i) (by rw [apZ_length]; exact hi')
      rw [apZ_getD hi'] at g1
      simp only [apF] at s1
      obtain ⟨a, ha⟩ : ∃ a, a = l.getD i default := ⟨_, rfl⟩
      rw [← ha] at hg s1
      have k := toApplied_ok a
      simp only [apC] at k
      simp only [apV, List.map_cons, List.map_nil] at s1
      obtain ⟨i', hi1⟩ : ∃ i', i' = i + 1 := ⟨_, rfl⟩
      rw [← hi1] at ws s1
      obtain ⟨R, hR⟩ : ∃ R, R = vR (mix (apF l) (apZ l.length) i) := ⟨_, rfl⟩
      have hRl : R.length = l.length := by rw [hR, vR_length, hml]
      have s1' : R.set i [C.v (.int .i64 a.node), .v (.int .i64 a.term), .v (.int .i64 a.index), .v (.int .i64 a.e.term), .v (.int .i64 a.e.kind), .v (.string a.e.data)] = vR (mix (apF l) (apZ l.length) i') := by rw [hR]; exact s1
      rw [← hR] at g1
      simp only [← hR]
      simp only [push_cast, Nat.reduceAdd, Nat.reduceSub, Nat.reduceMul, Nat.reduceLeDiff, Nat.reduceEqDiff, Nat.reduceLT, Int.reduceLT, Int.reduceLE, Int.reduceEq, Int.reduceNeg, Int.reduceToNat, hlt, aps_length, hi', hg, apV, vR_getD]
      refine GoL_call rfl rfl k rfl rfl ?_
      simp only [push_cast, Nat.reduceAdd, Nat.reduceSub, Nat.reduceMul, Nat.reduceLeDiff, Nat.reduceEqDiff, Nat.reduceLT, Int.reduceLT, Int.reduceLE, Int.reduceEq, Int.reduceNeg, Int.reduceToNat, hlt, hi', hRl, g1, s1', ws]
      refine ⟨_, ?_, hX ⟨i', by omega⟩ (by simp only; omega)⟩
      exact Weak.drop (by simp only [push_cast, Nat.reduceAdd, Nat.reduceSub, Nat.reduceMul, Nat.reduceLeDiff, Nat.reduceEqDiff, Nat.reduceLT, Int.reduceLT, Int.reduceLE, Int.reduceEq, Int.reduceNeg, Int.reduceToNat]) (by simp only [push_cast, Nat.reduceAdd, Nat.reduceSub, Nat.reduceMul, Nat.reduceLeDiff, Nat.reduceEqDiff, Nat.reduceLT, Int.reduceLT, Int.reduceLE, Int.reduceEq, Int.reduceNeg, Int.reduceToNat]) (by simp only [push_cast, Nat.reduceAdd, Nat.reduceSub, Nat.reduceMul, Nat.reduceLeDiff, Nat.reduceEqDiff, Nat.reduceLT, Int.reduceLT, Int.reduceLE, Int.reduceEq, Int.reduceNeg, Int.reduceToNat])
    · have hie : i = l.length := by omega
      have hall : mix (apF l) (apZ l.length) l.length = aps l := by
        have := mix_all (apF l) (apZ l.length)
        rw [apZ_length] at this
        rw [this, apF_all]
      simp only [hie, hall] at hlt ⊢
      simp only [Try.ntmps8, Try.results8, push_cast, Nat.reduceAdd, Nat.reduceSub, Nat.reduceMul, Nat.reduceLeDiff, Nat.reduceEqDiff, Nat.reduceLT, Int.reduceLT, Int.reduceLE, Int.reduceEq, Int.reduceNeg, Int.reduceToNat, hlt, aps_length]
theorem eqEntry_ok (e : Ent) : PureFn Try.prog 29 [.agg (entC e), .agg (entC e)] [bo true] := by
  refine PureFn_of_Go Try.func29 rfl (by decide) mo (by decide +kernel) ?_
  simp only [Try.ntmps29, Try.results29, push_cast, Nat.reduceAdd, Nat.reduceSub, Nat.reduceMul, Nat.reduceLeDiff, Nat.reduceEqDiff, Nat.reduceLT, Int.reduceLT, Int.reduceLE, Int.reduceEq, Int.reduceNeg, Int.reduceToNat, entC]
theorem eqApplied_ok (a : Ap) : PureFn Try.prog 25 [.agg (apC a), .agg (apC a)] [bo true] := by
  refine PureFn_of_Go Try.func25 rfl (by decide) mo (by decide +kernel) ?_
  have k := eqEntry_ok a.e
  simp only [entC] at k
  simp only [Try.ntmps25, Try.results25, push_cast, Nat.reduceAdd, Nat.reduceSub, Nat.reduceMul, Nat.reduceLeDiff, Nat.reduceEqDiff, Nat.reduceLT, Int.reduceLT, Int.reduceLE, Int.reduceEq, Int.reduceNeg, Int.reduceToNat, apC]
  refine GoL_call rfl rfl k rfl rfl ?_
  simp only [Try.ntmps25, Try.results25, push_cast, Nat.reduceAdd, Nat.reduceSub, Nat.reduceMul, Nat.reduceLeDiff, Nat.reduceEqDiff, Nat.reduceLT, Int.reduceLT, Int.reduceLE, Int.reduceEq, Int.reduceNeg, Int.reduceToNat]
theorem eqAppliedS_ok (l : List Ap) (hl : l.length ≤ 1048576) : PureFn Try.prog 10 [.one (.sh 6 (vR (aps l))), .one (.sh 6 (vR (aps l)))] [bo true] := by
  refine PureFn_of_Go Try.func10 rfl (by decide) mo (by decide +kernel) ?_
  simp only [Try.ntmps10, Try.results10, push_cast, Nat.reduceAdd, Nat.reduceSub, Nat.reduceMul, Nat.reduceLeDiff, Nat.reduceEqDiff, Nat.reduceLT, Int.reduceLT, Int.reduceLE, Int.reduceEq, Int.reduceNeg, Int.reduceToNat, aps_length]
  refine Go_loop (α := {i : Nat // i ≤ l.length})
    (fun i => ⟨tp 27 [(0, .x (.one (.sh 6 (vR (aps l))))), (1, .x (.one (.sh 6 (vR (aps l))))), (5, int i.1)], 0, [], []⟩) (fun i => l.length - i.1) ⟨0, by omega⟩ ?_ ?_
  · exact Weak.same (by simp only [push_cast, Nat.reduceAdd, Nat.reduceSub, Nat.reduceMul, Nat.reduceLeDiff, Nat.reduceEqDiff, Nat.reduceLT, Int.reduceLT, Int.reduceLE, Int.reduceEq, Int.reduceNeg, Int.reduceToNat, Int.ofNat_zero])
  · rintro ⟨i, hi⟩ X hX
    by_cases hlt : (i : Int) < (l.length : Int)
    · have hi' : i < l.length := by omega
      have ws := wsucc hi' (by omega)
      have hg := aps_getD l hi'
      obtain ⟨a, ha⟩ : ∃ a, a = l.getD i default := ⟨_, rfl⟩
      rw [← ha] at hg
      have k := eqApplied_ok a
      simp only [apC] at k
      obtain ⟨i', hi1⟩ : ∃ i', i' = i + 1 := ⟨_, rfl⟩
      rw [← hi1] at ws
      simp only [push_cast, Nat.reduceAdd, Nat.reduceSub, Nat.reduceMul, Nat.reduceLeDiff, Nat.reduceEqDiff, Nat.reduceLT, Int.reduceLT, Int.reduceLE, Int.reduceEq, Int.reduceNeg, Int.reduceToNat, aps_length, hlt, hi', hg, apV, vR_getD]
      refine GoD_call rfl rfl k rfl rfl ?_
      simp only [push_cast, Nat.reduceAdd, Nat.reduceSub, Nat.reduceMul, Nat.reduceLeDiff, Nat.reduceEqDiff, Nat.reduceLT, Int.reduceLT, Int.reduceLE, Int.reduceEq, Int.reduceNeg, Int.reduceToNat, ws]
      refine ⟨_, ?_, hX ⟨i', by omega⟩ (by simp only; omega)⟩
      exact Weak.same (by simp only [push_cast, Nat.reduceAdd, Nat.reduceSub, Nat.reduceMul, Nat.reduceLeDiff, Nat.reduceEqDiff, Nat.reduceLT, Int.reduceLT, Int.reduceLE, Int.reduceEq, Int.reduceNeg, Int.reduceToNat])
    · simp only [Try.ntmps10, Try.results10, push_cast, Nat.reduceAdd, Nat.reduceSub, Nat.reduceMul, Nat.reduceLeDiff, Nat.reduceEqDiff, Nat.reduceLT, Int.reduceLT, Int.reduceLE, Int.reduceEq, Int.reduceNeg, Int.reduceToNat, aps_length, hlt]
theorem ent_ne (x y : Operand) (a b : Ent) :
    binV Try.prog .neq 47 x y (.x (.agg [.v (.int .i64 a.term), .v (.int .i64 a.kind), .v (.string a.data)])) (.x (.agg [.v (.int .i64 b.term), .v (.int .i64 b.kind), .v (.string b.data)])) = some (one (.v (.bool (!decide (a = b))))) := by
  refine bin_neA (by kernel_rfl) rfl rfl ((equal_flat Try.underlying47 (by kernel_rfl)
    (e := fun f => if f.offset = 0 then decide (a.term = b.term) else if f.offset = 1 then decide (a.kind = b.kind) else decide (a.data = b.data)) ?_).trans ?_)
  · intro f hf
    simp only [List.mem_cons, List.not_mem_nil, or_false] at hf
    rcases hf with rfl | rfl | rfl
    · exact ⟨by decide, T3.2.1, _, _, rfl, rfl, fun d => (eq_int U3 _ _).trans (by simp)⟩
    · exact ⟨by decide, T3.2.1, _, _, rfl, rfl, fun d => (eq_int U3 _ _).trans (by simp)⟩
    · exact ⟨by decide, T9.2.1, _, _, rfl, rfl, fun d => (eq_str U9 _ _).trans (by simp)⟩
  · obtain ⟨t1, k1, d1⟩ := a
    obtain ⟨t2, k2, d2⟩ := b
    simp [← Bool.decide_and]
end Go.Proofs.Ytcdjpfikpliagaa
