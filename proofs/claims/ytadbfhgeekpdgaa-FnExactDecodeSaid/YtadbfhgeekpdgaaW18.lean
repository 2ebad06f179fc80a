/- HappenOk: what its functions return, by their code; its law. -/
import Derived.Test.YtadbfhgeekpdgaaW17
namespace Go.Proofs.Ytadbfhgeekpdgaa
open Go.RowKit Go.Rx
set_option linter.unusedSimpArgs false
set_option maxRecDepth 100000

/-! ### lists of numbers -/
theorem ints_take (l : List Int) : List.take l.length (vR (ints l)) = vR (ints l) := List.take_of_length_le (by rw [vR_length, ints_length]; exact Nat.le_refl _)
def intZ (n : Nat) : List (List Value) := List.replicate n [.int .i64 0]
theorem intZ_vR (n : Nat) : List.replicate n [C.v (.int .i64 0)] = vR (intZ n) := by simp [vR, intZ]
theorem intZ_length (n : Nat) : (intZ n).length = n := by simp [intZ]
theorem intZ_getD {n i : Nat} (h : i < n) : ((intZ n).getD i []).map C.v = [.v (.int .i64 0)] := by
  simp [intZ, List.getD_eq_getElem?_getD, List.getElem?_replicate, h]
def intF (l : List Int) (i : Nat) : List Value := [.int .i64 (at_ l i)]
theorem intF_all (l : List Int) : (List.range l.length).map (intF l) = ints l := by
  apply List.ext_getElem
  · simp [ints]
  · intro i h1 h2
    simp at h1
    simp [ints, intF, at_, List.getD_eq_getElem?_getD, List.getElem?_eq_getElem h1]
theorem toIntS_ok (l : List Int) (hl : l.length ≤ 1048576) : PureFn Try.prog 57 [.one (.sh 1 (vR (ints l)))] [.one (.own 1 (vR (ints l)))] := by
  refine PureFn_of_Go Try.func57 rfl (by decide) mo (by decide +kernel) ?_
  have b1 : l.length * 8 ≤ 281474976710656 := by omega
  have b2 : l.length ≤ 9223372036854775807 := by omega
  simp only [Try.ntmps57, Try.results57, push_cast, Nat.reduceAdd, Nat.reduceSub, Nat.reduceMul, Nat.reduceLeDiff, Nat.reduceEqDiff, Nat.reduceLT, Int.reduceLT, Int.reduceLE, Int.reduceEq, Int.reduceNeg, Int.reduceToNat, ints_length, b1, b2]
  refine Go_loop (α := {i : Nat // i ≤ l.length})
    (fun i => ⟨tp 22 [(0, .x (.one (.sh 1 (vR (ints l))))), (3, .x (.one (.rs (0, 448) [] 1 0 l.length))), (4, int i.1)], 0, [((0, 448), ⟨.sl, 1, vR (mix (intF l) (intZ l.length) i.1)⟩)], []⟩) (fun i => l.length - i.1) ⟨0, by omega⟩ ?_ ?_
  · simp only [mix_zero, ← intZ_vR]
    exact Weak.same (by simp only [push_cast, Nat.reduceAdd, Nat.reduceSub, Nat.reduceMul, Nat.reduceLeDiff, Nat.reduceEqDiff, Nat.reduceLT, Int.reduceLT, Int.reduceLE, Int.reduceEq, Int.reduceNeg, Int.reduceToNat, Int.ofNat_zero])
  · rintro ⟨i, hi⟩ X hX
    have hml := mix_length (intF l) (intZ l.length) (i := i) (by rw [intZ_length]; exact hi)
    rw [intZ_length] at hml
    by_cases hlt : (i : Int) < (l.length : Int)
    · have hi' : i < l.length := by omega
      have ws := wsucc hi' (by omega)
      have hg := ints_getD l hi'
      rw [show l.getD i default = at_ l i from rfl] at hg
      have s1 := mix_set (intF l) (intZ l.length) (i := i) (by rw [intZ_length]; exact hi')
      have g1 := vR_mix_getD (intF l) (intZ l.length) (i := i) (by rw [intZ_length]; exact hi')
      rw [intZ_getD hi'] at g1
      simp only [intF, List.map_cons, List.map_nil] at s1
      obtain ⟨x, hx⟩ : ∃ x, x = at_ l i := ⟨_, rfl⟩
      rw [← hx] at hg s1
      obtain ⟨i', hi1⟩ : ∃ i', i' = i + 1 := ⟨_, rfl⟩
      rw [← hi1] at ws s1
      simp only [push_cast, Nat.reduceAdd, Nat.reduceSub, Nat.reduceMul, Nat.reduceLeDiff, Nat.reduceEqDiff, Nat.reduceLT, Int.reduceLT, Int.reduceLE, Int.reduceEq, Int.reduceNeg, Int.reduceToNat, ints_length, hlt, hi', hg, g1, hml, s1, ws, vR_getD]
      refine ⟨_, ?_, hX ⟨i', by omega⟩ (by simp only; omega)⟩
      exact Weak.same (by simp only [push_cast, Nat.reduceAdd, Nat.reduceSub, Nat.reduceMul, Nat.reduceLeDiff, Nat.reduceEqDiff, Nat.reduceLT, Int.reduceLT, Int.reduceLE, Int.reduceEq, Int.reduceNeg, Int.reduceToNat])
    · have hie : i = l.length := by omega
      have e := mix_all (intF l) (intZ l.length)
      rw [intZ_length, intF_all, ← hie] at e
      rw [← hie] at hml hlt
      simp only [Try.ntmps57, Try.results57, push_cast, Nat.reduceAdd, Nat.reduceSub, Nat.reduceMul, Nat.reduceLeDiff, Nat.reduceEqDiff, Nat.reduceLT, Int.reduceLT, Int.reduceLE, Int.reduceEq, Int.reduceNeg, Int.reduceToNat, ints_length, hlt, ← hie, e, hml]
theorem eqIntS_ok (l : List Int) (hl : l.length ≤ 1048576) : PureFn Try.prog 60 [.one (.sh 1 (vR (ints l))), .one (.sh 1 (vR (ints l)))] [bo true] := by
  refine PureFn_of_Go Try.func60 rfl (by decide) mo (by decide +kernel) ?_
  simp only [Try.ntmps60, Try.results60, push_cast, Nat.reduceAdd, Nat.reduceSub, Nat.reduceMul, Nat.reduceLeDiff, Nat.reduceEqDiff, Nat.reduceLT, Int.reduceLT, Int.reduceLE, Int.reduceEq, Int.reduceNeg, Int.reduceToNat, ints_length]
  refine Go_loop (α := {i : Nat // i ≤ l.length})
    (fun i => ⟨tp 26 [(0, .x (.one (.sh 1 (vR (ints l))))), (1, .x (.one (.sh 1 (vR (ints l))))), (5, int i.1)], 0, [], []⟩) (fun i => l.length - i.1) ⟨0, by omega⟩ ?_ ?_
  · exact Weak.same (by simp only [push_cast, Nat.reduceAdd, Nat.reduceSub, Nat.reduceMul, Nat.reduceLeDiff, Nat.reduceEqDiff, Nat.reduceLT, Int.reduceLT, Int.reduceLE, Int.reduceEq, Int.reduceNeg, Int.reduceToNat, Int.ofNat_zero])
  · rintro ⟨i, hi⟩ X hX
    by_cases hlt : (i : Int) < (l.length : Int)
    · have hi' : i < l.length := by omega
      have ws := wsucc hi' (by omega)
      have hg := ints_getD l hi'
      obtain ⟨i', hi1⟩ : ∃ i', i' = i + 1 := ⟨_, rfl⟩
      rw [← hi1] at ws
      simp only [push_cast, Nat.reduceAdd, Nat.reduceSub, Nat.reduceMul, Nat.reduceLeDiff, Nat.reduceEqDiff, Nat.reduceLT, Int.reduceLT, Int.reduceLE, Int.reduceEq, Int.reduceNeg, Int.reduceToNat, ints_length, hlt, hi', hg, ws, vR_getD]
      refine ⟨_, ?_, hX ⟨i', by omega⟩ (by simp only; omega)⟩
      exact Weak.same (by simp only [push_cast, Nat.reduceAdd, Nat.reduceSub, Nat.reduceMul, Nat.reduceLeDiff, Nat.reduceEqDiff, Nat.reduceLT, Int.reduceLT, Int.reduceLE, Int.reduceEq, Int.reduceNeg, Int.reduceToNat])
    · simp only [Try.ntmps60, Try.results60, push_cast, Nat.reduceAdd, Nat.reduceSub, Nat.reduceMul, Nat.reduceLeDiff, Nat.reduceEqDiff, Nat.reduceLT, Int.reduceLT, Int.reduceLE, Int.reduceEq, Int.reduceNeg, Int.reduceToNat, ints_length, hlt]
theorem szIntS_ok (l : List Int) (hl : l.length ≤ 140737488355328) (n : Int) (h0 : -1 ≤ n) (h1 : n ≤ 1048576) :
    ∃ r, -1 ≤ r ∧ r ≤ n ∧ (0 ≤ r → l.length ≤ 1048576) ∧ PureFn Try.prog 52 [.one (.sh 1 (vR (ints l))), i64 n] [i64 r] := by
  have w1 := w64 (n := n - l.length) (by omega) (by omega)
  by_cases c1 : n - l.length < 0
  · refine ⟨-1, by omega, by omega, fun h => by omega, ?_⟩
    refine PureFn_of_Go Try.func52 rfl (by decide) mo (by decide +kernel) ?_
    simp only [Try.ntmps52, Try.results52, push_cast, Nat.reduceAdd, Nat.reduceSub, Nat.reduceMul, Nat.reduceLeDiff, Nat.reduceEqDiff, Nat.reduceLT, Int.reduceLT, Int.reduceLE, Int.reduceEq, Int.reduceNeg, Int.reduceToNat, ints_length, w1, c1]
  · refine ⟨n - l.length, by omega, by omega, fun h => by omega, ?_⟩
    refine PureFn_of_Go Try.func52 rfl (by decide) mo (by decide +kernel) ?_
    simp only [Try.ntmps52, Try.results52, push_cast, Nat.reduceAdd, Nat.reduceSub, Nat.reduceMul, Nat.reduceLeDiff, Nat.reduceEqDiff, Nat.reduceLT, Int.reduceLT, Int.reduceLE, Int.reduceEq, Int.reduceNeg, Int.reduceToNat, ints_length, w1, c1]
theorem szCommand_ok (x : Cmd) (hx : x.Ok) (n : Int) (h0 : -1 ≤ n) (h1 : n ≤ 1048576) :
    ∃ r, -1 ≤ r ∧ r ≤ n ∧ PureFn Try.prog 51 [.agg x.enc, i64 n] [i64 r] := by
  obtain ⟨hx1, hx2⟩ := hx
  have w1 := w64 (n := n - x.text.size) (by omega) (by omega)
  have w2 := w64 (n := n - x.text.size - x.task.size) (by omega) (by omega)
  by_cases c1 : n - x.text.size < 0
  · refine ⟨-1, by omega, by omega, ?_⟩
    refine PureFn_of_Go Try.func51 rfl (by decide) mo (by decide +kernel) ?_
    simp only [Try.ntmps51, Try.results51, push_cast, Nat.reduceAdd, Nat.reduceSub, Nat.reduceMul, Nat.reduceLeDiff, Nat.reduceEqDiff, Nat.reduceLT, Int.reduceLT, Int.reduceLE, Int.reduceEq, Int.reduceNeg, Int.reduceToNat, Cmd.enc, w1, c1]
  · by_cases c2 : n - x.text.size - x.task.size < 0
    · refine ⟨-1, by omega, by omega, ?_⟩
      refine PureFn_of_Go Try.func51 rfl (by decide) mo (by decide +kernel) ?_
      simp only [Try.ntmps51, Try.results51, push_cast, Nat.reduceAdd, Nat.reduceSub, Nat.reduceMul, Nat.reduceLeDiff, Nat.reduceEqDiff, Nat.reduceLT, Int.reduceLT, Int.reduceLE, Int.reduceEq, Int.reduceNeg, Int.reduceToNat, Cmd.enc, w1, w2, c1, c2]
    · refine ⟨n - x.text.size - x.task.size, by omega, by omega, ?_⟩
      refine PureFn_of_Go Try.func51 rfl (by decide) mo (by decide +kernel) ?_
      simp only [Try.ntmps51, Try.results51, push_cast, Nat.reduceAdd, Nat.reduceSub, Nat.reduceMul, Nat.reduceLeDiff, Nat.reduceEqDiff, Nat.reduceLT, Int.reduceLT, Int.reduceLE, Int.reduceEq, Int.reduceNeg, Int.reduceToNat, Cmd.enc, w1, w2, c1, c2]
theorem toCommand_ok (x : Cmd) : PureFn Try.prog 56 [.agg x.enc] [.agg x.enc] := by
  refine PureFn_of_Go Try.func56 rfl (by decide) mo (by decide +kernel) ?_
  simp only [Try.ntmps56, Try.results56, push_cast, Nat.reduceAdd, Nat.reduceSub, Nat.reduceMul, Nat.reduceLeDiff, Nat.reduceEqDiff, Nat.reduceLT, Int.reduceLT, Int.reduceLE, Int.reduceEq, Int.reduceNeg, Int.reduceToNat, Cmd.enc]

/-! ### what happens -/
theorem ints_dec (R : List (List C)) (h : ∀ r ∈ R, HasKt (.int .i64) r) : ∃ l : List Int, R = vR (ints l) := by
  obtain ⟨xs, rfl, _⟩ := rows_dec (fun n : Int => [C.v (.int .i64 n)]) (fun _ => True) (K := .int .i64) (fun r hr => by
    simp only [HasKt] at hr
    obtain ⟨n, rfl, _⟩ := hr
    exact ⟨n, rfl, trivial⟩) R h
  exact ⟨xs, by simp [vR, ints]⟩
structure Hap where
  kind : Int
  node : Int
  at_ : Int
  limit : Int
  c : Cmd
  conf : List Int
  cut : Bool
  whole : Int
  left : List Int
def Hap.enc (f : List (List C) → C) (x : Hap) : List C := [.v (.int .i64 x.kind), .v (.int .i64 x.node), .v (.int .i64 x.at_), .v (.int .i64 x.limit),
  .v (.int .i64 x.c.op), .v (.int .i64 x.c.tok), .v (.int .i64 x.c.seq), .v (.string x.c.text), .v (.string x.c.task), .v (.int .i64 x.c.num), .v (.int .i64 x.c.to_), .v (.bool x.c.yes),
  f (vR (ints x.conf)), .v (.bool x.cut), .v (.int .i64 x.whole), f (vR (ints x.left))]
def Hap.Ok (x : Hap) : Prop := x.c.Ok ∧ x.conf.length ≤ 140737488355328 ∧ x.left.length ≤ 140737488355328

theorem szHappen_ok (x : Hap) (hx : x.Ok) (n : Int) (h0 : -1 ≤ n) (h1 : n ≤ 1048576) :
    ∃ r, -1 ≤ r ∧ r ≤ n ∧ (0 ≤ r → x.conf.length ≤ 1048576 ∧ x.left.length ≤ 1048576) ∧ PureFn Try.prog 15 [.agg (x.enc (.sh 1)), i64 n] [i64 r] := by
  obtain ⟨hx1, hx2, hx3⟩ := hx
  obtain ⟨r1, a1, a2, k1⟩ := szCommand_ok x.c hx1 n h0 h1
  simp only [Cmd.enc] at k1
  by_cases c1 : r1 < 0
  · refine ⟨-1, by omega, by omega, fun h => by omega, ?_⟩
    refine PureFn_of_Go Try.func15 rfl (by decide) mo (by decide +kernel) ?_
    simp only [Try.ntmps15, Try.results15, push_cast, Nat.reduceAdd, Nat.reduceSub, Nat.reduceMul, Nat.reduceLeDiff, Nat.reduceEqDiff, Nat.reduceLT, Int.reduceLT, Int.reduceLE, Int.reduceEq, Int.reduceNeg, Int.reduceToNat, Hap.enc]
    refine GoL_call rfl rfl k1 rfl rfl ?_
    simp only [Try.ntmps15, Try.results15, push_cast, Nat.reduceAdd, Nat.reduceSub, Nat.reduceMul, Nat.reduceLeDiff, Nat.reduceEqDiff, Nat.reduceLT, Int.reduceLT, Int.reduceLE, Int.reduceEq, Int.reduceNeg, Int.reduceToNat, c1]
  · obtain ⟨r2, b1, b2, b3, k2⟩ := szIntS_ok x.conf hx2 r1 a1 (by omega)
    by_cases c2 : r2 < 0
    · refine ⟨-1, by omega, by omega, fun h => by omega, ?_⟩
      refine PureFn_of_Go Try.func15 rfl (by decide) mo (by decide +kernel) ?_
      simp only [Try.ntmps15, Try.results15, push_cast, Nat.reduceAdd, Nat.reduceSub, Nat.reduceMul, Nat.reduceLeDiff, Nat.reduceEqDiff, Nat.reduceLT, Int.reduceLT, Int.reduceLE, Int.reduceEq, Int.reduceNeg, Int.reduceToNat, Hap.enc]
      refine GoL_call rfl rfl k1 rfl rfl ?_
      simp only [Try.ntmps15, Try.results15, push_cast, Nat.reduceAdd, Nat.reduceSub, Nat.reduceMul, Nat.reduceLeDiff, Nat.reduceEqDiff, Nat.reduceLT, Int.reduceLT, Int.reduceLE, Int.reduceEq, Int.reduceNeg, Int.reduceToNat, c1]
      refine GoL_call rfl rfl k2 rfl rfl ?_
      simp only [Try.ntmps15, Try.results15, push_cast, Nat.reduceAdd, Nat.reduceSub, Nat.reduceMul, Nat.reduceLeDiff, Nat.reduceEqDiff, Nat.reduceLT, Int.reduceLT, Int.reduceLE, Int.reduceEq, Int.reduceNeg, Int.reduceToNat, c2]
    · obtain ⟨r3, d1, d2, d3, k3⟩ := szIntS_ok x.left hx3 r2 b1 (by omega)
      by_cases c3 : r3 < 0
      · refine ⟨-1, by omega, by omega, fun h => by omega, ?_⟩
        refine PureFn_of_Go Try.func15 rfl (by decide) mo (by decide +kernel) ?_
        simp only [Try.ntmps15, Try.results15, push_cast, Nat.reduceAdd, Nat.reduceSub, Nat.reduceMul, Nat.reduceLeDiff, Nat.reduceEqDiff, Nat.reduceLT, Int.reduceLT, Int.reduceLE, Int.reduceEq, Int.reduceNeg, Int.reduceToNat, Hap.enc]
        refine GoL_call rfl rfl k1 rfl rfl ?_
        simp only [Try.ntmps15, Try.results15, push_cast, Nat.reduceAdd, Nat.reduceSub, Nat.reduceMul, Nat.reduceLeDiff, Nat.reduceEqDiff, Nat.reduceLT, Int.reduceLT, Int.reduceLE, Int.reduceEq, Int.reduceNeg, Int.reduceToNat, c1]
        refine GoL_call rfl rfl k2 rfl rfl ?_
        simp only [Try.ntmps15, Try.results15, push_cast, Nat.reduceAdd, Nat.reduceSub, Nat.reduceMul, Nat.reduceLeDiff, Nat.reduceEqDiff, Nat.reduceLT, Int.reduceLT, Int.reduceLE, Int.reduceEq, Int.reduceNeg, Int.reduceToNat, c2]
        refine GoL_call rfl rfl k3 rfl rfl ?_
        simp only [Try.ntmps15, Try.results15, push_cast, Nat.reduceAdd, Nat.reduceSub, Nat.reduceMul, Nat.reduceLeDiff, Nat.reduceEqDiff, Nat.reduceLT, Int.reduceLT, Int.reduceLE, Int.reduceEq, Int.reduceNeg, Int.reduceToNat, c3]
      · refine ⟨r3, by omega, by omega, fun h => ⟨b3 (by omega), d3 (by omega)⟩, ?_⟩
        refine PureFn_of_Go Try.func15 rfl (by decide) mo (by decide +kernel) ?_
        simp only [Try.ntmps15, Try.results15, push_cast, Nat.reduceAdd, Nat.reduceSub, Nat.reduceMul, Nat.reduceLeDiff, Nat.reduceEqDiff, Nat.reduceLT, Int.reduceLT, Int.reduceLE, Int.reduceEq, Int.reduceNeg, Int.reduceToNat, Hap.enc]
        refine GoL_call rfl rfl k1 rfl rfl ?_
        simp only [Try.ntmps15, Try.results15, push_cast, Nat.reduceAdd, Nat.reduceSub, Nat.reduceMul, Nat.reduceLeDiff, Nat.reduceEqDiff, Nat.reduceLT, Int.reduceLT, Int.reduceLE, Int.reduceEq, Int.reduceNeg, Int.reduceToNat, c1]
        refine GoL_call rfl rfl k2 rfl rfl ?_
        simp only [Try.ntmps15, Try.results15, push_cast, Nat.reduceAdd, Nat.reduceSub, Nat.reduceMul, Nat.reduceLeDiff, Nat.reduceEqDiff, Nat.reduceLT, Int.reduceLT, Int.reduceLE, Int.reduceEq, Int.reduceNeg, Int.reduceToNat, c2]
        refine GoL_call rfl rfl k3 rfl rfl ?_
        simp only [Try.ntmps15, Try.results15, push_cast, Nat.reduceAdd, Nat.reduceSub, Nat.reduceMul, Nat.reduceLeDiff, Nat.reduceEqDiff, Nat.reduceLT, Int.reduceLT, Int.reduceLE, Int.reduceEq, Int.reduceNeg, Int.reduceToNat, c3]
theorem toHappen_ok (x : Hap) (h1 : x.conf.length ≤ 1048576) (h2 : x.left.length ≤ 1048576) : PureFn Try.prog 17 [.agg (x.enc (.sh 1))] [.agg (x.enc (.own 1))] := by
  refine PureFn_of_Go Try.func17 rfl (by decide) mo (by decide +kernel) ?_
  have k1 := toCommand_ok x.c
  simp only [Cmd.enc] at k1
  have k2 := toIntS_ok x.conf h1
  have k3 := toIntS_ok x.left h2
  simp only [Try.ntmps17, Try.results17, push_cast, Nat.reduceAdd, Nat.reduceSub, Nat.reduceMul, Nat.reduceLeDiff, Nat.reduceEqDiff, Nat.reduceLT, Int.reduceLT, Int.reduceLE, Int.reduceEq, Int.reduceNeg, Int.reduceToNat, Hap.enc]
  refine GoL_call rfl rfl k1 rfl rfl ?_
  simp only [Try.ntmps17, Try.results17, push_cast, Nat.reduceAdd, Nat.reduceSub, Nat.reduceMul, Nat.reduceLeDiff, Nat.reduceEqDiff, Nat.reduceLT, Int.reduceLT, Int.reduceLE, Int.reduceEq, Int.reduceNeg, Int.reduceToNat]
  refine GoL_call rfl rfl k2 (by simp only [push_cast, Nat.reduceAdd, Nat.reduceSub, Nat.reduceMul, Nat.reduceLeDiff, Nat.reduceEqDiff, Nat.reduceLT, Int.reduceLT, Int.reduceLE, Int.reduceEq, Int.reduceNeg, Int.reduceToNat]) rfl ?_
  simp only [Try.ntmps17, Try.results17, push_cast, Nat.reduceAdd, Nat.reduceSub, Nat.reduceMul, Nat.reduceLeDiff, Nat.reduceEqDiff, Nat.reduceLT, Int.reduceLT, Int.reduceLE, Int.reduceEq, Int.reduceNeg, Int.reduceToNat, ints_length]
  refine GoL_call rfl rfl k3 (by simp only [push_cast, Nat.reduceAdd, Nat.reduceSub, Nat.reduceMul, Nat.reduceLeDiff, Nat.reduceEqDiff, Nat.reduceLT, Int.reduceLT, Int.reduceLE, Int.reduceEq, Int.reduceNeg, Int.reduceToNat]) rfl ?_
  simp only [Try.ntmps17, Try.results17, push_cast, Nat.reduceAdd, Nat.reduceSub, Nat.reduceMul, Nat.reduceLeDiff, Nat.reduceEqDiff, Nat.reduceLT, Int.reduceLT, Int.reduceLE, Int.reduceEq, Int.reduceNeg, Int.reduceToNat, ints_length]
theorem eqHappen_ok (x : Hap) (h1 : x.conf.length ≤ 1048576) (h2 : x.left.length ≤ 1048576) : PureFn Try.prog 19 [.agg (x.enc (.sh 1)), .agg (x.enc (.sh 1))] [bo true] := by
  refine PureFn_of_Go Try.func19 rfl (by decide) mo (by decide +kernel) ?_
  have k1 := eqCommand_ok x.c
  simp only [Cmd.enc] at k1
  have k2 := eqIntS_ok x.conf h1
  have k3 := eqIntS_ok x.left h2
  simp only [Try.ntmps19, Try.results19, push_cast, Nat.reduceAdd, Nat.reduceSub, Nat.reduceMul, Nat.reduceLeDiff, Nat.reduceEqDiff, Nat.reduceLT, Int.reduceLT, Int.reduceLE, Int.reduceEq, Int.reduceNeg, Int.reduceToNat, Hap.enc]
  refine GoL_call rfl rfl k1 rfl rfl ?_
  simp only [Try.ntmps19, Try.results19, push_cast, Nat.reduceAdd, Nat.reduceSub, Nat.reduceMul, Nat.reduceLeDiff, Nat.reduceEqDiff, Nat.reduceLT, Int.reduceLT, Int.reduceLE, Int.reduceEq, Int.reduceNeg, Int.reduceToNat]
  refine GoL_call rfl rfl k2 rfl rfl ?_
  simp only [Try.ntmps19, Try.results19, push_cast, Nat.reduceAdd, Nat.reduceSub, Nat.reduceMul, Nat.reduceLeDiff, Nat.reduceEqDiff, Nat.reduceLT, Int.reduceLT, Int.reduceLE, Int.reduceEq, Int.reduceNeg, Int.reduceToNat]
  refine GoL_call rfl rfl k3 rfl rfl ?_
  simp only [Try.ntmps19, Try.results19, push_cast, Nat.reduceAdd, Nat.reduceSub, Nat.reduceMul, Nat.reduceLeDiff, Nat.reduceEqDiff, Nat.reduceLT, Int.reduceLT, Int.reduceLE, Int.reduceEq, Int.reduceNeg, Int.reduceToNat]

def cwB (l : List Int) (n : Int) : Bool := confB l && decide (Go.Proofs.Ytadbfhgeekpdgaa.at_ l (l.length - 1) ≤ n)
theorem confB_pos {l : List Int} (h : confB l = true) : 0 < l.length := by
  simp only [confB, Bool.and_eq_true, decide_eq_true_eq] at h; omega
theorem confWithin_ok (l : List Int) (n : Int) (hl : l.length ≤ 140737488355328) : PureFn Try.prog 59 [.one (.sh 1 (vR (ints l))), i64 n] [bo (cwB l n)] := by
  refine PureFn_of_Go Try.func59 rfl (by decide) mo (by decide +kernel) ?_
  have k := confOkI_ok l hl
  unfold cwB
  simp only [Try.ntmps59, Try.results59, push_cast, Nat.reduceAdd, Nat.reduceSub, Nat.reduceMul, Nat.reduceLeDiff, Nat.reduceEqDiff, Nat.reduceLT, Int.reduceLT, Int.reduceLE, Int.reduceEq, Int.reduceNeg, Int.reduceToNat]
  refine GoL_call rfl rfl k rfl rfl ?_
  cases c : confB l with
  | false => simp only [Try.ntmps59, Try.results59, push_cast, Nat.reduceAdd, Nat.reduceSub, Nat.reduceMul, Nat.reduceLeDiff, Nat.reduceEqDiff, Nat.reduceLT, Int.reduceLT, Int.reduceLE, Int.reduceEq, Int.reduceNeg, Int.reduceToNat]
  | true =>
    have hp := confB_pos c
    have hpi : l.length - 1 < l.length := by omega
    have hg := ints_getD l hpi
    rw [show l.getD (l.length - 1) default = Go.Proofs.Ytadbfhgeekpdgaa.at_ l (l.length - 1) from rfl] at hg
    have wp : IntKind.i64.wrap ((l.length : Int) - 1) = ((l.length - 1 : Nat) : Int) := wN (by omega) (by omega)
    obtain ⟨p, hp⟩ : ∃ p, p = l.length - 1 := ⟨_, rfl⟩
    rw [← hp] at hg wp hpi ⊢
    have hpl : (p : Int) < (l.length : Int) := by omega
    simp only [Try.ntmps59, Try.results59, push_cast, Nat.reduceAdd, Nat.reduceSub, Nat.reduceMul, Nat.reduceLeDiff, Nat.reduceEqDiff, Nat.reduceLT, Int.reduceLT, Int.reduceLE, Int.reduceEq, Int.reduceNeg, Int.reduceToNat, ints_length, wp, hpi, hpl, vR_getD, hg]
def hoB (n : Int) (x : Hap) : Bool := ((((inR n 1 4 && inR x.kind 1 9) && inR x.node 1 n) && !decide (x.at_ < 0)) && !decide ((30 : Int) < (x.left.length : Int))) &&
  (if decide (x.kind = 1) || decide (x.kind = 9) then inR x.limit 1 20 else if decide (x.kind = 5) then cokB x.c else if decide (x.kind = 6) then cwB x.conf n else true)
theorem happenOkI_ok (n : Int) (x : Hap) (hx : x.Ok) : PureFn Try.prog 18 [i64 n, .agg (x.enc (.sh 1))] [bo (hoB n x)] := by
  obtain ⟨hx1, hx2, hx3⟩ := hx
  refine PureFn_of_Go Try.func18 rfl (by decide) mo (by decide +kernel) ?_
  have k1 := isNode_ok n
  have k2 := inRange_ok x.kind 1 9
  have k3 := inRange_ok x.node 1 n
  have k4 := inRange_ok x.limit 1 20
  have k5 := commandOkI_ok x.c hx1
  have k6 := confWithin_ok x.conf n hx2
  rw [show (decide (1 ≤ x.kind) && decide (x.kind ≤ 9)) = inR x.kind 1 9 from rfl] at k2
  rw [show (decide (1 ≤ x.node) && decide (x.node ≤ n)) = inR x.node 1 n from rfl] at k3
  rw [show (decide (1 ≤ x.limit) && decide (x.limit ≤ 20)) = inR x.limit 1 20 from rfl] at k4
  simp only [Cmd.enc] at k5
  unfold hoB
  simp only [Try.ntmps18, Try.results18, push_cast, Nat.reduceAdd, Nat.reduceSub, Nat.reduceMul, Nat.reduceLeDiff, Nat.reduceEqDiff, Nat.reduceLT, Int.reduceLT, Int.reduceLE, Int.reduceEq, Int.reduceNeg, Int.reduceToNat, Hap.enc]
  refine GoL_call rfl rfl k1 rfl rfl ?_
  cases c1 : inR n 1 4 with
  | false => simp only [Try.ntmps18, Try.results18, push_cast, Nat.reduceAdd, Nat.reduceSub, Nat.reduceMul, Nat.reduceLeDiff, Nat.reduceEqDiff, Nat.reduceLT, Int.reduceLT, Int.reduceLE, Int.reduceEq, Int.reduceNeg, Int.reduceToNat]
  | true =>
  simp only [Try.ntmps18, Try.results18, push_cast, Nat.reduceAdd, Nat.reduceSub, Nat.reduceMul, Nat.reduceLeDiff, Nat.reduceEqDiff, Nat.reduceLT, Int.reduceLT, Int.reduceLE, Int.reduceEq, Int.reduceNeg, Int.reduceToNat]
  refine GoL_call rfl rfl k2 rfl rfl ?_
  cases c2 : inR x.kind 1 9 with
  | false => simp only [Try.ntmps18, Try.results18, push_cast, Nat.reduceAdd, Nat.reduceSub, Nat.reduceMul, Nat.reduceLeDiff, Nat.reduceEqDiff, Nat.reduceLT, Int.reduceLT, Int.reduceLE, Int.reduceEq, Int.reduceNeg, Int.reduceToNat]
  | true =>
  simp only [Try.ntmps18, Try.results18, push_cast, Nat.reduceAdd, Nat.reduceSub, Nat.reduceMul, Nat.reduceLeDiff, Nat.reduceEqDiff, Nat.reduceLT, Int.reduceLT, Int.reduceLE, Int.reduceEq, Int.reduceNeg, Int.reduceToNat]
  refine GoL_call rfl rfl k3 rfl rfl ?_
  cases c3 : inR x.node 1 n with
  | false => simp only [Try.ntmps18, Try.results18, push_cast, Nat.reduceAdd, Nat.reduceSub, Nat.reduceMul, Nat.reduceLeDiff, Nat.reduceEqDiff, Nat.reduceLT, Int.reduceLT, Int.reduceLE, Int.reduceEq, Int.reduceNeg, Int.reduceToNat]
  | true =>
  cases c4 : decide (x.at_ < 0) with
  | true => simp only [Try.ntmps18, Try.results18, push_cast, Nat.reduceAdd, Nat.reduceSub, Nat.reduceMul, Nat.reduceLeDiff, Nat.reduceEqDiff, Nat.reduceLT, Int.reduceLT, Int.reduceLE, Int.reduceEq, Int.reduceNeg, Int.reduceToNat, c4]
  | false =>
  cases c5 : decide ((30 : Int) < (x.left.length : Int)) with
  | true => simp only [Try.ntmps18, Try.results18, push_cast, Nat.reduceAdd, Nat.reduceSub, Nat.reduceMul, Nat.reduceLeDiff, Nat.reduceEqDiff, Nat.reduceLT, Int.reduceLT, Int.reduceLE, Int.reduceEq, Int.reduceNeg, Int.reduceToNat, ints_length, c4, c5]
  | false =>
  cases e1 : decide (x.kind = 1) with
  | true =>
    simp only [Try.ntmps18, Try.results18, push_cast, Nat.reduceAdd, Nat.reduceSub, Nat.reduceMul, Nat.reduceLeDiff, Nat.reduceEqDiff, Nat.reduceLT, Int.reduceLT, Int.reduceLE, Int.reduceEq, Int.reduceNeg, Int.reduceToNat, ints_length, c4, c5, e1]
    refine GoL_call rfl rfl k4 rfl rfl ?_
    simp only [Try.ntmps18, Try.results18, push_cast, Nat.reduceAdd, Nat.reduceSub, Nat.reduceMul, Nat.reduceLeDiff, Nat.reduceEqDiff, Nat.reduceLT, Int.reduceLT, Int.reduceLE, Int.reduceEq, Int.reduceNeg, Int.reduceToNat]
  | false =>
  cases e9 : decide (x.kind = 9) with
  | true =>
    simp only [Try.ntmps18, Try.results18, push_cast, Nat.reduceAdd, Nat.reduceSub, Nat.reduceMul, Nat.reduceLeDiff, Nat.reduceEqDiff, Nat.reduceLT, Int.reduceLT, Int.reduceLE, Int.reduceEq, Int.reduceNeg, Int.reduceToNat, ints_length, c4, c5, e1, e9]
    refine GoL_call rfl rfl k4 rfl rfl ?_
    simp only [Try.ntmps18, Try.results18, push_cast, Nat.reduceAdd, Nat.reduceSub, Nat.reduceMul, Nat.reduceLeDiff, Nat.reduceEqDiff, Nat.reduceLT, Int.reduceLT, Int.reduceLE, Int.reduceEq, Int.reduceNeg, Int.reduceToNat]
  | false =>
  cases e5 : decide (x.kind = 5) with
  | true =>
    simp only [Try.ntmps18, Try.results18, push_cast, Nat.reduceAdd, Nat.reduceSub, Nat.reduceMul, Nat.reduceLeDiff, Nat.reduceEqDiff, Nat.reduceLT, Int.reduceLT, Int.reduceLE, Int.reduceEq, Int.reduceNeg, Int.reduceToNat, ints_length, c4, c5, e1, e9, e5]
    refine GoL_call rfl rfl k5 rfl rfl ?_
    simp only [Try.ntmps18, Try.results18, push_cast, Nat.reduceAdd, Nat.reduceSub, Nat.reduceMul, Nat.reduceLeDiff, Nat.reduceEqDiff, Nat.reduceLT, Int.reduceLT, Int.reduceLE, Int.reduceEq, Int.reduceNeg, Int.reduceToNat]
  | false =>
  cases e6 : decide (x.kind = 6) with
  | true =>
    simp only [Try.ntmps18, Try.results18, push_cast, Nat.reduceAdd, Nat.reduceSub, Nat.reduceMul, Nat.reduceLeDiff, Nat.reduceEqDiff, Nat.reduceLT, Int.reduceLT, Int.reduceLE, Int.reduceEq, Int.reduceNeg, Int.reduceToNat, ints_length, c4, c5, e1, e9, e5, e6]
    refine GoL_call rfl rfl k6 rfl rfl ?_
    simp only [Try.ntmps18, Try.results18, push_cast, Nat.reduceAdd, Nat.reduceSub, Nat.reduceMul, Nat.reduceLeDiff, Nat.reduceEqDiff, Nat.reduceLT, Int.reduceLT, Int.reduceLE, Int.reduceEq, Int.reduceNeg, Int.reduceToNat]
  | false =>
    simp only [Try.ntmps18, Try.results18, push_cast, Nat.reduceAdd, Nat.reduceSub, Nat.reduceMul, Nat.reduceLeDiff, Nat.reduceEqDiff, Nat.reduceLT, Int.reduceLT, Int.reduceLE, Int.reduceEq, Int.reduceNeg, Int.reduceToNat, ints_length, c4, c5, e1, e9, e5, e6]
theorem happenOkS_ok (n : Int) (x : Hap) (hx : x.Ok) : PureFn Try.prog 16 [i64 n, .agg (x.enc (.sh 1))] [bo (hoB n x)] := by
  obtain ⟨hx1, hx2, hx3⟩ := hx
  refine PureFn_of_Go Try.func16 rfl (by decide) mo (by decide +kernel) ?_
  have k1 := l01In_ok n 1 4
  have k2 := l01In_ok x.kind 1 9
  have k3 := l01In_ok x.node 1 n
  have k4 := l01In_ok x.limit 1 20
  have k5 := commandOkS_ok x.c hx1
  have k6 := confOkS_ok x.conf hx2
  rw [show (decide (1 ≤ n) && decide (n ≤ 4)) = inR n 1 4 from rfl] at k1
  rw [show (decide (1 ≤ x.kind) && decide (x.kind ≤ 9)) = inR x.kind 1 9 from rfl] at k2
  rw [show (decide (1 ≤ x.node) && decide (x.node ≤ n)) = inR x.node 1 n from rfl] at k3
  rw [show (decide (1 ≤ x.limit) && decide (x.limit ≤ 20)) = inR x.limit 1 20 from rfl] at k4
  simp only [Cmd.enc] at k5
  unfold hoB
  simp only [Try.ntmps16, Try.results16, push_cast, Nat.reduceAdd, Nat.reduceSub, Nat.reduceMul, Nat.reduceLeDiff, Nat.reduceEqDiff, Nat.reduceLT, Int.reduceLT, Int.reduceLE, Int.reduceEq, Int.reduceNeg, Int.reduceToNat, Hap.enc]
  refine GoL_call rfl rfl k1 rfl rfl ?_
  cases c1 : inR n 1 4 with
  | false => simp only [Try.ntmps16, Try.results16, push_cast, Nat.reduceAdd, Nat.reduceSub, Nat.reduceMul, Nat.reduceLeDiff, Nat.reduceEqDiff, Nat.reduceLT, Int.reduceLT, Int.reduceLE, Int.reduceEq, Int.reduceNeg, Int.reduceToNat]
  | true =>
  simp only [Try.ntmps16, Try.results16, push_cast, Nat.reduceAdd, Nat.reduceSub, Nat.reduceMul, Nat.reduceLeDiff, Nat.reduceEqDiff, Nat.reduceLT, Int.reduceLT, Int.reduceLE, Int.reduceEq, Int.reduceNeg, Int.reduceToNat]
  refine GoL_call rfl rfl k2 rfl rfl ?_
  cases c2 : inR x.kind 1 9 with
  | false => simp only [Try.ntmps16, Try.results16, push_cast, Nat.reduceAdd, Nat.reduceSub, Nat.reduceMul, Nat.reduceLeDiff, Nat.reduceEqDiff, Nat.reduceLT, Int.reduceLT, Int.reduceLE, Int.reduceEq, Int.reduceNeg, Int.reduceToNat]
  | true =>
  simp only [Try.ntmps16, Try.results16, push_cast, Nat.reduceAdd, Nat.reduceSub, Nat.reduceMul, Nat.reduceLeDiff, Nat.reduceEqDiff, Nat.reduceLT, Int.reduceLT, Int.reduceLE, Int.reduceEq, Int.reduceNeg, Int.reduceToNat]
  refine GoL_call rfl rfl k3 rfl rfl ?_
  cases c3 : inR x.node 1 n with
  | false => simp only [Try.ntmps16, Try.results16, push_cast, Nat.reduceAdd, Nat.reduceSub, Nat.reduceMul, Nat.reduceLeDiff, Nat.reduceEqDiff, Nat.reduceLT, Int.reduceLT, Int.reduceLE, Int.reduceEq, Int.reduceNeg, Int.reduceToNat]
  | true =>
  cases c4 : decide (x.at_ < 0) with
  | true => simp only [Try.ntmps16, Try.results16, push_cast, Nat.reduceAdd, Nat.reduceSub, Nat.reduceMul, Nat.reduceLeDiff, Nat.reduceEqDiff, Nat.reduceLT, Int.reduceLT, Int.reduceLE, Int.reduceEq, Int.reduceNeg, Int.reduceToNat, c4]
  | false =>
  cases c5 : decide ((30 : Int) < (x.left.length : Int)) with
  | true => simp only [Try.ntmps16, Try.results16, push_cast, Nat.reduceAdd, Nat.reduceSub, Nat.reduceMul, Nat.reduceLeDiff, Nat.reduceEqDiff, Nat.reduceLT, Int.reduceLT, Int.reduceLE, Int.reduceEq, Int.reduceNeg, Int.reduceToNat, ints_length, c4, c5]
  | false =>
  cases e1 : decide (x.kind = 1) with
  | true =>
    simp only [Try.ntmps16, Try.results16, push_cast, Nat.reduceAdd, Nat.reduceSub, Nat.reduceMul, Nat.reduceLeDiff, Nat.reduceEqDiff, Nat.reduceLT, Int.reduceLT, Int.reduceLE, Int.reduceEq, Int.reduceNeg, Int.reduceToNat, ints_length, c4, c5, e1]
    refine GoL_call rfl rfl k4 rfl rfl ?_
    simp only [Try.ntmps16, Try.results16, push_cast, Nat.reduceAdd, Nat.reduceSub, Nat.reduceMul, Nat.reduceLeDiff, Nat.reduceEqDiff, Nat.reduceLT, Int.reduceLT, Int.reduceLE, Int.reduceEq, Int.reduceNeg, Int.reduceToNat]
  | false =>
  cases e9 : decide (x.kind = 9) with
  | true =>
    simp only [Try.ntmps16, Try.results16, push_cast, Nat.reduceAdd, Nat.reduceSub, Nat.reduceMul, Nat.reduceLeDiff, Nat.reduceEqDiff, Nat.reduceLT, Int.reduceLT, Int.reduceLE, Int.reduceEq, Int.reduceNeg, Int.reduceToNat, ints_length, c4, c5, e1, e9]
    refine GoL_call rfl rfl k4 rfl rfl ?_
    simp only [Try.ntmps16, Try.results16, push_cast, Nat.reduceAdd, Nat.reduceSub, Nat.reduceMul, Nat.reduceLeDiff, Nat.reduceEqDiff, Nat.reduceLT, Int.reduceLT, Int.reduceLE, Int.reduceEq, Int.reduceNeg, Int.reduceToNat]
  | false =>
  cases e5 : decide (x.kind = 5) with
  | true =>
    simp only [Try.ntmps16, Try.results16, push_cast, Nat.reduceAdd, Nat.reduceSub, Nat.reduceMul, Nat.reduceLeDiff, Nat.reduceEqDiff, Nat.reduceLT, Int.reduceLT, Int.reduceLE, Int.reduceEq, Int.reduceNeg, Int.reduceToNat, ints_length, c4, c5, e1, e9, e5]
    refine GoL_call rfl rfl k5 rfl rfl ?_
    simp only [Try.ntmps16, Try.results16, push_cast, Nat.reduceAdd, Nat.reduceSub, Nat.reduceMul, Nat.reduceLeDiff, Nat.reduceEqDiff, Nat.reduceLT, Int.reduceLT, Int.reduceLE, Int.reduceEq, Int.reduceNeg, Int.reduceToNat]
  | false =>
  cases e6 : decide (x.kind = 6) with
  | true =>
    unfold cwB
    simp only [Try.ntmps16, Try.results16, push_cast, Nat.reduceAdd, Nat.reduceSub, Nat.reduceMul, Nat.reduceLeDiff, Nat.reduceEqDiff, Nat.reduceLT, Int.reduceLT, Int.reduceLE, Int.reduceEq, Int.reduceNeg, Int.reduceToNat, ints_length, c4, c5, e1, e9, e5, e6]
    refine GoL_call rfl rfl k6 rfl rfl ?_
    cases c : confB x.conf with
    | false => simp only [Try.ntmps16, Try.results16, push_cast, Nat.reduceAdd, Nat.reduceSub, Nat.reduceMul, Nat.reduceLeDiff, Nat.reduceEqDiff, Nat.reduceLT, Int.reduceLT, Int.reduceLE, Int.reduceEq, Int.reduceNeg, Int.reduceToNat]
    | true =>
      have hp := confB_pos c
      have hpi : x.conf.length - 1 < x.conf.length := by omega
      have hg := ints_getD x.conf hpi
      rw [show x.conf.getD (x.conf.length - 1) default = Go.Proofs.Ytadbfhgeekpdgaa.at_ x.conf (x.conf.length - 1) from rfl] at hg
      have wp : IntKind.i64.wrap ((x.conf.length : Int) - 1) = ((x.conf.length - 1 : Nat) : Int) := wN (by omega) (by omega)
      obtain ⟨p, hp⟩ : ∃ p, p = x.conf.length - 1 := ⟨_, rfl⟩
      rw [← hp] at hg wp hpi ⊢
      have hpl : (p : Int) < (x.conf.length : Int) := by omega
      simp only [Try.ntmps16, Try.results16, push_cast, Nat.reduceAdd, Nat.reduceSub, Nat.reduceMul, Nat.reduceLeDiff, Nat.reduceEqDiff, Nat.reduceLT, Int.reduceLT, Int.reduceLE, Int.reduceEq, Int.reduceNeg, Int.reduceToNat, ints_length, wp, hpi, hpl, vR_getD, hg]
  | false =>
    simp only [Try.ntmps16, Try.results16, push_cast, Nat.reduceAdd, Nat.reduceSub, Nat.reduceMul, Nat.reduceLeDiff, Nat.reduceEqDiff, Nat.reduceLT, Int.reduceLT, Int.reduceLE, Int.reduceEq, Int.reduceNeg, Int.reduceToNat, ints_length, c4, c5, e1, e9, e5, e6]
theorem lawHappenOk_ok (n : Int) (x : Hap) (hx : x.Ok) : PureFn Try.prog 5 [i64 n, .agg (x.enc (.sh 1))] [bo true] := by
  refine PureFn_of_Go Try.func5 rfl (by decide) mo (by decide +kernel) ?_
  obtain ⟨r, a1, a2, a3, k0⟩ := szHappen_ok x hx 1048576 (by decide) (by decide)
  have k1 := happenOkS_ok n x hx
  have k2 := happenOkI_ok n x hx
  obtain ⟨b, hb⟩ : ∃ b, b = hoB n x := ⟨_, rfl⟩
  rw [← hb] at k1 k2
  simp only [Hap.enc] at k0 k1 k2
  by_cases c0 : r < 0
  · simp only [Try.ntmps5, Try.results5, push_cast, Nat.reduceAdd, Nat.reduceSub, Nat.reduceMul, Nat.reduceLeDiff, Nat.reduceEqDiff, Nat.reduceLT, Int.reduceLT, Int.reduceLE, Int.reduceEq, Int.reduceNeg, Int.reduceToNat, Hap.enc]
    refine GoL_call rfl rfl k0 rfl rfl ?_
    simp only [Try.ntmps5, Try.results5, push_cast, Nat.reduceAdd, Nat.reduceSub, Nat.reduceMul, Nat.reduceLeDiff, Nat.reduceEqDiff, Nat.reduceLT, Int.reduceLT, Int.reduceLE, Int.reduceEq, Int.reduceNeg, Int.reduceToNat, c0]
  · obtain ⟨l1, l2⟩ := a3 (by omega)
    have k3 := toHappen_ok x l1 l2
    have k4 := eqHappen_ok x l1 l2
    simp only [Hap.enc] at k3 k4
    simp only [Try.ntmps5, Try.results5, push_cast, Nat.reduceAdd, Nat.reduceSub, Nat.reduceMul, Nat.reduceLeDiff, Nat.reduceEqDiff, Nat.reduceLT, Int.reduceLT, Int.reduceLE, Int.reduceEq, Int.reduceNeg, Int.reduceToNat, Hap.enc]
    refine GoL_call rfl rfl k0 rfl rfl ?_
    simp only [Try.ntmps5, Try.results5, push_cast, Nat.reduceAdd, Nat.reduceSub, Nat.reduceMul, Nat.reduceLeDiff, Nat.reduceEqDiff, Nat.reduceLT, Int.reduceLT, Int.reduceLE, Int.reduceEq, Int.reduceNeg, Int.reduceToNat, c0]
    refine GoL_call rfl rfl k3 (by simp only [push_cast, Nat.reduceAdd, Nat.reduceSub, Nat.reduceMul, Nat.reduceLeDiff, Nat.reduceEqDiff, Nat.reduceLT, Int.reduceLT, Int.reduceLE, Int.reduceEq, Int.reduceNeg, Int.reduceToNat]) rfl ?_
    simp only [Try.ntmps5, Try.results5, push_cast, Nat.reduceAdd, Nat.reduceSub, Nat.reduceMul, Nat.reduceLeDiff, Nat.reduceEqDiff, Nat.reduceLT, Int.reduceLT, Int.reduceLE, Int.reduceEq, Int.reduceNeg, Int.reduceToNat, ints_length]
    refine GoL_call rfl (by simp only [push_cast, Nat.reduceAdd, Nat.reduceSub, Nat.reduceMul, Nat.reduceLeDiff, Nat.reduceEqDiff, Nat.reduceLT, Int.reduceLT, Int.reduceLE, Int.reduceEq, Int.reduceNeg, Int.reduceToNat, ints_take]) k1 rfl rfl ?_
    simp only [Try.ntmps5, Try.results5, push_cast, Nat.reduceAdd, Nat.reduceSub, Nat.reduceMul, Nat.reduceLeDiff, Nat.reduceEqDiff, Nat.reduceLT, Int.reduceLT, Int.reduceLE, Int.reduceEq, Int.reduceNeg, Int.reduceToNat, ints_length]
    refine GoL_call rfl rfl k3 (by simp only [push_cast, Nat.reduceAdd, Nat.reduceSub, Nat.reduceMul, Nat.reduceLeDiff, Nat.reduceEqDiff, Nat.reduceLT, Int.reduceLT, Int.reduceLE, Int.reduceEq, Int.reduceNeg, Int.reduceToNat]) rfl ?_
    simp only [Try.ntmps5, Try.results5, push_cast, Nat.reduceAdd, Nat.reduceSub, Nat.reduceMul, Nat.reduceLeDiff, Nat.reduceEqDiff, Nat.reduceLT, Int.reduceLT, Int.reduceLE, Int.reduceEq, Int.reduceNeg, Int.reduceToNat, ints_length]
    refine GoL_call rfl (by simp only [push_cast, Nat.reduceAdd, Nat.reduceSub, Nat.reduceMul, Nat.reduceLeDiff, Nat.reduceEqDiff, Nat.reduceLT, Int.reduceLT, Int.reduceLE, Int.reduceEq, Int.reduceNeg, Int.reduceToNat, ints_take]) k2 rfl rfl ?_
    simp only [Try.ntmps5, Try.results5, push_cast, Nat.reduceAdd, Nat.reduceSub, Nat.reduceMul, Nat.reduceLeDiff, Nat.reduceEqDiff, Nat.reduceLT, Int.reduceLT, Int.reduceLE, Int.reduceEq, Int.reduceNeg, Int.reduceToNat, ints_length]
    refine GoD_call rfl rfl k3 (by simp only [push_cast, Nat.reduceAdd, Nat.reduceSub, Nat.reduceMul, Nat.reduceLeDiff, Nat.reduceEqDiff, Nat.reduceLT, Int.reduceLT, Int.reduceLE, Int.reduceEq, Int.reduceNeg, Int.reduceToNat]) rfl ?_
    simp only [Try.ntmps5, Try.results5, push_cast, Nat.reduceAdd, Nat.reduceSub, Nat.reduceMul, Nat.reduceLeDiff, Nat.reduceEqDiff, Nat.reduceLT, Int.reduceLT, Int.reduceLE, Int.reduceEq, Int.reduceNeg, Int.reduceToNat, ints_length]
    refine GoD_call rfl (by simp only [push_cast, Nat.reduceAdd, Nat.reduceSub, Nat.reduceMul, Nat.reduceLeDiff, Nat.reduceEqDiff, Nat.reduceLT, Int.reduceLT, Int.reduceLE, Int.reduceEq, Int.reduceNeg, Int.reduceToNat, ints_take]) k4 rfl rfl ?_
    simp only [Try.ntmps5, Try.results5, push_cast, Nat.reduceAdd, Nat.reduceSub, Nat.reduceMul, Nat.reduceLeDiff, Nat.reduceEqDiff, Nat.reduceLT, Int.reduceLT, Int.reduceLE, Int.reduceEq, Int.reduceNeg, Int.reduceToNat]
theorem Hap.dec (r : List C) (h : HasKt (.st [.int .i64, .int .i64, .int .i64, .int .i64, .st [.int .i64, .int .i64, .int .i64, .str, .str, .int .i64, .int .i64, .bool], .sl 1 8 (.int .i64), .bool, .int .i64, .sl 1 8 (.int .i64)]) r) : ∃ x : Hap, r = x.enc (.sh 1) ∧ x.Ok := by
  simp only [HasKt, HasKts, reachBytes] at h
  obtain ⟨_, _, rfl, ⟨a, rfl, _⟩, _, _, rfl, ⟨b, rfl, _⟩, _, _, rfl, ⟨c, rfl, _⟩, _, _, rfl, ⟨c2, rfl, _⟩, _, _, rfl,
    ⟨_, _, rfl, ⟨d, rfl, _⟩, _, _, rfl, ⟨e, rfl, _⟩, _, _, rfl, ⟨f, rfl, _⟩, _, _, rfl, ⟨g, rfl, hg⟩, _, _, rfl, ⟨i, rfl, hi⟩, _, _, rfl, ⟨j, rfl, _⟩, _, _, rfl, ⟨k, rfl, _⟩, _, _, rfl, ⟨l, rfl⟩, rfl⟩,
    _, _, rfl, ⟨R1, rfl, hR1, _, hr1⟩, _, _, rfl, ⟨n, rfl⟩, _, _, rfl, ⟨o, rfl, _⟩, _, _, rfl, ⟨R2, rfl, hR2, _, hr2⟩, rfl⟩ := h
  obtain ⟨xs, rfl⟩ := ints_dec R1 hr1
  obtain ⟨ys, rfl⟩ := ints_dec R2 hr2
  rw [vR_length, ints_length] at hR1 hR2
  exact ⟨⟨a, b, c, c2, ⟨d, e, f, g, i, j, k, l⟩, xs, n, o, ys⟩, rfl, ⟨Nat.le_trans hg (by decide), Nat.le_trans hi (by decide)⟩, by simp only; omega, by simp only; omega⟩
theorem lawHappenOk (xs : List X) (h : HasXs [.int .i64, .st [.int .i64, .int .i64, .int .i64, .int .i64, .st [.int .i64, .int .i64, .int .i64, .str, .str, .int .i64, .int .i64, .bool], .sl 1 8 (.int .i64), .bool, .int .i64, .sl 1 8 (.int .i64)]] xs) : PureFn Try.prog 5 xs [.one (.v (.bool true))] := by
  obtain ⟨x, _, rfl, ⟨c, rfl, hc⟩, y, _, rfl, ⟨d, rfl, hd⟩, rfl⟩ := h
  simp only [HasKt] at hc
  obtain ⟨n, hn, _⟩ := hc
  cases hn
  obtain ⟨h, rfl, hk⟩ := Hap.dec _ hd
  exact lawHappenOk_ok n h hk
end Go.Proofs.Ytadbfhgeekpdgaa
