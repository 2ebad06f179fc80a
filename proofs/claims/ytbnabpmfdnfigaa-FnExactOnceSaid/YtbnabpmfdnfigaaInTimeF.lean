import Derived.Test.YtbnabpmfdnfigaaTy
import Derived.Test.YtbnabpmfdnfigaaRxX
namespace Go.Proofs.Ytbnabpmfdnfigaa
open Go.RowKit Go.Rx
abbrev i64 (n : Int) : X := .one (.v (.int .i64 n))
abbrev bo (b : Bool) : X := .one (.v (.bool b))
theorem mo : Try.prog.follows .mixedOrders = true := by kernel_rfl
set_option linter.unusedSimpArgs false

set_option maxRecDepth 100000 in
theorem inRange_ok (n a b : Int) : PureFn Try.prog 54 [i64 n, i64 a, i64 b] [bo (decide (a ≤ n) && decide (n ≤ b))] := by
  refine PureFn_of_Go Try.func54 rfl (by decide) mo (by decide +kernel) ?_
  simp only [Try.ntmps54, push_cast, Nat.reduceAdd, Nat.reduceSub, if_false]
  by_cases h : a ≤ n
  · simp [h, push_cast, resOk, Try.results54]
  · simp [h, push_cast, resOk, Try.results54]

structure Cmd where
  op : Int
  token : Int
  seq : Int
  text : ByteArray
  task : ByteArray
  num : Int
  to_ : Int
  yes : Bool
  deriving Inhabited
structure Rep where
  call : Int
  when_ : Int
  index : Int
  cmd : Cmd
  text : ByteArray
  deriving Inhabited
def Cmd.enc (x : Cmd) : List C := [.v (.int .i64 x.op), .v (.int .i64 x.token), .v (.int .i64 x.seq), .v (.string x.text), .v (.string x.task), .v (.int .i64 x.num), .v (.int .i64 x.to_), .v (.bool x.yes)]
def Rep.enc (x : Rep) : List C := .v (.int .i64 x.call) :: .v (.int .i64 x.when_) :: .v (.int .i64 x.index) :: (x.cmd.enc ++ [.v (.string x.text)])


abbrev bad : V := .x (.one .bad)
def bads (xs : List Rep) (i j : Nat) : Prop := (xs.getD j default).when_ < (xs.getD i default).call ∧ (xs.getD i default).index ≤ (xs.getD j default).index

theorem all_iff (xs : List Rep) : (∀ a ∈ xs, ∀ b ∈ xs, ¬ (b.when_ < a.call ∧ a.index ≤ b.index)) ↔ ∀ i, i < xs.length → ∀ j, j < xs.length → ¬ bads xs i j := by
  have hg : ∀ i, i < xs.length → xs.getD i default ∈ xs := fun i hi => by
    rw [List.getD_eq_getElem?_getD, List.getElem?_eq_getElem hi]; exact List.getElem_mem hi
  constructor
  · intro h i hi j hj; exact h _ (hg i hi) _ (hg j hj)
  · intro h a ha b hb
    obtain ⟨i, hi, rfl⟩ := List.getElem_of_mem ha
    obtain ⟨j, hj, rfl⟩ := List.getElem_of_mem hb
    have := h i hi j hj
    simpa [bads, List.getD_eq_getElem?_getD, List.getElem?_eq_getElem hi, List.getElem?_eq_getElem hj] using this


def Cmd.Ok (x : Cmd) : Prop := x.text.size ≤ 140737488355328 ∧ x.task.size ≤ 140737488355328
def szCmd (x : Cmd) (l : Int) : Int := if l - x.text.size < 0 then -1 else if l - x.text.size - x.task.size < 0 then -1 else l - x.text.size - x.task.size
theorem szCmd_le (x : Cmd) (l : Int) (hl : -1 ≤ l) : -1 ≤ szCmd x l ∧ szCmd x l ≤ l := by unfold szCmd; split <;> (try split) <;> omega
set_option maxRecDepth 100000 in
theorem szCommand_ok (x : Cmd) (hx : x.Ok) (l : Int) (hl : -1 ≤ l ∧ l ≤ 1048576) : PureFn Try.prog 63 [.agg x.enc, i64 l] [i64 (szCmd x l)] := by
  obtain ⟨h1, h2⟩ := hx
  have w1 := w64 (n := l - x.text.size) (by omega) (by omega)
  have w2 := w64 (n := l - x.text.size - x.task.size) (by omega) (by omega)
  refine PureFn_of_Go Try.func63 rfl (by decide) mo (by decide +kernel) ?_
  unfold szCmd
  by_cases c1 : l - x.text.size < 0
  · simp only [Try.ntmps63, push_cast, Nat.reduceAdd, Nat.reduceSub, Nat.reduceMul, Nat.reduceLeDiff, Nat.reduceEqDiff, Nat.reduceLT, Nat.zero_lt_one, Nat.zero_add, if_false, if_true, ne_eq, not_true_eq_false, decide_false, decide_true, Bool.not_true, Cmd.enc, resOk, Try.results63, w1, w2, c1]
  · by_cases c2 : l - x.text.size - x.task.size < 0
    · simp only [Try.ntmps63, push_cast, Nat.reduceAdd, Nat.reduceSub, Nat.reduceMul, Nat.reduceLeDiff, Nat.reduceEqDiff, Nat.reduceLT, Nat.zero_lt_one, Nat.zero_add, if_false, if_true, ne_eq, not_true_eq_false, decide_false, decide_true, Bool.not_true, Cmd.enc, resOk, Try.results63, w1, w2, c1, c2]
    · simp only [Try.ntmps63, push_cast, Nat.reduceAdd, Nat.reduceSub, Nat.reduceMul, Nat.reduceLeDiff, Nat.reduceEqDiff, Nat.reduceLT, Nat.zero_lt_one, Nat.zero_add, if_false, if_true, ne_eq, not_true_eq_false, decide_false, decide_true, Bool.not_true, Cmd.enc, resOk, Try.results63, w1, w2, c1, c2]
set_option maxRecDepth 100000 in
theorem toCommand_ok (x : Cmd) : PureFn Try.prog 64 [.agg x.enc] [.agg x.enc] := by
  refine PureFn_of_Go Try.func64 rfl (by decide) mo (by decide +kernel) ?_
  simp only [Try.ntmps64, push_cast, Nat.reduceAdd, Nat.reduceSub, Nat.reduceMul, Nat.reduceLeDiff, Nat.reduceEqDiff, Nat.reduceLT, Nat.zero_lt_one, Nat.zero_add, if_false, if_true, ne_eq, not_true_eq_false, decide_false, decide_true, Bool.not_true, Cmd.enc, resOk, Try.results64]
set_option maxRecDepth 100000 in
theorem eqCommand_ok (x : Cmd) : PureFn Try.prog 65 [.agg x.enc, .agg x.enc] [bo true] := by
  refine PureFn_of_Go Try.func65 rfl (by decide) mo (by decide +kernel) ?_
  simp only [Try.ntmps65, push_cast, Nat.reduceAdd, Nat.reduceSub, Nat.reduceMul, Nat.reduceLeDiff, Nat.reduceEqDiff, Nat.reduceLT, Nat.zero_lt_one, Nat.zero_add, if_false, if_true, ne_eq, not_true_eq_false, decide_false, decide_true, Bool.not_true, Cmd.enc, resOk, Try.results65]
def Rep.Ok (x : Rep) : Prop := x.cmd.Ok ∧ x.text.size ≤ 140737488355328
def szRep (x : Rep) (l : Int) : Int := if szCmd x.cmd l < 0 then -1 else if szCmd x.cmd l - x.text.size < 0 then -1 else szCmd x.cmd l - x.text.size
set_option maxRecDepth 100000 in
theorem toReply_ok (x : Rep) : PureFn Try.prog 41 [.agg x.enc] [.agg x.enc] := by
  have k := toCommand_ok x.cmd
  refine PureFn_of_Go Try.func41 rfl (by decide) mo (by decide +kernel) ?_
  simp only [Cmd.enc] at k
  simp only [Try.ntmps41, push_cast, Nat.reduceAdd, Nat.reduceSub, Nat.reduceMul, Nat.reduceLeDiff, Nat.reduceEqDiff, Nat.reduceLT, Nat.zero_lt_one, Nat.zero_add, if_false, if_true, ne_eq, not_true_eq_false, decide_false, decide_true, Bool.not_true, Cmd.enc, Rep.enc, resOk, Try.results41]
  refine GoL_call rfl rfl k rfl rfl ?_
  simp only [Try.ntmps41, push_cast, Nat.reduceAdd, Nat.reduceSub, Nat.reduceMul, Nat.reduceLeDiff, Nat.reduceEqDiff, Nat.reduceLT, Nat.zero_lt_one, Nat.zero_add, if_false, if_true, ne_eq, not_true_eq_false, decide_false, decide_true, Bool.not_true, Cmd.enc, Rep.enc, resOk, Try.results41]
set_option maxRecDepth 100000 in
theorem eqReply_ok (x : Rep) : PureFn Try.prog 42 [.agg x.enc, .agg x.enc] [bo true] := by
  have k := eqCommand_ok x.cmd
  simp only [Cmd.enc] at k
  refine PureFn_of_Go Try.func42 rfl (by decide) mo (by decide +kernel) ?_
  simp only [Try.ntmps42, push_cast, Nat.reduceAdd, Nat.reduceSub, Nat.reduceMul, Nat.reduceLeDiff, Nat.reduceEqDiff, Nat.reduceLT, Nat.zero_lt_one, Nat.zero_add, if_false, if_true, ne_eq, not_true_eq_false, decide_false, decide_true, Bool.not_true, Cmd.enc, Rep.enc, resOk, Try.results42]
  refine GoL_call rfl rfl k rfl rfl ?_
  simp only [Try.ntmps42, push_cast, Nat.reduceAdd, Nat.reduceSub, Nat.reduceMul, Nat.reduceLeDiff, Nat.reduceEqDiff, Nat.reduceLT, Nat.zero_lt_one, Nat.zero_add, if_false, if_true, ne_eq, not_true_eq_false, decide_false, decide_true, Bool.not_true, Cmd.enc, Rep.enc, resOk, Try.results42]
set_option maxRecDepth 100000 in
theorem szReply_ok (x : Rep) (hx : x.Ok) (l : Int) (hl : -1 ≤ l ∧ l ≤ 1048576) : PureFn Try.prog 40 [.agg x.enc, i64 l] [i64 (szRep x l)] := by
  obtain ⟨h1, h2⟩ := hx
  have k := szCommand_ok x.cmd h1 l hl
  have b := szCmd_le x.cmd l hl.1
  simp only [Cmd.enc] at k
  have w1 := w64 (n := szCmd x.cmd l - x.text.size) (by omega) (by omega)
  refine PureFn_of_Go Try.func40 rfl (by decide) mo (by decide +kernel) ?_
  unfold szRep
  simp only [Try.ntmps40, push_cast, Nat.reduceAdd, Nat.reduceSub, Nat.reduceMul, Nat.reduceLeDiff, Nat.reduceEqDiff, Nat.reduceLT, Nat.zero_lt_one, Nat.zero_add, if_false, if_true, ne_eq, not_true_eq_false, decide_false, decide_true, Bool.not_true, Cmd.enc, Rep.enc, resOk, Try.results40]
  refine GoL_call rfl rfl k rfl rfl ?_
  by_cases c1 : szCmd x.cmd l < 0
  · simp only [Try.ntmps40, push_cast, Nat.reduceAdd, Nat.reduceSub, Nat.reduceMul, Nat.reduceLeDiff, Nat.reduceEqDiff, Nat.reduceLT, Nat.zero_lt_one, Nat.zero_add, if_false, if_true, ne_eq, not_true_eq_false, decide_false, decide_true, Bool.not_true, Cmd.enc, Rep.enc, resOk, Try.results40, w1, c1]
  · by_cases c2 : szCmd x.cmd l - x.text.size < 0
    · simp only [Try.ntmps40, push_cast, Nat.reduceAdd, Nat.reduceSub, Nat.reduceMul, Nat.reduceLeDiff, Nat.reduceEqDiff, Nat.reduceLT, Nat.zero_lt_one, Nat.zero_add, if_false, if_true, ne_eq, not_true_eq_false, decide_false, decide_true, Bool.not_true, Cmd.enc, Rep.enc, resOk, Try.results40, w1, c1, c2]
    · simp only [Try.ntmps40, push_cast, Nat.reduceAdd, Nat.reduceSub, Nat.reduceMul, Nat.reduceLeDiff, Nat.reduceEqDiff, Nat.reduceLT, Nat.zero_lt_one, Nat.zero_add, if_false, if_true, ne_eq, not_true_eq_false, decide_false, decide_true, Bool.not_true, Cmd.enc, Rep.enc, resOk, Try.results40, w1, c1, c2]
def Cmd.zero : List C := [.v (.int .i64 0), .v (.int .i64 0), .v (.int .i64 0), .v (.string ⟨#[]⟩), .v (.string ⟨#[]⟩), .v (.int .i64 0), .v (.int .i64 0), .v (.bool false)]
def Rep.zero : List C := .v (.int .i64 0) :: .v (.int .i64 0) :: .v (.int .i64 0) :: (Cmd.zero ++ [.v (.string ⟨#[]⟩)])
theorem Rep.zero_eq : Rep.zero = [.v (.int .i64 0), .v (.int .i64 0), .v (.int .i64 0), .v (.int .i64 0), .v (.int .i64 0), .v (.int .i64 0), .v (.string ⟨#[]⟩), .v (.string ⟨#[]⟩), .v (.int .i64 0), .v (.int .i64 0), .v (.bool false), .v (.string ⟨#[]⟩)] := rfl
theorem wsucc {i n : Nat} (h : i < n) (hn : n ≤ 140737488355328) : IntKind.i64.wrap ((i : Int) + 1) = ((i + 1 : Nat) : Int) := by rw [IntKind.wrap_i64]; omega
theorem Rep.nr (x : Rep) : nrR x.enc = true := rfl
theorem Rep.po (x : Rep) : poR x.enc = true := rfl
theorem Rep.ts (x : Rep) : toShR x.enc = x.enc := rfl
set_option maxRecDepth 100000 in
theorem toReplyS_ok (xs : List Rep) (hx : xs.length ≤ 1048576) : PureFn Try.prog 16 [.one (.sh 12 (xs.map Rep.enc))] [.one (.own 12 (xs.map Rep.enc))] := by
  refine PureFn_of_Go Try.func16 rfl (by decide) mo (by decide +kernel) ?_
  have b1 : xs.length * 120 ≤ 281474976710656 := by omega
  have b2 : xs.length ≤ 9223372036854775807 := by omega
  simp only [Try.ntmps16, push_cast, Nat.reduceAdd, Nat.reduceSub, Nat.reduceMul, Nat.reduceLeDiff, Nat.reduceEqDiff, Nat.reduceLT, Nat.zero_lt_one, Nat.zero_add, if_false, if_true, ne_eq, not_true_eq_false, decide_false, decide_true, Bool.not_true, List.length_map, b1, b2]
  refine Go_loop (α := {i : Nat // i ≤ xs.length})
    (fun i => ⟨fr 23 [.x (.one (.sh 12 (xs.map Rep.enc))), bad, bad, .x (.one (.rs (0, 448) [] 12 0 xs.length)), int i.1], 0, [((0, 448), ⟨.sl, 12, fill Rep.enc xs Rep.zero i.1⟩)], []⟩) (fun i => xs.length - i.1) ⟨0, by omega⟩ ?_ ?_
  · rw [fill_zero]
    exact Weak.same (by simp only [fr, push_cast, Nat.reduceAdd, Nat.reduceSub, Nat.reduceMul, Nat.reduceLeDiff, Nat.reduceEqDiff, Nat.reduceLT, Nat.zero_lt_one, Nat.zero_add, if_false, if_true, ne_eq, not_true_eq_false, decide_false, decide_true, Bool.not_true])
  · rintro ⟨i, hi⟩ X hX
    by_cases hlt : (i : Int) < (xs.length : Int)
    · have hi' : i < xs.length := by omega
      have k := toReply_ok (xs.getD i default)
      have ws := wsucc hi' (by omega)
      have fs := fill_set Rep.enc xs Rep.zero i hi'
      have fg := (fill_get Rep.enc xs Rep.zero i hi').trans Rep.zero_eq
      simp only [Rep.enc, Cmd.enc, push_cast] at k fs
      simp only [fr, push_cast, Nat.reduceAdd, Nat.reduceSub, Nat.reduceMul, Nat.reduceLeDiff, Nat.reduceEqDiff, Nat.reduceLT, Nat.zero_lt_one, Nat.zero_add, if_false, if_true, ne_eq, not_true_eq_false, decide_false, decide_true, Bool.not_true, List.length_map, hlt, Int.natCast_nonneg, Int.toNat_natCast, getD_map _ xs i hi', Rep.enc, Cmd.enc, and_self]
      refine GoL_call rfl rfl k rfl rfl ?_
      simp only [fr, push_cast, Nat.reduceAdd, Nat.reduceSub, Nat.reduceMul, Nat.reduceLeDiff, Nat.reduceEqDiff, Nat.reduceLT, Nat.zero_lt_one, Nat.zero_add, if_false, if_true, ne_eq, not_true_eq_false, decide_false, decide_true, Bool.not_true, List.length_map, hlt, hi', Int.natCast_nonneg, Int.toNat_natCast, getD_map _ xs i hi', Rep.enc, Cmd.enc, and_self, fill_length _ _ _ _ hi, fg, fs, ws]
      refine ⟨_, ?_, hX ⟨i + 1, by omega⟩ (by simp only; omega)⟩
      exact Weak.same (by simp only [fr, push_cast, Nat.reduceAdd, Nat.reduceSub, Nat.reduceMul, Nat.reduceLeDiff, Nat.reduceEqDiff, Nat.reduceLT, Nat.zero_lt_one, Nat.zero_add, if_false, if_true, ne_eq, not_true_eq_false, decide_false, decide_true, Bool.not_true])
    · have : i = xs.length := by omega
      subst this
      simp only [fr, push_cast, Nat.reduceAdd, Nat.reduceSub, Nat.reduceMul, Nat.reduceLeDiff, Nat.reduceEqDiff, Nat.reduceLT, Nat.zero_lt_one, Nat.zero_add, if_false, if_true, ne_eq, not_true_eq_false, decide_false, decide_true, Bool.not_true, List.length_map, hlt, Int.natCast_nonneg, Int.toNat_natCast, fill_all, resOk, Try.results16, nrRR_map _ Rep.nr]
set_option maxRecDepth 100000 in
theorem eqReplyS_ok (xs : List Rep) (hx : xs.length ≤ 1048576) : PureFn Try.prog 18 [.one (.sh 12 (xs.map Rep.enc)), .one (.sh 12 (xs.map Rep.enc))] [bo true] := by
  refine PureFn_of_Go Try.func18 rfl (by decide) mo (by decide +kernel) ?_
  simp only [Try.ntmps18, push_cast, Nat.reduceAdd, Nat.reduceSub, Nat.reduceMul, Nat.reduceLeDiff, Nat.reduceEqDiff, Nat.reduceLT, Nat.zero_lt_one, Nat.zero_add, if_false, if_true, ne_eq, not_true_eq_false, decide_false, decide_true, Bool.not_true]
  refine Go_loop (α := {i : Nat // i ≤ xs.length})
    (fun i => ⟨fr 27 [.x (.one (.sh 12 (xs.map Rep.enc))), .x (.one (.sh 12 (xs.map Rep.enc))), bad, bad, bad, int i.1], 0, [], []⟩) (fun i => xs.length - i.1) ⟨0, by omega⟩ ?_ ?_
  · exact Weak.same (by simp only [fr, push_cast, Nat.reduceAdd, Nat.reduceSub, Nat.reduceMul, Nat.reduceLeDiff, Nat.reduceEqDiff, Nat.reduceLT, Nat.zero_lt_one, Nat.zero_add, if_false, if_true, ne_eq, not_true_eq_false, decide_false, decide_true, Bool.not_true])
  · rintro ⟨i, hi⟩ X hX
    by_cases hlt : (i : Int) < (xs.length : Int)
    · have hi' : i < xs.length := by omega
      have k := eqReply_ok (xs.getD i default)
      have ws := wsucc hi' (by omega)
      simp only [Rep.enc, Cmd.enc, push_cast] at k
      simp only [fr, push_cast, Nat.reduceAdd, Nat.reduceSub, Nat.reduceMul, Nat.reduceLeDiff, Nat.reduceEqDiff, Nat.reduceLT, Nat.zero_lt_one, Nat.zero_add, if_false, if_true, ne_eq, not_true_eq_false, decide_false, decide_true, Bool.not_true, List.length_map, hlt, Int.natCast_nonneg, Int.toNat_natCast, getD_map _ xs i hi', Rep.enc, Cmd.enc, and_self]
      refine GoD_call rfl rfl k rfl rfl ?_
      simp only [fr, push_cast, Nat.reduceAdd, Nat.reduceSub, Nat.reduceMul, Nat.reduceLeDiff, Nat.reduceEqDiff, Nat.reduceLT, Nat.zero_lt_one, Nat.zero_add, if_false, if_true, ne_eq, not_true_eq_false, decide_false, decide_true, Bool.not_true, List.length_map, hlt, hi', Int.natCast_nonneg, Int.toNat_natCast, ws]
      refine ⟨_, ?_, hX ⟨i + 1, by omega⟩ (by simp only; omega)⟩
      exact Weak.same (by simp only [fr, push_cast, Nat.reduceAdd, Nat.reduceSub, Nat.reduceMul, Nat.reduceLeDiff, Nat.reduceEqDiff, Nat.reduceLT, Nat.zero_lt_one, Nat.zero_add, if_false, if_true, ne_eq, not_true_eq_false, decide_false, decide_true, Bool.not_true])
    · simp only [fr, push_cast, Nat.reduceAdd, Nat.reduceSub, Nat.reduceMul, Nat.reduceLeDiff, Nat.reduceEqDiff, Nat.reduceLT, Nat.zero_lt_one, Nat.zero_add, if_false, if_true, ne_eq, not_true_eq_false, decide_false, decide_true, Bool.not_true, List.length_map, hlt, Int.natCast_nonneg, Int.toNat_natCast, fill_all, resOk, Try.results18]
def szReps : List Rep → Int → Int
  | [], l => l
  | x :: xs, l => if szRep x l < 0 then -1 else szReps xs (szRep x l)
theorem szRep_le (x : Rep) (l : Int) (hl : -1 ≤ l) : -1 ≤ szRep x l ∧ szRep x l ≤ l := by
  have := szCmd_le x.cmd l hl
  unfold szRep; split <;> (try split) <;> omega
theorem szReps_cons (x : Rep) (xs : List Rep) (l : Int) : szReps (x :: xs) l = if szRep x l < 0 then -1 else szReps xs (szRep x l) := rfl
theorem drop_getD {α : Type} [Inhabited α] (xs : List α) (i : Nat) (h : i < xs.length) : xs.drop i = xs.getD i default :: xs.drop (i + 1) := by
  rw [List.getD_eq_getElem?_getD, List.getElem?_eq_getElem h]; exact List.drop_eq_getElem_cons h
theorem getD_mem {α : Type} [Inhabited α] (xs : List α) (i : Nat) (h : i < xs.length) : xs.getD i default ∈ xs := by
  rw [List.getD_eq_getElem?_getD, List.getElem?_eq_getElem h]; exact List.getElem_mem h
set_option maxRecDepth 100000 in
theorem szReplyS_ok (xs : List Rep) (hx : xs.length ≤ 140737488355328) (ho : ∀ x ∈ xs, x.Ok) (l : Int) (hl : -1 ≤ l ∧ l ≤ 1048576) : PureFn Try.prog 14 [.one (.sh 12 (xs.map Rep.enc)), i64 l] [i64 (if l - xs.length < 0 then -1 else szReps xs (l - xs.length))] := by
  have w1 := w64 (n := l - xs.length) (by omega) (by omega)
  refine PureFn_of_Go Try.func14 rfl (by decide) mo (by decide +kernel) ?_
  by_cases c1 : l - xs.length < 0
  · simp only [Try.ntmps14, push_cast, Nat.reduceAdd, Nat.reduceSub, Nat.reduceMul, Nat.reduceLeDiff, Nat.reduceEqDiff, Nat.reduceLT, Nat.zero_lt_one, Nat.zero_add, if_false, if_true, ne_eq, not_true_eq_false, decide_false, decide_true, Bool.not_true, resOk, Try.results14, List.length_map, w1, c1]
  · simp only [Try.ntmps14, push_cast, Nat.reduceAdd, Nat.reduceSub, Nat.reduceMul, Nat.reduceLeDiff, Nat.reduceEqDiff, Nat.reduceLT, Nat.zero_lt_one, Nat.zero_add, if_false, if_true, ne_eq, not_true_eq_false, decide_false, decide_true, Bool.not_true, List.length_map, w1, c1]
    refine Go_loop (α := {p : Nat × Int // p.1 ≤ xs.length ∧ 0 ≤ p.2 ∧ p.2 ≤ 1048576 ∧ szReps (xs.drop p.1) p.2 = szReps xs (l - xs.length)})
      (fun p => ⟨fr 27 [.x (.one (.sh 12 (xs.map Rep.enc))), int p.1.2, bad, bad, bad, int p.1.1], 0, [], []⟩) (fun p => xs.length - p.1.1) ⟨(0, l - xs.length), by simp only; omega, by simp only; omega, by simp only; omega, rfl⟩ ?_ ?_
    · exact Weak.same (by simp only [fr, push_cast, Nat.reduceAdd, Nat.reduceSub, Nat.reduceMul, Nat.reduceLeDiff, Nat.reduceEqDiff, Nat.reduceLT, Nat.zero_lt_one, Nat.zero_add, if_false, if_true, ne_eq, not_true_eq_false, decide_false, decide_true, Bool.not_true])
    · rintro ⟨⟨i, q⟩, hi, hq, hq2, hinv⟩ X hX
      simp only at hi hq hq2 hinv
      by_cases hlt : (i : Int) < (xs.length : Int)
      · have hi' : i < xs.length := by omega
        have k := szReply_ok (xs.getD i default) (ho _ (getD_mem xs i hi')) q ⟨by omega, hq2⟩
        have hb := szRep_le (xs.getD i default) q (by omega)
        rw [drop_getD xs i hi', szReps_cons] at hinv
        have ws := wsucc hi' (by omega)
        simp only [Rep.enc, Cmd.enc, push_cast] at k
        simp only [fr, push_cast, Nat.reduceAdd, Nat.reduceSub, Nat.reduceMul, Nat.reduceLeDiff, Nat.reduceEqDiff, Nat.reduceLT, Nat.zero_lt_one, Nat.zero_add, if_false, if_true, ne_eq, not_true_eq_false, decide_false, decide_true, Bool.not_true, List.length_map, hlt, Int.natCast_nonneg, Int.toNat_natCast, getD_map _ xs i hi', Rep.enc, Cmd.enc, and_self]
        refine GoL_call rfl rfl k rfl rfl ?_
        by_cases c2 : szRep (xs.getD i default) q < 0
        · rw [if_pos c2] at hinv
          simp only [fr, push_cast, Nat.reduceAdd, Nat.reduceSub, Nat.reduceMul, Nat.reduceLeDiff, Nat.reduceEqDiff, Nat.reduceLT, Nat.zero_lt_one, Nat.zero_add, if_false, if_true, ne_eq, not_true_eq_false, decide_false, decide_true, Bool.not_true, List.length_map, hlt, hi', c2, resOk, Try.results14, hinv.symm]
        · rw [if_neg c2] at hinv
          simp only [fr, push_cast, Nat.reduceAdd, Nat.reduceSub, Nat.reduceMul, Nat.reduceLeDiff, Nat.reduceEqDiff, Nat.reduceLT, Nat.zero_lt_one, Nat.zero_add, if_false, if_true, ne_eq, not_true_eq_false, decide_false, decide_true, Bool.not_true, List.length_map, hlt, hi', Int.natCast_nonneg, Int.toNat_natCast, ws, c2]
          refine ⟨_, ?_, hX ⟨(i + 1, szRep (xs.getD i default) q), by simp only; omega, by simp only; omega, by simp only; omega, hinv⟩ (by simp only; omega)⟩
          exact Weak.same (by simp only [fr, push_cast, Nat.reduceAdd, Nat.reduceSub, Nat.reduceMul, Nat.reduceLeDiff, Nat.reduceEqDiff, Nat.reduceLT, Nat.zero_lt_one, Nat.zero_add, if_false, if_true, ne_eq, not_true_eq_false, decide_false, decide_true, Bool.not_true])
      · have : i = xs.length := by omega
        subst this
        rw [List.drop_length] at hinv
        simp only [fr, push_cast, Nat.reduceAdd, Nat.reduceSub, Nat.reduceMul, Nat.reduceLeDiff, Nat.reduceEqDiff, Nat.reduceLT, Nat.zero_lt_one, Nat.zero_add, if_false, if_true, ne_eq, not_true_eq_false, decide_false, decide_true, Bool.not_true, List.length_map, hlt, resOk, Try.results14, hinv.symm, szReps]
set_option maxRecDepth 100000 in
theorem impl_InTime_ok (xs : List Rep) (hx : xs.length ≤ 1048576) : PureFn Try.prog 17 [.one (.sh 12 (xs.map Rep.enc))] [bo (decide (∀ a ∈ xs, ∀ b ∈ xs, ¬ (b.when_ < a.call ∧ a.index ≤ b.index)))] := by
  refine PureFn_of_Go Try.func17 rfl (by decide) mo (by decide +kernel) ?_
  simp only [Try.ntmps17, push_cast, Nat.reduceAdd, Nat.reduceSub, Nat.reduceMul, Nat.reduceLeDiff, Nat.reduceEqDiff, Nat.reduceLT, Nat.zero_lt_one, Nat.zero_add, if_false, if_true, ne_eq, not_true_eq_false, decide_false, decide_true, Bool.not_true, List.length_map]
  refine Go_loop (α := {i : Nat // i ≤ xs.length ∧ ∀ i', i' < i → ∀ j, j < xs.length → ¬ bads xs i' j})
    (fun i => ⟨fr 33 [.x (.one (.sh 12 (xs.map Rep.enc))), bad, bad, bad, bad, bad, bad, .x (.one (.sh 12 (xs.map Rep.enc))), int xs.length, int i.1], 0, [], []⟩) (fun i => xs.length - i.1) ⟨0, by omega, fun i' h => by omega⟩ ?_ ?_
  · exact Weak.same (by simp only [fr, push_cast, Nat.reduceAdd, Nat.reduceSub, Nat.reduceMul, Nat.reduceLeDiff, Nat.reduceEqDiff, Nat.reduceLT, Nat.zero_lt_one, Nat.zero_add, if_false, if_true, ne_eq, not_true_eq_false, decide_false, decide_true, Bool.not_true])
  · rintro ⟨i, hi, hinv⟩ X hX
    by_cases hlt : (i : Int) < (xs.length : Int)
    · have hi' : i < xs.length := by omega
      simp only [fr, push_cast, Nat.reduceAdd, Nat.reduceSub, Nat.reduceMul, Nat.reduceLeDiff, Nat.reduceEqDiff, Nat.reduceLT, Nat.zero_lt_one, Nat.zero_add, if_false, if_true, ne_eq, not_true_eq_false, decide_false, decide_true, Bool.not_true, List.length_map, hlt, Int.natCast_nonneg, Int.toNat_natCast, getD_map _ xs i hi', Rep.enc, Cmd.enc, and_self]
      refine Go_loop (α := {j : Nat // j ≤ xs.length ∧ ∀ j', j' < j → ¬ bads xs i j'})
        (fun j => ⟨fr 33 [.x (.one (.sh 12 (xs.map Rep.enc))), bad, bad, bad, .x (.one (.pt (0, 256) [] 12 0 0)), bad, bad, .x (.one (.sh 12 (xs.map Rep.enc))), int xs.length, int i, bad, bad, bad, .x (.one (.sh 12 (xs.map Rep.enc))), int xs.length, int j.1], 0, [((0, 256), ⟨.box, 12, [(xs.getD i default).enc]⟩)], []⟩) (fun j => xs.length - j.1) ⟨0, by omega, fun j' h => by omega⟩ ?_ ?_
      · exact Weak.drop (by simp only [fr, push_cast, Nat.reduceAdd, Nat.reduceSub, Nat.reduceMul, Nat.reduceLeDiff, Nat.reduceEqDiff, Nat.reduceLT, Nat.zero_lt_one, Nat.zero_add, if_false, if_true, ne_eq, not_true_eq_false, decide_false, decide_true, Bool.not_true]) (by simp only [push_cast, Nat.reduceAdd, Nat.reduceSub, Nat.reduceMul, Nat.reduceLeDiff, Nat.reduceEqDiff, Nat.reduceLT, Nat.zero_lt_one, Nat.zero_add, if_false, if_true, ne_eq, not_true_eq_false, decide_false, decide_true, Bool.not_true, Rep.enc, Cmd.enc]) (by simp only [fr, push_cast, Nat.reduceAdd, Nat.reduceSub, Nat.reduceMul, Nat.reduceLeDiff, Nat.reduceEqDiff, Nat.reduceLT, Nat.zero_lt_one, Nat.zero_add, if_false, if_true, ne_eq, not_true_eq_false, decide_false, decide_true, Bool.not_true, Rep.enc, Cmd.enc])
      · rintro ⟨j, hj, hjnv⟩ Y hY
        by_cases hjt : (j : Int) < (xs.length : Int)
        · have hj' : j < xs.length := by omega
          have wj := wsucc hj' (by omega)
          by_cases h1 : (xs.getD j default).when_ < (xs.getD i default).call
          · by_cases h2 : (xs.getD i default).index ≤ (xs.getD j default).index
            · simp only [fr, push_cast, Nat.reduceAdd, Nat.reduceSub, Nat.reduceMul, Nat.reduceLeDiff, Nat.reduceEqDiff, Nat.reduceLT, Nat.zero_lt_one, Nat.zero_add, if_false, if_true, ne_eq, not_true_eq_false, decide_false, decide_true, Bool.not_true, List.length_map, hlt, hjt, Int.natCast_nonneg, and_self, Int.toNat_natCast, getD_map _ xs j hj', Rep.enc, Cmd.enc, wj, h1, h2]
              have : ¬ (∀ a ∈ xs, ∀ b ∈ xs, ¬ (b.when_ < a.call ∧ a.index ≤ b.index)) := fun h => (all_iff xs).1 h i hi' j hj' ⟨h1, h2⟩
              simp only [resOk, Try.results17, push_cast, this, decide_false, true_and]
            · simp only [fr, push_cast, Nat.reduceAdd, Nat.reduceSub, Nat.reduceMul, Nat.reduceLeDiff, Nat.reduceEqDiff, Nat.reduceLT, Nat.zero_lt_one, Nat.zero_add, if_false, if_true, ne_eq, not_true_eq_false, decide_false, decide_true, Bool.not_true, List.length_map, hlt, hjt, Int.natCast_nonneg, and_self, Int.toNat_natCast, getD_map _ xs j hj', Rep.enc, Cmd.enc, wj, h1, h2]
              refine ⟨_, ?_, hY ⟨j + 1, by omega, fun j' hj2 hb => ?_⟩ (by simp only; omega)⟩
              · exact Weak.drop (by simp only [fr, push_cast, Nat.reduceAdd, Nat.reduceSub, Nat.reduceMul, Nat.reduceLeDiff, Nat.reduceEqDiff, Nat.reduceLT, Nat.zero_lt_one, Nat.zero_add, if_false, if_true, ne_eq, not_true_eq_false, decide_false, decide_true, Bool.not_true]) (by simp only [push_cast, Nat.reduceAdd, Nat.reduceSub, Nat.reduceMul, Nat.reduceLeDiff, Nat.reduceEqDiff, Nat.reduceLT, Nat.zero_lt_one, Nat.zero_add, if_false, if_true, ne_eq, not_true_eq_false, decide_false, decide_true, Bool.not_true, Rep.enc, Cmd.enc]) (by simp only [fr, push_cast, Nat.reduceAdd, Nat.reduceSub, Nat.reduceMul, Nat.reduceLeDiff, Nat.reduceEqDiff, Nat.reduceLT, Nat.zero_lt_one, Nat.zero_add, if_false, if_true, ne_eq, not_true_eq_false, decide_false, decide_true, Bool.not_true, Rep.enc, Cmd.enc])
              · by_cases e : j' = j
                · subst e; exact h2 hb.2
                · exact hjnv j' (by omega) hb
          · simp only [fr, push_cast, Nat.reduceAdd, Nat.reduceSub, Nat.reduceMul, Nat.reduceLeDiff, Nat.reduceEqDiff, Nat.reduceLT, Nat.zero_lt_one, Nat.zero_add, if_false, if_true, ne_eq, not_true_eq_false, decide_false, decide_true, Bool.not_true, List.length_map, hlt, hjt, Int.natCast_nonneg, and_self, Int.toNat_natCast, getD_map _ xs j hj', Rep.enc, Cmd.enc, wj, h1]
            refine ⟨_, ?_, hY ⟨j + 1, by omega, fun j' hj2 hb => ?_⟩ (by simp only; omega)⟩
            · exact Weak.drop (by simp only [fr, push_cast, Nat.reduceAdd, Nat.reduceSub, Nat.reduceMul, Nat.reduceLeDiff, Nat.reduceEqDiff, Nat.reduceLT, Nat.zero_lt_one, Nat.zero_add, if_false, if_true, ne_eq, not_true_eq_false, decide_false, decide_true, Bool.not_true]) (by simp only [push_cast, Nat.reduceAdd, Nat.reduceSub, Nat.reduceMul, Nat.reduceLeDiff, Nat.reduceEqDiff, Nat.reduceLT, Nat.zero_lt_one, Nat.zero_add, if_false, if_true, ne_eq, not_true_eq_false, decide_false, decide_true, Bool.not_true, Rep.enc, Cmd.enc]) (by simp only [fr, push_cast, Nat.reduceAdd, Nat.reduceSub, Nat.reduceMul, Nat.reduceLeDiff, Nat.reduceEqDiff, Nat.reduceLT, Nat.zero_lt_one, Nat.zero_add, if_false, if_true, ne_eq, not_true_eq_false, decide_false, decide_true, Bool.not_true, Rep.enc, Cmd.enc])
            · by_cases e : j' = j
              · subst e; exact h1 hb.1
              · exact hjnv j' (by omega) hb
        · have wj := wsucc hi' (by omega)
          simp only [fr, push_cast, Nat.reduceAdd, Nat.reduceSub, Nat.reduceMul, Nat.reduceLeDiff, Nat.reduceEqDiff, Nat.reduceLT, Nat.zero_lt_one, Nat.zero_add, if_false, if_true, ne_eq, not_true_eq_false, decide_false, decide_true, Bool.not_true, List.length_map, hlt, hjt, wj]
          refine ⟨_, ?_, hX ⟨i + 1, by omega, fun i' hi2 j' hj2 hb => ?_⟩ (by simp only; omega)⟩
          · exact Weak.drop (by simp only [fr, push_cast, Nat.reduceAdd, Nat.reduceSub, Nat.reduceMul, Nat.reduceLeDiff, Nat.reduceEqDiff, Nat.reduceLT, Nat.zero_lt_one, Nat.zero_add, if_false, if_true, ne_eq, not_true_eq_false, decide_false, decide_true, Bool.not_true]) (by simp only [push_cast, Nat.reduceAdd, Nat.reduceSub, Nat.reduceMul, Nat.reduceLeDiff, Nat.reduceEqDiff, Nat.reduceLT, Nat.zero_lt_one, Nat.zero_add, if_false, if_true, ne_eq, not_true_eq_false, decide_false, decide_true, Bool.not_true, Rep.enc, Cmd.enc]) (by simp only [fr, push_cast, Nat.reduceAdd, Nat.reduceSub, Nat.reduceMul, Nat.reduceLeDiff, Nat.reduceEqDiff, Nat.reduceLT, Nat.zero_lt_one, Nat.zero_add, if_false, if_true, ne_eq, not_true_eq_false, decide_false, decide_true, Bool.not_true, Rep.enc, Cmd.enc])
          · by_cases e : i' = i
            · subst e; exact hjnv j' (by omega) hb
            · exact hinv i' (by omega) j' hj2 hb
    · simp only [fr, push_cast, Nat.reduceAdd, Nat.reduceSub, Nat.reduceMul, Nat.reduceLeDiff, Nat.reduceEqDiff, Nat.reduceLT, Nat.zero_lt_one, Nat.zero_add, if_false, if_true, ne_eq, not_true_eq_false, decide_false, decide_true, Bool.not_true, List.length_map, hlt]
      have : ∀ a ∈ xs, ∀ b ∈ xs, ¬ (b.when_ < a.call ∧ a.index ≤ b.index) := (all_iff xs).2 fun i' hi' j' hj' => hinv i' (by omega) j' hj'
      simp only [resOk, Try.results17, push_cast, decide_eq_true this, true_and]
set_option maxRecDepth 100000 in
theorem spec_InTime_ok (xs : List Rep) (hx : xs.length ≤ 1048576) : PureFn Try.prog 15 [.one (.sh 12 (xs.map Rep.enc))] [bo (decide (∀ a ∈ xs, ∀ b ∈ xs, ¬ (b.when_ < a.call ∧ a.index ≤ b.index)))] := by
  refine PureFn_of_Go Try.func15 rfl (by decide) mo (by decide +kernel) ?_
  simp only [Try.ntmps15, push_cast, Nat.reduceAdd, Nat.reduceSub, if_false]
  refine Go_loop (α := {i : Nat // i ≤ xs.length ∧ ∀ i', i' < i → ∀ j, j < xs.length → ¬ bads xs i' j})
    (fun i => ⟨fr 41 [.x (.one (.sh 12 (xs.map Rep.enc))), bad, .x (.one (.v (.bool false))), int i.1], 0, [], []⟩) (fun i => xs.length - i.1) ⟨0, by omega, fun i' h => by omega⟩ ?_ ?_
  · refine Weak.same ?_
    simp [fr, push_cast, bad]
  · rintro ⟨i, hi, hinv⟩ X hX
    by_cases hlt : (i : Int) < (xs.length : Int)
    · simp only [fr, push_cast, Nat.reduceAdd, Nat.reduceSub, if_false, if_true, List.length_map, hlt, decide_true]
      refine Go_loop (α := {j : Nat // j ≤ xs.length ∧ ∀ j', j' < j → ¬ bads xs i j'})
        (fun j => ⟨fr 41 [.x (.one (.sh 12 (xs.map Rep.enc))), bad, .x (.one (.v (.bool false))), int i, int j.1], 0, [], []⟩) (fun j => xs.length - j.1) ⟨0, by omega, fun j' h => by omega⟩ ?_ ?_
      · exact Weak.same (by simp only [fr, push_cast, Nat.reduceAdd, Nat.reduceSub])
      · rintro ⟨j, hj, hjnv⟩ Y hY
        by_cases hjt : (j : Int) < (xs.length : Int)
        · have hi' : i < xs.length := by omega
          have hj' : j < xs.length := by omega
          have wj : IntKind.i64.wrap ((j : Int) + 1) = ((j + 1 : Nat) : Int) := by rw [IntKind.wrap_i64]; omega
          by_cases h1 : (xs.getD j default).when_ < (xs.getD i default).call
          · by_cases h2 : (xs.getD i default).index ≤ (xs.getD j default).index
            · simp only [fr, push_cast, Nat.reduceAdd, Nat.reduceSub, if_false, if_true, List.length_map, hlt, hjt, decide_true, decide_false, Int.natCast_nonneg, and_self, Int.toNat_natCast, getD_map _ xs i hi', getD_map _ xs j hj', Rep.enc, Cmd.enc, Nat.le_refl, or_true, Nat.reduceLeDiff, Nat.reduceEqDiff, wj, h1, h2]
              have : ¬ (∀ a ∈ xs, ∀ b ∈ xs, ¬ (b.when_ < a.call ∧ a.index ≤ b.index)) := fun h => (all_iff xs).1 h i hi' j hj' ⟨h1, h2⟩
              simp only [resOk, Try.results15, push_cast, this, decide_false, true_and]
            · simp only [fr, push_cast, Nat.reduceAdd, Nat.reduceSub, if_false, if_true, List.length_map, hlt, hjt, decide_true, decide_false, Int.natCast_nonneg, and_self, Int.toNat_natCast, getD_map _ xs i hi', getD_map _ xs j hj', Rep.enc, Cmd.enc, Nat.le_refl, or_true, Nat.reduceLeDiff, Nat.reduceEqDiff, wj, h1, h2]
              refine ⟨_, ?_, hY ⟨j + 1, by omega, fun j' hj2 hb => ?_⟩ (by simp only; omega)⟩
              · exact Weak.same (by simp only [fr, push_cast, Nat.reduceAdd, Nat.reduceSub])
              · by_cases e : j' = j
                · subst e; exact h2 hb.2
                · exact hjnv j' (by omega) hb
          · simp only [fr, push_cast, Nat.reduceAdd, Nat.reduceSub, if_false, if_true, List.length_map, hlt, hjt, decide_true, decide_false, Int.natCast_nonneg, and_self, Int.toNat_natCast, getD_map _ xs i hi', getD_map _ xs j hj', Rep.enc, Cmd.enc, Nat.le_refl, or_true, Nat.reduceLeDiff, Nat.reduceEqDiff, wj, h1]
            refine ⟨_, ?_, hY ⟨j + 1, by omega, fun j' hj2 hb => ?_⟩ (by simp only; omega)⟩
            · exact Weak.same (by simp only [fr, push_cast, Nat.reduceAdd, Nat.reduceSub])
            · by_cases e : j' = j
              · subst e; exact h1 hb.1
              · exact hjnv j' (by omega) hb
        · have wj : IntKind.i64.wrap ((i : Int) + 1) = ((i + 1 : Nat) : Int) := by rw [IntKind.wrap_i64]; omega
          simp only [fr, push_cast, Nat.reduceAdd, Nat.reduceSub, if_false, if_true, List.length_map, hlt, hjt, decide_true, decide_false, Nat.reduceEqDiff, wj]
          refine ⟨_, ?_, hX ⟨i + 1, by omega, fun i' hi2 j' hj2 hb => ?_⟩ (by simp only; omega)⟩
          · exact Weak.same (by simp only [fr, push_cast, Nat.reduceAdd, Nat.reduceSub])
          · by_cases e : i' = i
            · subst e; exact hjnv j' (by omega) hb
            · exact hinv i' (by omega) j' hj2 hb
    · simp only [fr, push_cast, Nat.reduceAdd, Nat.reduceSub, if_false, if_true, List.length_map, hlt, decide_true, decide_false, Nat.reduceEqDiff]
      have : ∀ a ∈ xs, ∀ b ∈ xs, ¬ (b.when_ < a.call ∧ a.index ≤ b.index) := (all_iff xs).2 fun i' hi' j' hj' => hinv i' (by omega) j' hj'
      simp only [resOk, Try.results15, push_cast, decide_eq_true this, true_and]
set_option maxRecDepth 100000 in
theorem law_ok (xs : List Rep) (hx : xs.length ≤ 140737488355328) (ho : ∀ x ∈ xs, x.Ok) : PureFn Try.prog 4 [.one (.sh 12 (xs.map Rep.enc))] [bo true] := by
  have k := szReplyS_ok xs hx ho 1048576 (by omega)
  refine PureFn_of_Go Try.func4 rfl (by decide) mo (by decide +kernel) ?_
  simp only [Try.ntmps4, push_cast, Nat.reduceAdd, Nat.reduceSub, Nat.reduceMul, Nat.reduceLeDiff, Nat.reduceEqDiff, Nat.reduceLT, Nat.zero_lt_one, Nat.zero_add, if_false, if_true, ne_eq, not_true_eq_false, decide_false, decide_true, Bool.not_true, List.length_map]
  refine GoL_call rfl rfl k rfl rfl ?_
  by_cases c : (if (1048576 : Int) - xs.length < 0 then -1 else szReps xs (1048576 - xs.length)) < 0
  · simp only [push_cast, Nat.reduceAdd, Nat.reduceSub, Nat.reduceMul, Nat.reduceLeDiff, Nat.reduceEqDiff, Nat.reduceLT, Nat.zero_lt_one, Nat.zero_add, if_false, if_true, ne_eq, not_true_eq_false, decide_false, decide_true, Bool.not_true, c, resOk, Try.results4]
  · have hl : xs.length ≤ 1048576 := by
      by_cases c2 : (1048576 : Int) - xs.length < 0
      · rw [if_pos c2] at c; omega
      · omega
    have k2 := toReplyS_ok xs hl
    simp only [push_cast, Nat.reduceAdd, Nat.reduceSub, Nat.reduceMul, Nat.reduceLeDiff, Nat.reduceEqDiff, Nat.reduceLT, Nat.zero_lt_one, Nat.zero_add, if_false, if_true, ne_eq, not_true_eq_false, decide_false, decide_true, Bool.not_true, c]
    refine GoL_call rfl (by simp only [push_cast, Nat.reduceAdd, Nat.reduceSub, Nat.reduceMul, Nat.reduceLeDiff, Nat.reduceEqDiff, Nat.reduceLT, Nat.zero_lt_one, Nat.zero_add, if_false, if_true, ne_eq, not_true_eq_false, decide_false, decide_true, Bool.not_true]) k2 (by simp only [push_cast, Nat.reduceAdd, Nat.reduceSub, Nat.reduceMul, Nat.reduceLeDiff, Nat.reduceEqDiff, Nat.reduceLT, Nat.zero_lt_one, Nat.zero_add, if_false, if_true, ne_eq, not_true_eq_false, decide_false, decide_true, Bool.not_true, poRR_map _ Rep.po]) (by simp only [push_cast, Nat.reduceAdd, Nat.reduceSub, Nat.reduceMul, Nat.reduceLeDiff, Nat.reduceEqDiff, Nat.reduceLT, Nat.zero_lt_one, Nat.zero_add, if_false, if_true, ne_eq, not_true_eq_false, decide_false, decide_true, Bool.not_true]) ?_
    simp only [push_cast, Nat.reduceAdd, Nat.reduceSub, Nat.reduceMul, Nat.reduceLeDiff, Nat.reduceEqDiff, Nat.reduceLT, Nat.zero_lt_one, Nat.zero_add, if_false, if_true, ne_eq, not_true_eq_false, decide_false, decide_true, Bool.not_true]
    refine GoL_call rfl (by simp only [push_cast, Nat.reduceAdd, Nat.reduceSub, Nat.reduceMul, Nat.reduceLeDiff, Nat.reduceEqDiff, Nat.reduceLT, Nat.zero_lt_one, Nat.zero_add, if_false, if_true, ne_eq, not_true_eq_false, decide_false, decide_true, Bool.not_true, toShRR_map _ Rep.ts]) (spec_InTime_ok xs hl) rfl rfl ?_
    simp only [push_cast, Nat.reduceAdd, Nat.reduceSub, Nat.reduceMul, Nat.reduceLeDiff, Nat.reduceEqDiff, Nat.reduceLT, Nat.zero_lt_one, Nat.zero_add, if_false, if_true, ne_eq, not_true_eq_false, decide_false, decide_true, Bool.not_true]
    refine GoL_call rfl (by simp only [push_cast, Nat.reduceAdd, Nat.reduceSub, Nat.reduceMul, Nat.reduceLeDiff, Nat.reduceEqDiff, Nat.reduceLT, Nat.zero_lt_one, Nat.zero_add, if_false, if_true, ne_eq, not_true_eq_false, decide_false, decide_true, Bool.not_true]) k2 (by simp only [push_cast, Nat.reduceAdd, Nat.reduceSub, Nat.reduceMul, Nat.reduceLeDiff, Nat.reduceEqDiff, Nat.reduceLT, Nat.zero_lt_one, Nat.zero_add, if_false, if_true, ne_eq, not_true_eq_false, decide_false, decide_true, Bool.not_true, poRR_map _ Rep.po]) (by simp only [push_cast, Nat.reduceAdd, Nat.reduceSub, Nat.reduceMul, Nat.reduceLeDiff, Nat.reduceEqDiff, Nat.reduceLT, Nat.zero_lt_one, Nat.zero_add, if_false, if_true, ne_eq, not_true_eq_false, decide_false, decide_true, Bool.not_true]) ?_
    simp only [push_cast, Nat.reduceAdd, Nat.reduceSub, Nat.reduceMul, Nat.reduceLeDiff, Nat.reduceEqDiff, Nat.reduceLT, Nat.zero_lt_one, Nat.zero_add, if_false, if_true, ne_eq, not_true_eq_false, decide_false, decide_true, Bool.not_true]
    refine GoL_call rfl (by simp only [push_cast, Nat.reduceAdd, Nat.reduceSub, Nat.reduceMul, Nat.reduceLeDiff, Nat.reduceEqDiff, Nat.reduceLT, Nat.zero_lt_one, Nat.zero_add, if_false, if_true, ne_eq, not_true_eq_false, decide_false, decide_true, Bool.not_true, toShRR_map _ Rep.ts]) (impl_InTime_ok xs hl) rfl rfl ?_
    simp only [push_cast, Nat.reduceAdd, Nat.reduceSub, Nat.reduceMul, Nat.reduceLeDiff, Nat.reduceEqDiff, Nat.reduceLT, Nat.zero_lt_one, Nat.zero_add, if_false, if_true, ne_eq, not_true_eq_false, decide_false, decide_true, Bool.not_true]
    refine GoL_call rfl (by simp only [push_cast, Nat.reduceAdd, Nat.reduceSub, Nat.reduceMul, Nat.reduceLeDiff, Nat.reduceEqDiff, Nat.reduceLT, Nat.zero_lt_one, Nat.zero_add, if_false, if_true, ne_eq, not_true_eq_false, decide_false, decide_true, Bool.not_true]) k2 (by simp only [push_cast, Nat.reduceAdd, Nat.reduceSub, Nat.reduceMul, Nat.reduceLeDiff, Nat.reduceEqDiff, Nat.reduceLT, Nat.zero_lt_one, Nat.zero_add, if_false, if_true, ne_eq, not_true_eq_false, decide_false, decide_true, Bool.not_true, poRR_map _ Rep.po]) (by simp only [push_cast, Nat.reduceAdd, Nat.reduceSub, Nat.reduceMul, Nat.reduceLeDiff, Nat.reduceEqDiff, Nat.reduceLT, Nat.zero_lt_one, Nat.zero_add, if_false, if_true, ne_eq, not_true_eq_false, decide_false, decide_true, Bool.not_true]) ?_
    simp only [push_cast, Nat.reduceAdd, Nat.reduceSub, Nat.reduceMul, Nat.reduceLeDiff, Nat.reduceEqDiff, Nat.reduceLT, Nat.zero_lt_one, Nat.zero_add, if_false, if_true, ne_eq, not_true_eq_false, decide_false, decide_true, Bool.not_true]
    refine GoL_call rfl (by simp only [push_cast, Nat.reduceAdd, Nat.reduceSub, Nat.reduceMul, Nat.reduceLeDiff, Nat.reduceEqDiff, Nat.reduceLT, Nat.zero_lt_one, Nat.zero_add, if_false, if_true, ne_eq, not_true_eq_false, decide_false, decide_true, Bool.not_true, toShRR_map _ Rep.ts]) (eqReplyS_ok xs hl) rfl rfl ?_
    simp only [push_cast, Nat.reduceAdd, Nat.reduceSub, Nat.reduceMul, Nat.reduceLeDiff, Nat.reduceEqDiff, Nat.reduceLT, Nat.zero_lt_one, Nat.zero_add, if_false, if_true, ne_eq, not_true_eq_false, decide_false, decide_true, Bool.not_true, resOk, Try.results4]
end Go.Proofs.Ytbnabpmfdnfigaa
