/- FnExactReadEntry: its code returns true. -/
import Derived.Test.YtadbfhgeekpdgaaW11
namespace Go.Proofs.Ytadbfhgeekpdgaa
open Go.RowKit Go.Rx
set_option linter.unusedSimpArgs false
set_option maxRecDepth 100000

theorem eqEntry_ok (term kind : Int) (data : ByteArray) : PureFn Try.prog 11 [.agg (entC term kind data), .agg (entC term kind data)] [bo true] := by
  refine PureFn_of_Go Try.func11 rfl (by decide) mo (by decide +kernel) ?_
  simp only [Try.ntmps11, Try.results11, push_cast, Nat.reduceAdd, Nat.reduceSub, Nat.reduceMul, Nat.reduceLeDiff, Nat.reduceEqDiff, Nat.reduceLT, Int.reduceLT, Int.reduceLE, Int.reduceEq, Int.reduceNeg, Int.reduceToNat, entC]
theorem eX_form (s : ByteArray) : ∃ (n t k : Int) (d : ByteArray) (b : Bool), eX s = [i64 n, .agg (entC t k d), bo b] := by
  cases h : eOk s with
  | true => exact ⟨_, _, _, _, _, eX_true h⟩
  | false => exact ⟨_, _, _, _, _, eX_false h⟩
theorem lawReadEntry_ok (s : ByteArray) (hs : s.size ≤ 140737488355328) : PureFn Try.prog 3 [st s] [bo true] := by
  refine PureFn_of_Go Try.func3 rfl (by decide) mo (by decide +kernel) ?_
  have k1 := readEntryS_ok s hs
  have k2 := readEntryI_ok s hs
  obtain ⟨n, t, k, d, b, he⟩ := eX_form s
  rw [he] at k1 k2
  have k3 := eqEntry_ok t k d
  simp only [entC] at k1 k2 k3
  by_cases c0 : (1048576 : Int) < (s.size : Int)
  · simp only [Try.ntmps3, Try.results3, push_cast, Nat.reduceAdd, Nat.reduceSub, Nat.reduceMul, Nat.reduceLeDiff, Nat.reduceEqDiff, Nat.reduceLT, Int.reduceLT, Int.reduceLE, Int.reduceEq, Int.reduceNeg, Int.reduceToNat, c0]
  simp only [Try.ntmps3, Try.results3, push_cast, Nat.reduceAdd, Nat.reduceSub, Nat.reduceMul, Nat.reduceLeDiff, Nat.reduceEqDiff, Nat.reduceLT, Int.reduceLT, Int.reduceLE, Int.reduceEq, Int.reduceNeg, Int.reduceToNat, c0]
  refine GoL_call rfl rfl k1 rfl rfl ?_
  simp only [Try.ntmps3, Try.results3, push_cast, Nat.reduceAdd, Nat.reduceSub, Nat.reduceMul, Nat.reduceLeDiff, Nat.reduceEqDiff, Nat.reduceLT, Int.reduceLT, Int.reduceLE, Int.reduceEq, Int.reduceNeg, Int.reduceToNat]
  refine GoL_call rfl rfl k2 rfl rfl ?_
  simp only [Try.ntmps3, Try.results3, push_cast, Nat.reduceAdd, Nat.reduceSub, Nat.reduceMul, Nat.reduceLeDiff, Nat.reduceEqDiff, Nat.reduceLT, Int.reduceLT, Int.reduceLE, Int.reduceEq, Int.reduceNeg, Int.reduceToNat]
  refine GoL_call rfl rfl k3 rfl rfl ?_
  simp only [Try.ntmps3, Try.results3, push_cast, Nat.reduceAdd, Nat.reduceSub, Nat.reduceMul, Nat.reduceLeDiff, Nat.reduceEqDiff, Nat.reduceLT, Int.reduceLT, Int.reduceLE, Int.reduceEq, Int.reduceNeg, Int.reduceToNat]
theorem lawReadEntry (xs : List X) (h : HasXs [.str] xs) : PureFn Try.prog 3 xs [.one (.v (.bool true))] := by
  obtain ⟨x, _, rfl, ⟨c, rfl, hc⟩, rfl⟩ := h
  simp only [HasKt] at hc
  obtain ⟨s, hs, hb⟩ := hc
  cases hs
  exact lawReadEntry_ok s (Nat.le_trans hb (by decide))
end Go.Proofs.Ytadbfhgeekpdgaa
