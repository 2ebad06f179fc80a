/- SameApplied: its law. -/
import Derived.Test.YtcdjpfikpliagaaV2
namespace Go.Proofs.Ytcdjpfikpliagaa
open Go.RowKit Go.Rx
set_option linter.unusedSimpArgs false
set_option maxRecDepth 100000

theorem aps_dec (R : List (List C)) (h : ∀ r ∈ R, HasKt (.st [.int .i64, .int .i64, .int .i64, .st [.int .i64, .int .i64, .str]]) r) : ∃ l : List Ap, R = vR (aps l) ∧ ∀ a ∈ l, a.e.data.size ≤ 140737488355328 := by
  obtain ⟨xs, rfl, hx⟩ := rows_dec apC (fun a => a.e.data.size ≤ 140737488355328) (K := .st [.int .i64, .int .i64, .int .i64, .st [.int .i64, .int .i64, .str]]) (fun r hr => by
    simp only [HasKt, HasKts] at hr
    obtain ⟨_, _, rfl, ⟨a, rfl, _⟩, _, _, rfl, ⟨b, rfl, _⟩, _, _, rfl, ⟨c, rfl, _⟩, _, _, rfl, ⟨_, _, rfl, ⟨d, rfl, _⟩, _, _, rfl, ⟨e, rfl, _⟩, _, _, rfl, ⟨f, rfl, hf⟩, rfl⟩, rfl⟩ := hr
    exact ⟨⟨a, b, c, ⟨d, e, f⟩⟩, rfl, Nat.le_trans hf (by decide)⟩) R h
  exact ⟨xs, by simp [vR, aps, apV, apC], hx⟩
theorem lawSameApplied_ok (l : List Ap) (hl : Small l) : PureFn Try.prog 3 [.one (.sh 6 (vR (aps l)))] [bo true] := by
  refine PureFn_of_Go Try.func3 rfl (by decide) mo (by decide +kernel) ?_
  obtain ⟨r, a1, a3, k0⟩ := szAppliedS_ok l hl 1048576 (by decide) (by decide)
  by_cases c0 : r < 0
  · simp only [Try.ntmps3, Try.results3, push_cast, Nat.reduceAdd, Nat.reduceSub, Nat.reduceMul, Nat.reduceLeDiff, Nat.reduceEqDiff, Nat.reduceLT, Int.reduceLT, Int.reduceLE, Int.reduceEq, Int.reduceNeg, Int.reduceToNat]
    refine GoL_call rfl rfl k0 rfl rfl ?_
    simp only [Try.ntmps3, Try.results3, push_cast, Nat.reduceAdd, Nat.reduceSub, Nat.reduceMul, Nat.reduceLeDiff, Nat.reduceEqDiff, Nat.reduceLT, Int.reduceLT, Int.reduceLE, Int.reduceEq, Int.reduceNeg, Int.reduceToNat, c0]
  · have hlen := a3 (by omega)
    have k1 := toAppliedS_ok l hlen
    have k2 := sameAppliedS_ok l hlen
    have k3 := sameAppliedI_ok l hlen
    have k4 := eqAppliedS_ok l hlen
    obtain ⟨b, hb⟩ : ∃ b, b = saB l := ⟨_, rfl⟩
    rw [← hb] at k2 k3
    simp only [Try.ntmps3, Try.results3, push_cast, Nat.reduceAdd, Nat.reduceSub, Nat.reduceMul, Nat.reduceLeDiff, Nat.reduceEqDiff, Nat.reduceLT, Int.reduceLT, Int.reduceLE, Int.reduceEq, Int.reduceNeg, Int.reduceToNat]
    refine GoL_call rfl rfl k0 rfl rfl ?_
    simp only [Try.ntmps3, Try.results3, push_cast, Nat.reduceAdd, Nat.reduceSub, Nat.reduceMul, Nat.reduceLeDiff, Nat.reduceEqDiff, Nat.reduceLT, Int.reduceLT, Int.reduceLE, Int.reduceEq, Int.reduceNeg, Int.reduceToNat, c0]
    refine GoL_call rfl rfl k1 (by simp only [push_cast, Nat.reduceAdd, Nat.reduceSub, Nat.reduceMul, Nat.reduceLeDiff, Nat.reduceEqDiff, Nat.reduceLT, Int.reduceLT, Int.reduceLE, Int.reduceEq, Int.reduceNeg, Int.reduceToNat]) rfl ?_
    simp only [Try.ntmps3, Try.results3, push_cast, Nat.reduceAdd, Nat.reduceSub, Nat.reduceMul, Nat.reduceLeDiff, Nat.reduceEqDiff, Nat.reduceLT, Int.reduceLT, Int.reduceLE, Int.reduceEq, Int.reduceNeg, Int.reduceToNat, aps_length]
    refine GoL_call rfl (by simp only [push_cast, Nat.reduceAdd, Nat.reduceSub, Nat.reduceMul, Nat.reduceLeDiff, Nat.reduceEqDiff, Nat.reduceLT, Int.reduceLT, Int.reduceLE, Int.reduceEq, Int.reduceNeg, Int.reduceToNat, aps_take]) k2 rfl rfl ?_
    simp only [Try.ntmps3, Try.results3, push_cast, Nat.reduceAdd, Nat.reduceSub, Nat.reduceMul, Nat.reduceLeDiff, Nat.reduceEqDiff, Nat.reduceLT, Int.reduceLT, Int.reduceLE, Int.reduceEq, Int.reduceNeg, Int.reduceToNat, aps_length]
    refine GoL_call rfl rfl k1 (by simp only [push_cast, Nat.reduceAdd, Nat.reduceSub, Nat.reduceMul, Nat.reduceLeDiff, Nat.reduceEqDiff, Nat.reduceLT, Int.reduceLT, Int.reduceLE, Int.reduceEq, Int.reduceNeg, Int.reduceToNat]) rfl ?_
    simp only [Try.ntmps3, Try.results3, push_cast, Nat.reduceAdd, Nat.reduceSub, Nat.reduceMul, Nat.reduceLeDiff, Nat.reduceEqDiff, Nat.reduceLT, Int.reduceLT, Int.reduceLE, Int.reduceEq, Int.reduceNeg, Int.reduceToNat, aps_length]
    refine GoL_call rfl (by simp only [push_cast, Nat.reduceAdd, Nat.reduceSub, Nat.reduceMul, Nat.reduceLeDiff, Nat.reduceEqDiff, Nat.reduceLT, Int.reduceLT, Int.reduceLE, Int.reduceEq, Int.reduceNeg, Int.reduceToNat, aps_take]) k3 rfl rfl ?_
    simp only [Try.ntmps3, Try.results3, push_cast, Nat.reduceAdd, Nat.reduceSub, Nat.reduceMul, Nat.reduceLeDiff, Nat.reduceEqDiff, Nat.reduceLT, Int.reduceLT, Int.reduceLE, Int.reduceEq, Int.reduceNeg, Int.reduceToNat, aps_length]
    refine GoL_call rfl rfl k1 (by simp only [push_cast, Nat.reduceAdd, Nat.reduceSub, Nat.reduceMul, Nat.reduceLeDiff, Nat.reduceEqDiff, Nat.reduceLT, Int.reduceLT, Int.reduceLE, Int.reduceEq, Int.reduceNeg, Int.reduceToNat]) rfl ?_
    simp only [Try.ntmps3, Try.results3, push_cast, Nat.reduceAdd, Nat.reduceSub, Nat.reduceMul, Nat.reduceLeDiff, Nat.reduceEqDiff, Nat.reduceLT, Int.reduceLT, Int.reduceLE, Int.reduceEq, Int.reduceNeg, Int.reduceToNat, aps_length]
    refine GoL_call rfl (by simp only [push_cast, Nat.reduceAdd, Nat.reduceSub, Nat.reduceMul, Nat.reduceLeDiff, Nat.reduceEqDiff, Nat.reduceLT, Int.reduceLT, Int.reduceLE, Int.reduceEq, Int.reduceNeg, Int.reduceToNat, aps_take]) k4 rfl rfl ?_
    simp only [Try.ntmps3, Try.results3, push_cast, Nat.reduceAdd, Nat.reduceSub, Nat.reduceMul, Nat.reduceLeDiff, Nat.reduceEqDiff, Nat.reduceLT, Int.reduceLT, Int.reduceLE, Int.reduceEq, Int.reduceNeg, Int.reduceToNat, aps_length]
theorem lawSameApplied (xs : List X) (h : HasXs [.sl 6 56 (.st [.int .i64, .int .i64, .int .i64, .st [.int .i64, .int .i64, .str]])] xs) : PureFn Try.prog 3 xs [.one (.v (.bool true))] := by
  obtain ⟨x, _, rfl, ⟨c, rfl, hc⟩, rfl⟩ := h
  simp only [HasKt, reachBytes] at hc
  obtain ⟨R, hR, h1, _, h2⟩ := hc
  cases hR
  obtain ⟨l, rfl, h3⟩ := aps_dec R h2
  rw [vR_length, aps_length] at h1
  exact lawSameApplied_ok l ⟨by omega, h3⟩
end Go.Proofs.Ytcdjpfikpliagaa
