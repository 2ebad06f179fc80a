/- Entries: its law. -/
import Derived.Test.YtcdjpfikpliagaaV6
namespace Go.Proofs.Ytcdjpfikpliagaa
open Go.RowKit Go.Rx
set_option linter.unusedSimpArgs false
set_option maxRecDepth 100000

theorem enE_len (l : List Ap) : (enE l).length ≤ l.length := by
  unfold enE
  split
  · have : ∀ (m : Nat) (out : List Ent), l.length - out.length ≤ m → Sq l out → (EE l).length ≤ l.length := fun m => by
      induction m with
      | zero =>
        intro out hm h
        cases hf : first l ((out.length + 1 : Nat) : Int) with
        | none => rw [← h.done hf]; exact h.le
        | some e =>
          have := (h.step hf).le
          simp only [List.length_append, List.length_cons, List.length_nil] at this
          omega
      | succ m ih =>
        intro out hm h
        cases hf : first l ((out.length + 1 : Nat) : Int) with
        | none => rw [← h.done hf]; exact h.le
        | some e => exact ih (out ++ [e]) (by simp only [List.length_append, List.length_cons, List.length_nil]; omega) (h.step hf)
    exact this l.length [] (by simp) (Sq.nil l)
  · exact Nat.zero_le _
set_option maxHeartbeats 2000000 in
theorem lawEntries_ok (l : List Ap) (hl : Small l) : PureFn Try.prog 5 [.one (.sh 6 (vR (aps l)))] [bo true] := by
  refine PureFn_of_Go Try.func5 rfl (by decide) mo (by decide +kernel) ?_
  obtain ⟨r, a1, a3, k0⟩ := szAppliedS_ok l hl 1048576 (by decide) (by decide)
  by_cases c0 : r < 0
  · simp only [Try.ntmps5, Try.results5, push_cast, Nat.reduceAdd, Nat.reduceSub, Nat.reduceMul, Nat.reduceLeDiff, Nat.reduceEqDiff, Nat.reduceLT, Int.reduceLT, Int.reduceLE, Int.reduceEq, Int.reduceNeg, Int.reduceToNat]
    refine GoL_call rfl rfl k0 rfl rfl ?_
    simp only [Try.ntmps5, Try.results5, push_cast, Nat.reduceAdd, Nat.reduceSub, Nat.reduceMul, Nat.reduceLeDiff, Nat.reduceEqDiff, Nat.reduceLT, Int.reduceLT, Int.reduceLE, Int.reduceEq, Int.reduceNeg, Int.reduceToNat, c0]
  · have hlen := a3 (by omega)
    have k1 := toAppliedS_ok l hlen
    have k2 := entriesS_ok l hlen
    have k3 := entriesI_ok l hlen
    have k4 := eqAppliedS_ok l hlen
    have he := enE_len l
    unfold enR at k2 k3
    obtain ⟨E, hE⟩ : ∃ E, E = enE l := ⟨_, rfl⟩
    obtain ⟨b, hb⟩ : ∃ b, b = saB l := ⟨_, rfl⟩
    rw [← hE] at k2 k3 he
    rw [← hb] at k2 k3
    have k5 := eqEntryS_ok E (by omega)
    obtain ⟨ea, hea⟩ : ∃ ea, ea = 1 + 6 * l.length := ⟨_, rfl⟩
    have k6 := markAppliedS_ok l hlen 1 (by decide) ea hea
    obtain ⟨ee, hee⟩ : ∃ ee, ee = 1 + 3 * E.length := ⟨_, rfl⟩
    have k7 := markEntryS_ok E (by omega) 1 (by decide) (by decide) ee hee
    have k8 := heldEntryS_ok 1 E.length (by omega) (by decide) (by decide) ee hee
    rw [show ((1 : Nat) : Int) = 1 from rfl] at k6 k7 k8
    have h1 : ¬ ((ea : Int) < 0) := by omega
    have h2 : ¬ ((ee : Int) < 0) := by omega
    have ht := ents_take (marksE 1 E.length)
    rw [marksE_length] at ht
    simp only [Try.ntmps5, Try.results5, push_cast, Nat.reduceAdd, Nat.reduceSub, Nat.reduceMul, Nat.reduceLeDiff, Nat.reduceEqDiff, Nat.reduceLT, Int.reduceLT, Int.reduceLE, Int.reduceEq, Int.reduceNeg, Int.reduceToNat]
    refine GoL_call rfl rfl k0 rfl rfl ?_
    simp only [Try.ntmps5, Try.results5, push_cast, Nat.reduceAdd, Nat.reduceSub, Nat.reduceMul, Nat.reduceLeDiff, Nat.reduceEqDiff, Nat.reduceLT, Int.reduceLT, Int.reduceLE, Int.reduceEq, Int.reduceNeg, Int.reduceToNat, c0]
    refine GoL_call rfl rfl k1 (by simp only [push_cast, Nat.reduceAdd, Nat.reduceSub, Nat.reduceMul, Nat.reduceLeDiff, Nat.reduceEqDiff, Nat.reduceLT, Int.reduceLT, Int.reduceLE, Int.reduceEq, Int.reduceNeg, Int.reduceToNat]) rfl ?_
    simp only [Try.ntmps5, Try.results5, push_cast, Nat.reduceAdd, Nat.reduceSub, Nat.reduceMul, Nat.reduceLeDiff, Nat.reduceEqDiff, Nat.reduceLT, Int.reduceLT, Int.reduceLE, Int.reduceEq, Int.reduceNeg, Int.reduceToNat, aps_length]
    refine GoL_call rfl (by simp only [push_cast, Nat.reduceAdd, Nat.reduceSub, Nat.reduceMul, Nat.reduceLeDiff, Nat.reduceEqDiff, Nat.reduceLT, Int.reduceLT, Int.reduceLE, Int.reduceEq, Int.reduceNeg, Int.reduceToNat, aps_take]) k2 (by simp only [push_cast, Nat.reduceAdd, Nat.reduceSub, Nat.reduceMul, Nat.reduceLeDiff, Nat.reduceEqDiff, Nat.reduceLT, Int.reduceLT, Int.reduceLE, Int.reduceEq, Int.reduceNeg, Int.reduceToNat]) rfl ?_
    simp only [Try.ntmps5, Try.results5, push_cast, Nat.reduceAdd, Nat.reduceSub, Nat.reduceMul, Nat.reduceLeDiff, Nat.reduceEqDiff, Nat.reduceLT, Int.reduceLT, Int.reduceLE, Int.reduceEq, Int.reduceNeg, Int.reduceToNat, aps_length, ents_length]
    refine GoL_call rfl rfl k1 (by simp only [push_cast, Nat.reduceAdd, Nat.reduceSub, Nat.reduceMul, Nat.reduceLeDiff, Nat.reduceEqDiff, Nat.reduceLT, Int.reduceLT, Int.reduceLE, Int.reduceEq, Int.reduceNeg, Int.reduceToNat]) rfl ?_
    simp only [Try.ntmps5, Try.results5, push_cast, Nat.reduceAdd, Nat.reduceSub, Nat.reduceMul, Nat.reduceLeDiff, Nat.reduceEqDiff, Nat.reduceLT, Int.reduceLT, Int.reduceLE, Int.reduceEq, Int.reduceNeg, Int.reduceToNat, aps_length]
    refine GoL_call rfl (by simp only [push_cast, Nat.reduceAdd, Nat.reduceSub, Nat.reduceMul, Nat.reduceLeDiff, Nat.reduceEqDiff, Nat.reduceLT, Int.reduceLT, Int.reduceLE, Int.reduceEq, Int.reduceNeg, Int.reduceToNat, aps_take]) k3 (by simp only [push_cast, Nat.reduceAdd, Nat.reduceSub, Nat.reduceMul, Nat.reduceLeDiff, Nat.reduceEqDiff, Nat.reduceLT, Int.reduceLT, Int.reduceLE, Int.reduceEq, Int.reduceNeg, Int.reduceToNat]) rfl ?_
    simp only [Try.ntmps5, Try.results5, push_cast, Nat.reduceAdd, Nat.reduceSub, Nat.reduceMul, Nat.reduceLeDiff, Nat.reduceEqDiff, Nat.reduceLT, Int.reduceLT, Int.reduceLE, Int.reduceEq, Int.reduceNeg, Int.reduceToNat, aps_length, ents_length]
    refine GoL_call rfl (by simp only [push_cast, Nat.reduceAdd, Nat.reduceSub, Nat.reduceMul, Nat.reduceLeDiff, Nat.reduceEqDiff, Nat.reduceLT, Int.reduceLT, Int.reduceLE, Int.reduceEq, Int.reduceNeg, Int.reduceToNat, ents_take]) k5 rfl rfl ?_
    simp only [Try.ntmps5, Try.results5, push_cast, Nat.reduceAdd, Nat.reduceSub, Nat.reduceMul, Nat.reduceLeDiff, Nat.reduceEqDiff, Nat.reduceLT, Int.reduceLT, Int.reduceLE, Int.reduceEq, Int.reduceNeg, Int.reduceToNat, aps_length, ents_length]
    refine GoL_call rfl rfl k1 (by simp only [push_cast, Nat.reduceAdd, Nat.reduceSub, Nat.reduceMul, Nat.reduceLeDiff, Nat.reduceEqDiff, Nat.reduceLT, Int.reduceLT, Int.reduceLE, Int.reduceEq, Int.reduceNeg, Int.reduceToNat]) rfl ?_
    simp only [Try.ntmps5, Try.results5, push_cast, Nat.reduceAdd, Nat.reduceSub, Nat.reduceMul, Nat.reduceLeDiff, Nat.reduceEqDiff, Nat.reduceLT, Int.reduceLT, Int.reduceLE, Int.reduceEq, Int.reduceNeg, Int.reduceToNat, aps_length]
    refine GoL_call rfl (by simp only [push_cast, Nat.reduceAdd, Nat.reduceSub, Nat.reduceMul, Nat.reduceLeDiff, Nat.reduceEqDiff, Nat.reduceLT, Int.reduceLT, Int.reduceLE, Int.reduceEq, Int.reduceNeg, Int.reduceToNat, aps_take]) k4 rfl rfl ?_
    simp only [Try.ntmps5, Try.results5, push_cast, Nat.reduceAdd, Nat.reduceSub, Nat.reduceMul, Nat.reduceLeDiff, Nat.reduceEqDiff, Nat.reduceLT, Int.reduceLT, Int.reduceLE, Int.reduceEq, Int.reduceNeg, Int.reduceToNat, aps_length]
    refine GoL_io (0, 1664) .sl 6 (aps l) rfl rfl (by simp only [push_cast, Nat.reduceAdd, Nat.reduceSub, Nat.reduceMul, Nat.reduceLeDiff, Nat.reduceEqDiff, Nat.reduceLT, Int.reduceLT, Int.reduceLE, Int.reduceEq, Int.reduceNeg, Int.reduceToNat, aps_length]) rfl (.inr rfl) rfl k6 rfl rfl ?_
    simp only [Try.ntmps5, Try.results5, push_cast, Nat.reduceAdd, Nat.reduceSub, Nat.reduceMul, Nat.reduceLeDiff, Nat.reduceEqDiff, Nat.reduceLT, Int.reduceLT, Int.reduceLE, Int.reduceEq, Int.reduceNeg, Int.reduceToNat, aps_length, h1]
    refine GoL_call rfl (by simp only [push_cast, Nat.reduceAdd, Nat.reduceSub, Nat.reduceMul, Nat.reduceLeDiff, Nat.reduceEqDiff, Nat.reduceLT, Int.reduceLT, Int.reduceLE, Int.reduceEq, Int.reduceNeg, Int.reduceToNat, ents_take]) k5 rfl rfl ?_
    simp only [Try.ntmps5, Try.results5, push_cast, Nat.reduceAdd, Nat.reduceSub, Nat.reduceMul, Nat.reduceLeDiff, Nat.reduceEqDiff, Nat.reduceLT, Int.reduceLT, Int.reduceLE, Int.reduceEq, Int.reduceNeg, Int.reduceToNat, aps_length, ents_length]
    refine GoL_io (0, 1856) .sl 3 (ents E) rfl rfl (by simp only [push_cast, Nat.reduceAdd, Nat.reduceSub, Nat.reduceMul, Nat.reduceLeDiff, Nat.reduceEqDiff, Nat.reduceLT, Int.reduceLT, Int.reduceLE, Int.reduceEq, Int.reduceNeg, Int.reduceToNat, ents_length]) rfl (.inr rfl) rfl k7 rfl rfl ?_
    simp only [Try.ntmps5, Try.results5, push_cast, Nat.reduceAdd, Nat.reduceSub, Nat.reduceMul, Nat.reduceLeDiff, Nat.reduceEqDiff, Nat.reduceLT, Int.reduceLT, Int.reduceLE, Int.reduceEq, Int.reduceNeg, Int.reduceToNat, ents_length]
    refine GoL_call rfl (by simp only [push_cast, Nat.reduceAdd, Nat.reduceSub, Nat.reduceMul, Nat.reduceLeDiff, Nat.reduceEqDiff, Nat.reduceLT, Int.reduceLT, Int.reduceLE, Int.reduceEq, Int.reduceNeg, Int.reduceToNat, ht]) k8 rfl rfl ?_
    simp only [Try.ntmps5, Try.results5, push_cast, Nat.reduceAdd, Nat.reduceSub, Nat.reduceMul, Nat.reduceLeDiff, Nat.reduceEqDiff, Nat.reduceLT, Int.reduceLT, Int.reduceLE, Int.reduceEq, Int.reduceNeg, Int.reduceToNat, ents_length, h2]
    refine GoL_call rfl rfl k1 (by simp only [push_cast, Nat.reduceAdd, Nat.reduceSub, Nat.reduceMul, Nat.reduceLeDiff, Nat.reduceEqDiff, Nat.reduceLT, Int.reduceLT, Int.reduceLE, Int.reduceEq, Int.reduceNeg, Int.reduceToNat]) rfl ?_
    simp only [Try.ntmps5, Try.results5, push_cast, Nat.reduceAdd, Nat.reduceSub, Nat.reduceMul, Nat.reduceLeDiff, Nat.reduceEqDiff, Nat.reduceLT, Int.reduceLT, Int.reduceLE, Int.reduceEq, Int.reduceNeg, Int.reduceToNat, aps_length]
    refine GoL_call rfl (by simp only [push_cast, Nat.reduceAdd, Nat.reduceSub, Nat.reduceMul, Nat.reduceLeDiff, Nat.reduceEqDiff, Nat.reduceLT, Int.reduceLT, Int.reduceLE, Int.reduceEq, Int.reduceNeg, Int.reduceToNat, aps_take]) k3 (by simp only [push_cast, Nat.reduceAdd, Nat.reduceSub, Nat.reduceMul, Nat.reduceLeDiff, Nat.reduceEqDiff, Nat.reduceLT, Int.reduceLT, Int.reduceLE, Int.reduceEq, Int.reduceNeg, Int.reduceToNat]) rfl ?_
    simp only [Try.ntmps5, Try.results5, push_cast, Nat.reduceAdd, Nat.reduceSub, Nat.reduceMul, Nat.reduceLeDiff, Nat.reduceEqDiff, Nat.reduceLT, Int.reduceLT, Int.reduceLE, Int.reduceEq, Int.reduceNeg, Int.reduceToNat, aps_length, ents_length]
    refine GoL_call rfl (by simp only [push_cast, Nat.reduceAdd, Nat.reduceSub, Nat.reduceMul, Nat.reduceLeDiff, Nat.reduceEqDiff, Nat.reduceLT, Int.reduceLT, Int.reduceLE, Int.reduceEq, Int.reduceNeg, Int.reduceToNat, ents_take]) k5 rfl rfl ?_
    simp only [Try.ntmps5, Try.results5, push_cast, Nat.reduceAdd, Nat.reduceSub, Nat.reduceMul, Nat.reduceLeDiff, Nat.reduceEqDiff, Nat.reduceLT, Int.reduceLT, Int.reduceLE, Int.reduceEq, Int.reduceNeg, Int.reduceToNat, aps_length, ents_length]
    refine GoL_call rfl (by simp only [push_cast, Nat.reduceAdd, Nat.reduceSub, Nat.reduceMul, Nat.reduceLeDiff, Nat.reduceEqDiff, Nat.reduceLT, Int.reduceLT, Int.reduceLE, Int.reduceEq, Int.reduceNeg, Int.reduceToNat, ht]) k8 rfl rfl ?_
    simp only [Try.ntmps5, Try.results5, push_cast, Nat.reduceAdd, Nat.reduceSub, Nat.reduceMul, Nat.reduceLeDiff, Nat.reduceEqDiff, Nat.reduceLT, Int.reduceLT, Int.reduceLE, Int.reduceEq, Int.reduceNeg, Int.reduceToNat, ents_length, h2]
theorem lawEntries (xs : List X) (h : HasXs [.sl 6 56 (.st [.int .i64, .int .i64, .int .i64, .st [.int .i64, .int .i64, .str]])] xs) : PureFn Try.prog 5 xs [.one (.v (.bool true))] := by
  obtain ⟨x, _, rfl, ⟨c, rfl, hc⟩, rfl⟩ := h
  simp only [HasKt, reachBytes] at hc
  obtain ⟨R, hR, h1, _, h2⟩ := hc
  cases hR
  obtain ⟨l, rfl, h3⟩ := aps_dec R h2
  rw [vR_length, aps_length] at h1
  exact lawEntries_ok l ⟨by omega, h3⟩
end Go.Proofs.Ytcdjpfikpliagaa
