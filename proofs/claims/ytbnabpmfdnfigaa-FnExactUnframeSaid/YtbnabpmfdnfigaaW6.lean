/- Frames of a file: both ways come to the same. -/
import Derived.Test.YtbnabpmfdnfigaaW5
namespace Go.Proofs.Ytbnabpmfdnfigaa
open Go.RowKit Go.Rx
set_option linter.unusedSimpArgs false
set_option maxRecDepth 100000

theorem frO_bound {s : ByteArray} {a x : Nat} {t : ByteArray} (h : frO s a = some (t, x)) : a < x ∧ x ≤ s.size := by
  unfold frO at h
  split at h
  · rename_i n y hr
    have hb := rvO_bound hr
    split at h
    · rename_i hc
      obtain ⟨_, rfl⟩ := Prod.mk.inj (Option.some.inj h)
      omega
    · cases h
  · cases h
def frL (s : ByteArray) : Nat → Nat → List (ByteArray × Nat)
  | 0, _ => []
  | k + 1, a => match frO s a with
    | some (t, x) => (t, x) :: frL s k x
    | none => []
def frs (s : ByteArray) : List (ByteArray × Nat) := if s.size ≤ 20000 then frL s (s.size + 1) 0 else []
theorem frL_len (s : ByteArray) : ∀ (k a : Nat), (frL s k a).length ≤ s.size - a
  | 0, a => by simp [frL]
  | k + 1, a => by
    rw [frL]
    cases h : frO s a with
    | none => simp
    | some p =>
      obtain ⟨t, x⟩ := p
      have hb := frO_bound h
      have := frL_len s k x
      simp only [List.length_cons]; omega
theorem frs_len (s : ByteArray) : (frs s).length ≤ 20000 := by
  unfold frs
  split
  · have := frL_len s (s.size + 1) 0; omega
  · simp
/-- More fuel changes nothing. -/
theorem frL_fuel (s : ByteArray) : ∀ (k k' a : Nat), s.size < k + a → s.size < k' + a → frL s k a = frL s k' a
  | 0, 0, _, _, _ => rfl
  | 0, k' + 1, a, h, _ => by
    rw [frL, frL]
    cases hf : frO s a with
    | none => rfl
    | some p => obtain ⟨t, x⟩ := p; have := frO_bound hf; omega
  | k + 1, 0, a, _, h => by
    rw [frL, frL]
    cases hf : frO s a with
    | none => rfl
    | some p => obtain ⟨t, x⟩ := p; have := frO_bound hf; omega
  | k + 1, k' + 1, a, h, h' => by
    rw [frL, frL]
    cases hf : frO s a with
    | none => rfl
    | some p =>
      obtain ⟨t, x⟩ := p
      have := frO_bound hf
      simp only
      rw [frL_fuel s k k' x (by omega) (by omega)]
def frLast (l : List (ByteArray × Nat)) : Nat := (l.getLast?.map (·.2)).getD 0
def frTs (l : List (ByteArray × Nat)) : List ByteArray := l.map (·.1)
def frEs (l : List (ByteArray × Nat)) : List Int := l.map fun p => (p.2 : Int)

theorem framesOf_ok (s : ByteArray) (hs : s.size ≤ 140737488355328) : PureFn Try.prog 56 [st s] [.one (.own 1 (vR (strs (frTs (frs s))))), .one (.own 1 (vR (ints (frEs (frs s)))))] := by
  refine PureFn_of_Go Try.func56 rfl (by decide) mo (by decide +kernel) ?_
  obtain ⟨F, hF⟩ : ∃ F, F = frs s := ⟨_, rfl⟩
  rw [← hF]
  simp only [Try.ntmps56, Try.results56, push_cast, fr, Nat.reduceAdd, Nat.reduceSub, Nat.reduceMul, Nat.reduceLeDiff, Nat.reduceEqDiff, Nat.reduceLT, Nat.zero_lt_one, Nat.zero_add, if_false, if_true, ne_eq, not_true_eq_false, not_false_eq_true, decide_false, decide_true, Bool.not_true, Bool.not_false, Int.natCast_nonneg, Int.toNat_natCast, and_self, true_and, and_true, Int.reduceLT, Int.reduceLE, Int.reduceEq, Int.reduceNeg, Int.reduceToNat, resOk, or_true, true_or]
  refine Go_loop (α := {p : List (ByteArray × Nat) × Nat // p.2 ≤ s.size ∧ p.1.length ≤ p.2 ∧ (s.size ≤ 20000 → p.1 ++ frL s (s.size + 1 - p.2) p.2 = F) ∧ (¬ s.size ≤ 20000 → p.1 = [])})
    (fun p => ⟨tp 33 [(0, .x (st s)), (4, .x (.one (.rs (0, 1600) [] 1 0 p.1.1.length))), (5, .x (.one (.rs (0, 1856) [] 1 0 p.1.1.length))), (6, int p.1.2)], 0, [((0, 1600), ⟨.sl, 1, vR (strs (frTs p.1.1))⟩), ((0, 1856), ⟨.sl, 1, vR (ints (frEs p.1.1))⟩)], []⟩)
    (fun p => s.size - p.1.2) ⟨([], 0), by simp, by simp, fun h => by rw [hF, frs, if_pos h]; rfl, fun _ => rfl⟩ ?_ ?_
  · refine Weak.trans (Weak.nilRoot (0, 1856) 1 5 rfl rfl rfl) (Weak.trans (Weak.nilRoot (0, 1600) 1 4 rfl rfl rfl) ?_)
    simp only [push_cast, fr, Nat.reduceAdd, Nat.reduceSub, Nat.reduceMul, Nat.reduceLeDiff, Nat.reduceEqDiff, Nat.reduceLT, Nat.zero_lt_one, Nat.zero_add, if_false, if_true, ne_eq, not_true_eq_false, not_false_eq_true, decide_false, decide_true, Bool.not_true, Bool.not_false, Int.natCast_nonneg, Int.toNat_natCast, and_self, true_and, and_true, Int.reduceLT, Int.reduceLE, Int.reduceEq, Int.reduceNeg, Int.reduceToNat, resOk, or_true, true_or, frTs, frEs, strs, ints, List.map_nil]
    exact Weak.same (by simp only [push_cast, fr, Nat.reduceAdd, Nat.reduceSub, Nat.reduceMul, Nat.reduceLeDiff, Nat.reduceEqDiff, Nat.reduceLT, Nat.zero_lt_one, Nat.zero_add, if_false, if_true, ne_eq, not_true_eq_false, not_false_eq_true, decide_false, decide_true, Bool.not_true, Bool.not_false, Int.natCast_nonneg, Int.toNat_natCast, and_self, true_and, and_true, Int.reduceLT, Int.reduceLE, Int.reduceEq, Int.reduceNeg, Int.reduceToNat, resOk, or_true, true_or])
  · rintro ⟨⟨l, a⟩, ha, hla, hinv, hno⟩ X hX
    simp only at ha hla hinv hno
    have l1 : (strs (frTs l)).length = l.length := by simp [strs, frTs]
    have l2 : (ints (frEs l)).length = l.length := by simp [ints, frEs]
    by_cases c0 : (s.size : Int) ≤ 20000
    · have hinv := hinv (by omega)
      cases hf : frO s a with
      | none =>
        have k := frameAt_ok s hs a ha
        rw [hf] at k
        rw [show s.size + 1 - a = (s.size - a) + 1 by omega, frL, hf, List.append_nil] at hinv
        subst hinv
        simp only [Try.ntmps56, Try.results56, push_cast, fr, Nat.reduceAdd, Nat.reduceSub, Nat.reduceMul, Nat.reduceLeDiff, Nat.reduceEqDiff, Nat.reduceLT, Nat.zero_lt_one, Nat.zero_add, if_false, if_true, ne_eq, not_true_eq_false, not_false_eq_true, decide_false, decide_true, Bool.not_true, Bool.not_false, Int.natCast_nonneg, Int.toNat_natCast, and_self, true_and, and_true, Int.reduceLT, Int.reduceLE, Int.reduceEq, Int.reduceNeg, Int.reduceToNat, resOk, or_true, true_or, c0]
        refine GoL_call rfl rfl k rfl rfl ?_
        simp only [Try.ntmps56, Try.results56, push_cast, fr, Nat.reduceAdd, Nat.reduceSub, Nat.reduceMul, Nat.reduceLeDiff, Nat.reduceEqDiff, Nat.reduceLT, Nat.zero_lt_one, Nat.zero_add, if_false, if_true, ne_eq, not_true_eq_false, not_false_eq_true, decide_false, decide_true, Bool.not_true, Bool.not_false, Int.natCast_nonneg, Int.toNat_natCast, and_self, true_and, and_true, Int.reduceLT, Int.reduceLE, Int.reduceEq, Int.reduceNeg, Int.reduceToNat, resOk, or_true, true_or, frX, l1, l2, nrRR_map]
      | some p =>
        obtain ⟨t, x⟩ := p
        have hb := frO_bound hf
        have k := frameAt_ok s hs a ha
        rw [hf] at k
        rw [show s.size + 1 - a = (s.size - a) + 1 by omega, frL, hf] at hinv
        simp only at hinv
        rw [frL_fuel s (s.size - a) (s.size + 1 - x) x (by omega) (by omega)] at hinv
        have a0 : l.length + 1 ≤ 4294967296 := by omega
        have a1 := max_len a0
        have a2 := room_le (b := 16) a0 (by decide)
        have a3 := room_le (b := 8) a0 (by decide)
        have s1 := vR_snoc (strs (frTs l)) [.string t]
        have s2 := vR_snoc (ints (frEs l)) [.int .i64 x]
        have e1 : strs (frTs l) ++ [[Value.string t]] = strs (frTs (l ++ [(t, x)])) := by simp [strs, frTs]
        have e2 : ints (frEs l) ++ [[Value.int .i64 x]] = ints (frEs (l ++ [(t, x)])) := by simp [ints, frEs]
        rw [e1] at s1
        rw [e2] at s2
        simp only [List.map_cons, List.map_nil] at s1 s2
        obtain ⟨l', hl'⟩ : ∃ l', l' = l ++ [(t, x)] := ⟨_, rfl⟩
        rw [← hl'] at s1 s2
        have hll : l'.length = l.length + 1 := by rw [hl']; simp
        simp only [push_cast, fr, Nat.reduceAdd, Nat.reduceSub, Nat.reduceMul, Nat.reduceLeDiff, Nat.reduceEqDiff, Nat.reduceLT, Nat.zero_lt_one, Nat.zero_add, if_false, if_true, ne_eq, not_true_eq_false, not_false_eq_true, decide_false, decide_true, Bool.not_true, Bool.not_false, Int.natCast_nonneg, Int.toNat_natCast, and_self, true_and, and_true, Int.reduceLT, Int.reduceLE, Int.reduceEq, Int.reduceNeg, Int.reduceToNat, resOk, or_true, true_or, c0]
        refine GoL_call rfl rfl k rfl rfl ?_
        simp only [push_cast, fr, Nat.reduceAdd, Nat.reduceSub, Nat.reduceMul, Nat.reduceLeDiff, Nat.reduceEqDiff, Nat.reduceLT, Nat.zero_lt_one, Nat.zero_add, if_false, if_true, ne_eq, not_true_eq_false, not_false_eq_true, decide_false, decide_true, Bool.not_true, Bool.not_false, Int.natCast_nonneg, Int.toNat_natCast, and_self, true_and, and_true, Int.reduceLT, Int.reduceLE, Int.reduceEq, Int.reduceNeg, Int.reduceToNat, resOk, or_true, true_or, frX, l1, l2, a1, a2, a3, s1, s2, flatRows, flatRow]
        refine ⟨_, ?_, hX ⟨(l', x), hb.2, by simp only; omega, fun _ => by simp only; rw [hl', List.append_assoc]; exact hinv, fun h => absurd (by omega) h⟩ (by simp only; omega)⟩
        exact Weak.drop (by simp only [push_cast, fr, Nat.reduceAdd, Nat.reduceSub, Nat.reduceMul, Nat.reduceLeDiff, Nat.reduceEqDiff, Nat.reduceLT, Nat.zero_lt_one, Nat.zero_add, if_false, if_true, ne_eq, not_true_eq_false, not_false_eq_true, decide_false, decide_true, Bool.not_true, Bool.not_false, Int.natCast_nonneg, Int.toNat_natCast, and_self, true_and, and_true, Int.reduceLT, Int.reduceLE, Int.reduceEq, Int.reduceNeg, Int.reduceToNat, resOk, or_true, true_or, hll]) (by simp only [push_cast, fr, Nat.reduceAdd, Nat.reduceSub, Nat.reduceMul, Nat.reduceLeDiff, Nat.reduceEqDiff, Nat.reduceLT, Nat.zero_lt_one, Nat.zero_add, if_false, if_true, ne_eq, not_true_eq_false, not_false_eq_true, decide_false, decide_true, Bool.not_true, Bool.not_false, Int.natCast_nonneg, Int.toNat_natCast, and_self, true_and, and_true, Int.reduceLT, Int.reduceLE, Int.reduceEq, Int.reduceNeg, Int.reduceToNat, resOk, or_true, true_or, hll]) (by simp only [push_cast, fr, Nat.reduceAdd, Nat.reduceSub, Nat.reduceMul, Nat.reduceLeDiff, Nat.reduceEqDiff, Nat.reduceLT, Nat.zero_lt_one, Nat.zero_add, if_false, if_true, ne_eq, not_true_eq_false, not_false_eq_true, decide_false, decide_true, Bool.not_true, Bool.not_false, Int.natCast_nonneg, Int.toNat_natCast, and_self, true_and, and_true, Int.reduceLT, Int.reduceLE, Int.reduceEq, Int.reduceNeg, Int.reduceToNat, resOk, or_true, true_or, hll])
    · have e0 : F = [] := by rw [hF]; exact if_neg (by omega)
      have e1 := hno (by omega)
      subst e1
      subst e0
      simp only [Try.ntmps56, Try.results56, push_cast, fr, Nat.reduceAdd, Nat.reduceSub, Nat.reduceMul, Nat.reduceLeDiff, Nat.reduceEqDiff, Nat.reduceLT, Nat.zero_lt_one, Nat.zero_add, if_false, if_true, ne_eq, not_true_eq_false, not_false_eq_true, decide_false, decide_true, Bool.not_true, Bool.not_false, Int.natCast_nonneg, Int.toNat_natCast, and_self, true_and, and_true, Int.reduceLT, Int.reduceLE, Int.reduceEq, Int.reduceNeg, Int.reduceToNat, resOk, or_true, true_or, c0, l1, l2]
def unfT (s : ByteArray) : List ByteArray := frTs (frs s)
def unfE (s : ByteArray) : Nat := frLast (frs s)
theorem unframeI_ok (s : ByteArray) (hs : s.size ≤ 140737488355328) : PureFn Try.prog 30 [st s] [.one (.own 1 (vR (strs (unfT s)))), i64 (unfE s)] := by
  refine PureFn_of_GoW Try.func30 rfl (by decide) mo (by decide +kernel) ?_
  have k := framesOf_ok s hs
  simp only [Try.ntmps30, Try.results30, push_cast, fr, Nat.reduceAdd, Nat.reduceSub, Nat.reduceMul, Nat.reduceLeDiff, Nat.reduceEqDiff, Nat.reduceLT, Nat.zero_lt_one, Nat.zero_add, if_false, if_true, ne_eq, not_true_eq_false, not_false_eq_true, decide_false, decide_true, Bool.not_true, Bool.not_false, Int.natCast_nonneg, Int.toNat_natCast, and_self, true_and, and_true, Int.reduceLT, Int.reduceLE, Int.reduceEq, Int.reduceNeg, Int.reduceToNat, resOk, or_true, true_or]
  refine GoL_call rfl rfl k (by simp only [push_cast, fr, Nat.reduceAdd, Nat.reduceSub, Nat.reduceMul, Nat.reduceLeDiff, Nat.reduceEqDiff, Nat.reduceLT, Nat.zero_lt_one, Nat.zero_add, if_false, if_true, ne_eq, not_true_eq_false, not_false_eq_true, decide_false, decide_true, Bool.not_true, Bool.not_false, Int.natCast_nonneg, Int.toNat_natCast, and_self, true_and, and_true, Int.reduceLT, Int.reduceLE, Int.reduceEq, Int.reduceNeg, Int.reduceToNat, resOk, or_true, true_or]) rfl ?_
  have l1 : (strs (unfT s)).length = (frs s).length := by simp [strs, unfT, frTs]
  have l2 : (ints (frEs (frs s))).length = (frs s).length := by simp [ints, frEs]
  have hlen := frs_len s
  rw [show frTs (frs s) = unfT s from rfl]
  cases h0 : decide (((frs s).length : Int) = 0) with
  | true =>
    have hn : frs s = [] := by have := of_decide_eq_true h0; exact List.eq_nil_of_length_eq_zero (by omega)
    have hT : unfT s = [] := by rw [unfT, hn]; rfl
    have hE : unfE s = 0 := by rw [unfE, hn]; rfl
    simp only [Try.ntmps30, Try.results30, push_cast, fr, Nat.reduceAdd, Nat.reduceSub, Nat.reduceMul, Nat.reduceLeDiff, Nat.reduceEqDiff, Nat.reduceLT, Nat.zero_lt_one, Nat.zero_add, if_false, if_true, ne_eq, not_true_eq_false, not_false_eq_true, decide_false, decide_true, Bool.not_true, Bool.not_false, Int.natCast_nonneg, Int.toNat_natCast, and_self, true_and, and_true, Int.reduceLT, Int.reduceLE, Int.reduceEq, Int.reduceNeg, Int.reduceToNat, resOk, or_true, true_or, l1, l2, h0]
    rw [hE, hT]
    refine ⟨_, Weak.nilRoot (0, 1) 1 2 rfl rfl rfl, ?_⟩
    simp only [Try.ntmps30, Try.results30, push_cast, fr, Nat.reduceAdd, Nat.reduceSub, Nat.reduceMul, Nat.reduceLeDiff, Nat.reduceEqDiff, Nat.reduceLT, Nat.zero_lt_one, Nat.zero_add, if_false, if_true, ne_eq, not_true_eq_false, not_false_eq_true, decide_false, decide_true, Bool.not_true, Bool.not_false, Int.natCast_nonneg, Int.toNat_natCast, and_self, true_and, and_true, Int.reduceLT, Int.reduceLE, Int.reduceEq, Int.reduceNeg, Int.reduceToNat, resOk, or_true, true_or, strs, List.map_nil, Int.ofNat_zero]
  | false =>
    have hp : 0 < (frs s).length := by have := of_decide_eq_false h0; omega
    obtain ⟨j, hj⟩ : ∃ j, (frs s).length = j + 1 := ⟨(frs s).length - 1, by omega⟩
    have hw : IntKind.i64.wrap (((frs s).length : Int) - 1) = (j : Int) := wN (by omega) (by omega)
    have hjl : j < (frs s).length := by omega
    have hg : (ints (frEs (frs s))).getD j [] = [.int .i64 (unfE s)] := by
      have hjl2 : j < (frEs (frs s)).length := by simp only [frEs, List.length_map]; exact hjl
      rw [ints_getD _ hjl2]
      congr 2
      unfold unfE frLast
      rw [List.getLast?_eq_getElem?, show (frs s).length - 1 = j by omega, List.getElem?_eq_getElem hjl]
      simp [frEs, List.getD_eq_getElem?_getD, List.getElem?_map, List.getElem?_eq_getElem hjl]
    have hji : (j : Int) < ((frs s).length : Int) := by omega
    simp only [Try.ntmps30, Try.results30, push_cast, fr, Nat.reduceAdd, Nat.reduceSub, Nat.reduceMul, Nat.reduceLeDiff, Nat.reduceEqDiff, Nat.reduceLT, Nat.zero_lt_one, Nat.zero_add, if_false, if_true, ne_eq, not_true_eq_false, not_false_eq_true, decide_false, decide_true, Bool.not_true, Bool.not_false, Int.natCast_nonneg, Int.toNat_natCast, and_self, true_and, and_true, Int.reduceLT, Int.reduceLE, Int.reduceEq, Int.reduceNeg, Int.reduceToNat, resOk, or_true, true_or, l1, l2, h0, hw, hjl, hji, vR_getD, hg]
    refine ⟨_, Weak.refl _, ?_⟩
    simp only [Try.ntmps30, Try.results30, push_cast, fr, Nat.reduceAdd, Nat.reduceSub, Nat.reduceMul, Nat.reduceLeDiff, Nat.reduceEqDiff, Nat.reduceLT, Nat.zero_lt_one, Nat.zero_add, if_false, if_true, ne_eq, not_true_eq_false, not_false_eq_true, decide_false, decide_true, Bool.not_true, Bool.not_false, Int.natCast_nonneg, Int.toNat_natCast, and_self, true_and, and_true, Int.reduceLT, Int.reduceLE, Int.reduceEq, Int.reduceNeg, Int.reduceToNat, resOk, or_true, true_or, l1, l2]
end Go.Proofs.Ytbnabpmfdnfigaa
