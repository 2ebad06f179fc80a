/- The scanner: what its methods do, by their code. -/
import Derived.Test.YtadbfhgeekpdgaaW3
namespace Go.Proofs.Ytadbfhgeekpdgaa
open Go.RowKit Go.Rx
set_option linter.unusedSimpArgs false
set_option maxRecDepth 100000

def sc (s : ByteArray) (a : Nat) (b : Bool) : List Value := [.string s, .int .i64 a, .bool b]
def numN (s : ByteArray) (a : Nat) (b : Bool) : Nat := if b then 0 else match rvO s a with | some (n, _) => n | none => 0
def numA (s : ByteArray) (a : Nat) (b : Bool) : Nat := if b then a else match rvO s a with | some (_, x) => x | none => a
def numB (s : ByteArray) (a : Nat) (b : Bool) : Bool := if b then true else match rvO s a with | some _ => false | none => true
theorem number_ok (s : ByteArray) (hs : s.size ≤ 140737488355328) (a : Nat) (b : Bool) : IoFn Try.prog 39 .box 3 [sc s a b] [] [sc s (numA s a b) (numB s a b)] [i64 (numN s a b)] := by
  refine IoFn_of_Go Try.func39 rfl (by decide) mo (by decide +kernel) (ioOk_box rfl) (ioOk_box rfl) rfl rfl ?_
  have k := readVarI_ok s hs a
  cases b with
  | true =>
    cases hr : rvO s a with
    | none =>
      rw [hr] at k
      simp only [Try.ntmps39, Try.results39, push_cast, Nat.reduceAdd, Nat.reduceSub, Nat.reduceMul, Nat.reduceLeDiff, Nat.reduceEqDiff, Nat.reduceLT, Int.reduceLT, Int.reduceLE, Int.reduceEq, Int.reduceNeg, Int.reduceToNat, sc, numA, numB, numN, hr]
      refine GoD_call rfl rfl k rfl rfl ?_
      simp only [Try.ntmps39, Try.results39, push_cast, Nat.reduceAdd, Nat.reduceSub, Nat.reduceMul, Nat.reduceLeDiff, Nat.reduceEqDiff, Nat.reduceLT, Int.reduceLT, Int.reduceLE, Int.reduceEq, Int.reduceNeg, Int.reduceToNat, rvX, sc, numA, numB, numN, hr]
    | some p =>
      obtain ⟨n, x⟩ := p
      rw [hr] at k
      simp only [Try.ntmps39, Try.results39, push_cast, Nat.reduceAdd, Nat.reduceSub, Nat.reduceMul, Nat.reduceLeDiff, Nat.reduceEqDiff, Nat.reduceLT, Int.reduceLT, Int.reduceLE, Int.reduceEq, Int.reduceNeg, Int.reduceToNat, sc, numA, numB, numN, hr]
      refine GoD_call rfl rfl k rfl rfl ?_
      simp only [Try.ntmps39, Try.results39, push_cast, Nat.reduceAdd, Nat.reduceSub, Nat.reduceMul, Nat.reduceLeDiff, Nat.reduceEqDiff, Nat.reduceLT, Int.reduceLT, Int.reduceLE, Int.reduceEq, Int.reduceNeg, Int.reduceToNat, rvX, sc, numA, numB, numN, hr]
  | false =>
    cases hr : rvO s a with
    | none =>
      rw [hr] at k
      simp only [Try.ntmps39, Try.results39, push_cast, Nat.reduceAdd, Nat.reduceSub, Nat.reduceMul, Nat.reduceLeDiff, Nat.reduceEqDiff, Nat.reduceLT, Int.reduceLT, Int.reduceLE, Int.reduceEq, Int.reduceNeg, Int.reduceToNat, sc, numA, numB, numN, hr]
      refine GoD_call rfl rfl k rfl rfl ?_
      simp only [Try.ntmps39, Try.results39, push_cast, Nat.reduceAdd, Nat.reduceSub, Nat.reduceMul, Nat.reduceLeDiff, Nat.reduceEqDiff, Nat.reduceLT, Int.reduceLT, Int.reduceLE, Int.reduceEq, Int.reduceNeg, Int.reduceToNat, rvX, sc, numA, numB, numN, hr]
    | some p =>
      obtain ⟨n, x⟩ := p
      rw [hr] at k
      simp only [Try.ntmps39, Try.results39, push_cast, Nat.reduceAdd, Nat.reduceSub, Nat.reduceMul, Nat.reduceLeDiff, Nat.reduceEqDiff, Nat.reduceLT, Int.reduceLT, Int.reduceLE, Int.reduceEq, Int.reduceNeg, Int.reduceToNat, sc, numA, numB, numN, hr]
      refine GoD_call rfl rfl k rfl rfl ?_
      simp only [Try.ntmps39, Try.results39, push_cast, Nat.reduceAdd, Nat.reduceSub, Nat.reduceMul, Nat.reduceLeDiff, Nat.reduceEqDiff, Nat.reduceLT, Int.reduceLT, Int.reduceLE, Int.reduceEq, Int.reduceNeg, Int.reduceToNat, rvX, sc, numA, numB, numN, hr]

def takeOk (s : ByteArray) (a : Nat) (b : Bool) (n : Nat) : Bool := !b && decide (a + n ≤ s.size)
def takeT (s : ByteArray) (a : Nat) (b : Bool) (n : Nat) : ByteArray := if takeOk s a b n then s.extract a (a + n) else ⟨#[]⟩
def takeA (s : ByteArray) (a : Nat) (b : Bool) (n : Nat) : Nat := if takeOk s a b n then a + n else a
def takeB (s : ByteArray) (a : Nat) (b : Bool) (n : Nat) : Bool := !takeOk s a b n
theorem take_ok (s : ByteArray) (hs : s.size ≤ 140737488355328) (a : Nat) (ha : a ≤ s.size) (b : Bool) (n : Nat) (hn : n ≤ 140737488355328) : IoFn Try.prog 38 .box 3 [sc s a b] [i64 n] [sc s (takeA s a b n) (takeB s a b n)] [st (takeT s a b n)] := by
  refine IoFn_of_Go Try.func38 rfl (by decide) mo (by decide +kernel) (ioOk_box rfl) (ioOk_box rfl) rfl rfl ?_
  have w1 : IntKind.i64.wrap ((s.size : Int) - (a : Int)) = ((s.size - a : Nat) : Int) := wN (by omega) (by omega)
  obtain ⟨r, hr⟩ : ∃ r, r = s.size - a := ⟨_, rfl⟩
  rw [← hr] at w1
  have w2 : IntKind.i64.wrap ((a : Int) + (n : Int)) = ((a + n : Nat) : Int) := wN (by omega) (by omega)
  obtain ⟨x, hx⟩ : ∃ x, x = a + n := ⟨_, rfl⟩
  rw [← hx] at w2
  have w3 : IntKind.i64.wrap ((x : Int) - (n : Int)) = (a : Int) := wN (by omega) (by omega)
  cases b with
  | true =>
    have ho : takeOk s a true n = false := rfl
    simp only [Try.ntmps38, Try.results38, push_cast, Nat.reduceAdd, Nat.reduceSub, Nat.reduceMul, Nat.reduceLeDiff, Nat.reduceEqDiff, Nat.reduceLT, Int.reduceLT, Int.reduceLE, Int.reduceEq, Int.reduceNeg, Int.reduceToNat, sc, takeT, takeA, takeB, ho]
  | false =>
    by_cases c : (r : Int) < (n : Int)
    · have ho : takeOk s a false n = false := by simp [takeOk]; omega
      simp only [Try.ntmps38, Try.results38, push_cast, Nat.reduceAdd, Nat.reduceSub, Nat.reduceMul, Nat.reduceLeDiff, Nat.reduceEqDiff, Nat.reduceLT, Int.reduceLT, Int.reduceLE, Int.reduceEq, Int.reduceNeg, Int.reduceToNat, sc, takeT, takeA, takeB, ho, w1, c]
    · have ho : takeOk s a false n = true := by simp [takeOk]; omega
      have h1 : a ≤ x := by omega
      have h2 : x ≤ s.size := by omega
      simp only [Try.ntmps38, Try.results38, push_cast, Nat.reduceAdd, Nat.reduceSub, Nat.reduceMul, Nat.reduceLeDiff, Nat.reduceEqDiff, Nat.reduceLT, Int.reduceLT, Int.reduceLE, Int.reduceEq, Int.reduceNeg, Int.reduceToNat, sc, takeT, takeA, takeB, ho, w1, c, w2, w3, h1, h2, ← hx]

/-! ### frames -/
def frO (s : ByteArray) (a : Nat) : Option (ByteArray × Nat) := match rvO s a with
  | some (n, x) => if x + 4 + n ≤ s.size ∧ 1 ≤ n ∧ n ≤ 9000 ∧ four (sumN (s.extract (x + 4) (x + 4 + n))) = s.extract x (x + 4) then some (s.extract (x + 4) (x + 4 + n), x + 4 + n) else none
  | none => none
def frX : Option (ByteArray × Nat) → List X
  | none => [st ⟨#[]⟩, i64 0, bo false]
  | some (t, x) => [st t, i64 x, bo true]
theorem extract_size (s : ByteArray) (a b : Nat) : (s.extract a b).size ≤ s.size := by
  rw [ByteArray.size_extract]; omega
theorem frameAt_ok (s : ByteArray) (hs : s.size ≤ 140737488355328) (a : Nat) (ha : a ≤ s.size) : PureFn Try.prog 120 [st s, i64 a] (frX (frO s a)) := by
  refine PureFn_of_Go Try.func120 rfl (by decide) mo (by decide +kernel) ?_
  simp only [Try.ntmps120, Try.results120, push_cast, Nat.reduceAdd, Nat.reduceSub, Nat.reduceMul, Nat.reduceLeDiff, Nat.reduceEqDiff, Nat.reduceLT, Int.reduceLT, Int.reduceLE, Int.reduceEq, Int.reduceNeg, Int.reduceToNat]
  refine GoL_io (0, 448) .box 3 [sc s a false] rfl rfl rfl rfl (.inl rfl) rfl (number_ok s hs a false) rfl rfl ?_
  cases hr : rvO s a with
  | none =>
    have hn : numN s a false = 0 := by simp [numN, hr]
    have hA : numA s a false = a := by simp [numA, hr]
    have hB : numB s a false = true := by simp [numB, hr]
    have ho : ∀ n, takeOk s a true n = false := fun n => rfl
    have hf : frO s a = none := by simp [frO, hr]
    rw [hn, hA, hB, hf]
    simp only [Try.ntmps120, Try.results120, push_cast, Nat.reduceAdd, Nat.reduceSub, Nat.reduceMul, Nat.reduceLeDiff, Nat.reduceEqDiff, Nat.reduceLT, Int.reduceLT, Int.reduceLE, Int.reduceEq, Int.reduceNeg, Int.reduceToNat, sc]
    refine GoL_io (0, 448) .box 3 [sc s a true] rfl rfl rfl rfl (.inl rfl) rfl (take_ok s hs a ha true 4 (by omega)) rfl rfl ?_
    simp only [takeA, takeB, takeT, ho, Bool.false_eq_true, if_false, Bool.not_false]
    simp only [Try.ntmps120, Try.results120, push_cast, Nat.reduceAdd, Nat.reduceSub, Nat.reduceMul, Nat.reduceLeDiff, Nat.reduceEqDiff, Nat.reduceLT, Int.reduceLT, Int.reduceLE, Int.reduceEq, Int.reduceNeg, Int.reduceToNat, sc]
    refine GoL_io (0, 448) .box 3 [sc s a true] rfl rfl rfl rfl (.inl rfl) rfl (take_ok s hs a ha true 0 (by omega)) rfl rfl ?_
    simp only [takeA, takeB, takeT, ho, Bool.false_eq_true, if_false, Bool.not_false]
    simp only [Try.ntmps120, Try.results120, push_cast, Nat.reduceAdd, Nat.reduceSub, Nat.reduceMul, Nat.reduceLeDiff, Nat.reduceEqDiff, Nat.reduceLT, Int.reduceLT, Int.reduceLE, Int.reduceEq, Int.reduceNeg, Int.reduceToNat, sc, frX]
  | some p =>
    obtain ⟨n, x⟩ := p
    obtain ⟨hn1, _, hx1, hx2⟩ := rvO_bound hr
    have hn : numN s a false = n := by simp [numN, hr]
    have hA : numA s a false = x := by simp [numA, hr]
    have hB : numB s a false = false := by simp [numB, hr]
    have hf : frO s a = if x + 4 + n ≤ s.size ∧ 1 ≤ n ∧ n ≤ 9000 ∧ four (sumN (s.extract (x + 4) (x + 4 + n))) = s.extract x (x + 4) then some (s.extract (x + 4) (x + 4 + n), x + 4 + n) else none := by simp [frO, hr]
    rw [hn, hA, hB]
    simp only [Try.ntmps120, Try.results120, push_cast, Nat.reduceAdd, Nat.reduceSub, Nat.reduceMul, Nat.reduceLeDiff, Nat.reduceEqDiff, Nat.reduceLT, Int.reduceLT, Int.reduceLE, Int.reduceEq, Int.reduceNeg, Int.reduceToNat, sc]
    refine GoL_io (0, 448) .box 3 [sc s x false] rfl rfl rfl rfl (.inl rfl) rfl (take_ok s hs x hx2 false 4 (by omega)) rfl rfl ?_
    by_cases c1 : x + 4 ≤ s.size
    · have o1 : takeOk s x false 4 = true := by simp [takeOk]; omega
      simp only [takeA, takeB, takeT, o1, if_true, Bool.not_true]
      obtain ⟨y, hy⟩ : ∃ y, y = x + 4 := ⟨_, rfl⟩
      rw [← hy] at hf c1 ⊢
      simp only [Try.ntmps120, Try.results120, push_cast, Nat.reduceAdd, Nat.reduceSub, Nat.reduceMul, Nat.reduceLeDiff, Nat.reduceEqDiff, Nat.reduceLT, Int.reduceLT, Int.reduceLE, Int.reduceEq, Int.reduceNeg, Int.reduceToNat, sc]
      refine GoL_io (0, 448) .box 3 [sc s y false] rfl rfl rfl rfl (.inl rfl) rfl (take_ok s hs y c1 false n (by omega)) rfl rfl ?_
      by_cases c2 : y + n ≤ s.size
      · have o2 : takeOk s y false n = true := by simp [takeOk]; omega
        simp only [takeA, takeB, takeT, o2, if_true, Bool.not_true]
        obtain ⟨z, hz⟩ : ∃ z, z = y + n := ⟨_, rfl⟩
        rw [← hz] at hf c2 ⊢
        have k1 := inRange_ok n 1 9000
        simp only [Try.ntmps120, Try.results120, push_cast, Nat.reduceAdd, Nat.reduceSub, Nat.reduceMul, Nat.reduceLeDiff, Nat.reduceEqDiff, Nat.reduceLT, Int.reduceLT, Int.reduceLE, Int.reduceEq, Int.reduceNeg, Int.reduceToNat, sc]
        refine GoL_call rfl rfl k1 rfl rfl ?_
        cases c3 : (decide ((1 : Int) ≤ (n : Int)) && decide ((n : Int) ≤ 9000)) with
        | false =>
          have hff : frO s a = none := by
            rw [hf, if_neg]
            intro hc
            simp at c3
            omega
          rw [hff]
          simp only [Try.ntmps120, Try.results120, push_cast, Nat.reduceAdd, Nat.reduceSub, Nat.reduceMul, Nat.reduceLeDiff, Nat.reduceEqDiff, Nat.reduceLT, Int.reduceLT, Int.reduceLE, Int.reduceEq, Int.reduceNeg, Int.reduceToNat, sc, frX, c3]
        | true =>
          have hc3 : 1 ≤ n ∧ n ≤ 9000 := by simp at c3; omega
          have k2 := sumText_ok (s.extract y z) (Nat.le_trans (extract_size s y z) hs)
          simp only [Try.ntmps120, Try.results120, push_cast, Nat.reduceAdd, Nat.reduceSub, Nat.reduceMul, Nat.reduceLeDiff, Nat.reduceEqDiff, Nat.reduceLT, Int.reduceLT, Int.reduceLE, Int.reduceEq, Int.reduceNeg, Int.reduceToNat, sc, c3]
          refine GoL_call rfl rfl k2 rfl rfl ?_
          cases c4 : decide (four (sumN (s.extract y z)) = s.extract x y) with
          | true =>
            have hff : frO s a = some (s.extract y z, z) := by rw [hf, if_pos ⟨c2, hc3.1, hc3.2, of_decide_eq_true c4⟩]
            rw [hff]
            simp only [Try.ntmps120, Try.results120, push_cast, Nat.reduceAdd, Nat.reduceSub, Nat.reduceMul, Nat.reduceLeDiff, Nat.reduceEqDiff, Nat.reduceLT, Int.reduceLT, Int.reduceLE, Int.reduceEq, Int.reduceNeg, Int.reduceToNat, sc, frX, c3, c4]
          | false =>
            have hff : frO s a = none := by rw [hf, if_neg fun h => of_decide_eq_false c4 h.2.2.2]
            rw [hff]
            simp only [Try.ntmps120, Try.results120, push_cast, Nat.reduceAdd, Nat.reduceSub, Nat.reduceMul, Nat.reduceLeDiff, Nat.reduceEqDiff, Nat.reduceLT, Int.reduceLT, Int.reduceLE, Int.reduceEq, Int.reduceNeg, Int.reduceToNat, sc, frX, c3, c4]
      · have o2 : takeOk s y false n = false := by simp [takeOk]; omega
        simp only [takeA, takeB, takeT, o2, if_false, Bool.not_false, Bool.false_eq_true]
        have hff : frO s a = none := by rw [hf, if_neg fun h => c2 h.1]
        rw [hff]
        simp only [Try.ntmps120, Try.results120, push_cast, Nat.reduceAdd, Nat.reduceSub, Nat.reduceMul, Nat.reduceLeDiff, Nat.reduceEqDiff, Nat.reduceLT, Int.reduceLT, Int.reduceLE, Int.reduceEq, Int.reduceNeg, Int.reduceToNat, sc, frX]
    · have o1 : takeOk s x false 4 = false := by simp [takeOk]; omega
      have o2 : takeOk s x true n = false := rfl
      simp only [takeA, takeB, takeT, o1, if_false, Bool.not_false, Bool.false_eq_true]
      have hff : frO s a = none := by rw [hf, if_neg fun h => c1 (by omega)]
      rw [hff]
      simp only [Try.ntmps120, Try.results120, push_cast, Nat.reduceAdd, Nat.reduceSub, Nat.reduceMul, Nat.reduceLeDiff, Nat.reduceEqDiff, Nat.reduceLT, Int.reduceLT, Int.reduceLE, Int.reduceEq, Int.reduceNeg, Int.reduceToNat, sc]
      refine GoL_io (0, 448) .box 3 [sc s x true] rfl rfl rfl rfl (.inl rfl) rfl (take_ok s hs x hx2 true n (by omega)) rfl rfl ?_
      simp only [takeA, takeB, takeT, o2, if_false, Bool.not_false, Bool.false_eq_true]
      simp only [Try.ntmps120, Try.results120, push_cast, Nat.reduceAdd, Nat.reduceSub, Nat.reduceMul, Nat.reduceLeDiff, Nat.reduceEqDiff, Nat.reduceLT, Int.reduceLT, Int.reduceLE, Int.reduceEq, Int.reduceNeg, Int.reduceToNat, sc, frX]
end Go.Proofs.Ytadbfhgeekpdgaa
