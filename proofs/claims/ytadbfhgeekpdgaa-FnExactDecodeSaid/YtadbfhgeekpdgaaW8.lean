/- The scanner's other methods, and the reference's cursor. -/
import Derived.Test.YtadbfhgeekpdgaaW4
namespace Go.Proofs.Ytadbfhgeekpdgaa
open Go.RowKit Go.Rx
set_option linter.unusedSimpArgs false
set_option maxRecDepth 100000

theorem numA_le {s : ByteArray} {a : Nat} {b : Bool} (ha : a ≤ s.size) : numA s a b ≤ s.size := by
  unfold numA
  split
  · exact ha
  · cases h : rvO s a with
    | none => exact ha
    | some p => obtain ⟨n, x⟩ := p; exact (rvO_bound h).2.2.2
theorem numN_le (s : ByteArray) (a : Nat) (b : Bool) : numN s a b ≤ 1000000000 := by
  unfold numN
  split
  · exact Nat.zero_le _
  · cases h : rvO s a with
    | none => exact Nat.zero_le _
    | some p => obtain ⟨n, x⟩ := p; exact (rvO_bound h).1
theorem takeA_le {s : ByteArray} {a : Nat} {b : Bool} {n : Nat} (ha : a ≤ s.size) : takeA s a b n ≤ s.size := by
  unfold takeA
  cases h : takeOk s a b n with
  | false => simpa using ha
  | true =>
    simp [takeOk] at h
    simp; exact h.2

theorem l05Var_ok (s : ByteArray) (hs : s.size ≤ 140737488355328) (a : Nat) (ha : a ≤ s.size) (b : Bool) : IoFn Try.prog 36 .box 3 [sc s a b] [] [sc s (numA s a b) (numB s a b)] [i64 (numN s a b)] := by
  refine IoFn_of_Go Try.func36 rfl (by decide) mo (by decide +kernel) (ioOk_box rfl) (ioOk_box rfl) rfl rfl ?_
  have k := readVarS_ok s hs a (by omega)
  cases b with
  | true =>
    cases hr : rvO s a with
    | none =>
      rw [hr] at k
      simp only [Try.ntmps36, Try.results36, push_cast, Nat.reduceAdd, Nat.reduceSub, Nat.reduceMul, Nat.reduceLeDiff, Nat.reduceEqDiff, Nat.reduceLT, Int.reduceLT, Int.reduceLE, Int.reduceEq, Int.reduceNeg, Int.reduceToNat, sc, numA, numB, numN, hr]
      refine GoD_call rfl rfl k rfl rfl ?_
      simp only [Try.ntmps36, Try.results36, push_cast, Nat.reduceAdd, Nat.reduceSub, Nat.reduceMul, Nat.reduceLeDiff, Nat.reduceEqDiff, Nat.reduceLT, Int.reduceLT, Int.reduceLE, Int.reduceEq, Int.reduceNeg, Int.reduceToNat, rvX, sc, numA, numB, numN, hr]
    | some p =>
      obtain ⟨n, x⟩ := p
      rw [hr] at k
      simp only [Try.ntmps36, Try.results36, push_cast, Nat.reduceAdd, Nat.reduceSub, Nat.reduceMul, Nat.reduceLeDiff, Nat.reduceEqDiff, Nat.reduceLT, Int.reduceLT, Int.reduceLE, Int.reduceEq, Int.reduceNeg, Int.reduceToNat, sc, numA, numB, numN, hr]
      refine GoD_call rfl rfl k rfl rfl ?_
      simp only [Try.ntmps36, Try.results36, push_cast, Nat.reduceAdd, Nat.reduceSub, Nat.reduceMul, Nat.reduceLeDiff, Nat.reduceEqDiff, Nat.reduceLT, Int.reduceLT, Int.reduceLE, Int.reduceEq, Int.reduceNeg, Int.reduceToNat, rvX, sc, numA, numB, numN, hr]
  | false =>
    cases hr : rvO s a with
    | none =>
      rw [hr] at k
      simp only [Try.ntmps36, Try.results36, push_cast, Nat.reduceAdd, Nat.reduceSub, Nat.reduceMul, Nat.reduceLeDiff, Nat.reduceEqDiff, Nat.reduceLT, Int.reduceLT, Int.reduceLE, Int.reduceEq, Int.reduceNeg, Int.reduceToNat, sc, numA, numB, numN, hr]
      refine GoD_call rfl rfl k rfl rfl ?_
      simp only [Try.ntmps36, Try.results36, push_cast, Nat.reduceAdd, Nat.reduceSub, Nat.reduceMul, Nat.reduceLeDiff, Nat.reduceEqDiff, Nat.reduceLT, Int.reduceLT, Int.reduceLE, Int.reduceEq, Int.reduceNeg, Int.reduceToNat, rvX, sc, numA, numB, numN, hr]
    | some p =>
      obtain ⟨n, x⟩ := p
      rw [hr] at k
      simp only [Try.ntmps36, Try.results36, push_cast, Nat.reduceAdd, Nat.reduceSub, Nat.reduceMul, Nat.reduceLeDiff, Nat.reduceEqDiff, Nat.reduceLT, Int.reduceLT, Int.reduceLE, Int.reduceEq, Int.reduceNeg, Int.reduceToNat, sc, numA, numB, numN, hr]
      refine GoD_call rfl rfl k rfl rfl ?_
      simp only [Try.ntmps36, Try.results36, push_cast, Nat.reduceAdd, Nat.reduceSub, Nat.reduceMul, Nat.reduceLeDiff, Nat.reduceEqDiff, Nat.reduceLT, Int.reduceLT, Int.reduceLE, Int.reduceEq, Int.reduceNeg, Int.reduceToNat, rvX, sc, numA, numB, numN, hr]
theorem l05Take_ok (s : ByteArray) (hs : s.size ≤ 140737488355328) (a : Nat) (ha : a ≤ s.size) (b : Bool) (n : Nat) (hn : n ≤ 140737488355328) : IoFn Try.prog 35 .box 3 [sc s a b] [i64 n] [sc s (takeA s a b n) (takeB s a b n)] [st (takeT s a b n)] := by
  refine IoFn_of_Go Try.func35 rfl (by decide) mo (by decide +kernel) (ioOk_box rfl) (ioOk_box rfl) rfl rfl ?_
  have w1 : IntKind.i64.wrap ((s.size : Int) - (a : Int)) = ((s.size - a : Nat) : Int) := wN (by omega) (by omega)
  obtain ⟨r, hr⟩ : ∃ r, r = s.size - a := ⟨_, rfl⟩
  rw [← hr] at w1
  have w2 : IntKind.i64.wrap ((a : Int) + (n : Int)) = ((a + n : Nat) : Int) := wN (by omega) (by omega)
  obtain ⟨x, hx⟩ : ∃ x, x = a + n := ⟨_, rfl⟩
  rw [← hx] at w2
  have w3 : IntKind.i64.wrap ((x : Int) - (n : Int)) = (a : Int) := wN (by omega) (by omega)
  cases b with
  | true =>
    have ho : takeOk s a true n = false := rfl
    simp only [Try.ntmps35, Try.results35, push_cast, Nat.reduceAdd, Nat.reduceSub, Nat.reduceMul, Nat.reduceLeDiff, Nat.reduceEqDiff, Nat.reduceLT, Int.reduceLT, Int.reduceLE, Int.reduceEq, Int.reduceNeg, Int.reduceToNat, sc, takeT, takeA, takeB, ho]
  | false =>
    by_cases c : (r : Int) < (n : Int)
    · have ho : takeOk s a false n = false := by simp [takeOk]; omega
      simp only [Try.ntmps35, Try.results35, push_cast, Nat.reduceAdd, Nat.reduceSub, Nat.reduceMul, Nat.reduceLeDiff, Nat.reduceEqDiff, Nat.reduceLT, Int.reduceLT, Int.reduceLE, Int.reduceEq, Int.reduceNeg, Int.reduceToNat, sc, takeT, takeA, takeB, ho, w1, c]
    · have ho : takeOk s a false n = true := by simp [takeOk]; omega
      have h1 : a ≤ x := by omega
      have h2 : x ≤ s.size := by omega
      simp only [Try.ntmps35, Try.results35, push_cast, Nat.reduceAdd, Nat.reduceSub, Nat.reduceMul, Nat.reduceLeDiff, Nat.reduceEqDiff, Nat.reduceLT, Int.reduceLT, Int.reduceLE, Int.reduceEq, Int.reduceNeg, Int.reduceToNat, sc, takeT, takeA, takeB, ho, w1, c, w2, w3, h1, h2, ← hx]

def octN (s : ByteArray) (a : Nat) (b : Bool) : Nat := if takeOk s a b 1 then (bu s a).toNat else 0
theorem octN_lt (s : ByteArray) (a : Nat) (b : Bool) : octN s a b < 256 := by
  unfold octN
  split
  · exact u8_lt _
  · decide
theorem extract_one {s : ByteArray} {a : Nat} (h : a + 1 ≤ s.size) : s.extract a (a + 1) = ⟨[bu s a].toArray⟩ := by
  refine bytes_ext ?_
  rw [extract_list, show a + 1 - a = 0 + 1 by omega, seg_succ (by omega), seg_zero]; rfl
theorem octet_ok (s : ByteArray) (hs : s.size ≤ 140737488355328) (a : Nat) (ha : a ≤ s.size) (b : Bool) : IoFn Try.prog 40 .box 3 [sc s a b] [] [sc s (takeA s a b 1) (takeB s a b 1)] [i64 (octN s a b)] := by
  refine IoFn_of_Go Try.func40 rfl (by decide) mo (by decide +kernel) (ioOk_box rfl) (ioOk_box rfl) rfl rfl ?_
  have k := take_ok s hs a ha b 1 (by omega)
  simp only [Try.ntmps40, Try.results40, push_cast, Nat.reduceAdd, Nat.reduceSub, Nat.reduceMul, Nat.reduceLeDiff, Nat.reduceEqDiff, Nat.reduceLT, Int.reduceLT, Int.reduceLE, Int.reduceEq, Int.reduceNeg, Int.reduceToNat, sc]
  refine GoL_io (0, 1) .box 3 [sc s a b] rfl rfl rfl rfl (.inl rfl) rfl k rfl rfl ?_
  obtain ⟨x, hx⟩ : ∃ x, x = takeA s a b 1 := ⟨_, rfl⟩
  obtain ⟨y, hy⟩ : ∃ y, y = takeB s a b 1 := ⟨_, rfl⟩
  rw [← hx, ← hy]
  cases ho : takeOk s a b 1 with
  | false =>
    have ht : takeT s a b 1 = ⟨#[]⟩ := by simp [takeT, ho]
    rw [ht]
    simp only [Try.ntmps40, Try.results40, push_cast, Nat.reduceAdd, Nat.reduceSub, Nat.reduceMul, Nat.reduceLeDiff, Nat.reduceEqDiff, Nat.reduceLT, Int.reduceLT, Int.reduceLE, Int.reduceEq, Int.reduceNeg, Int.reduceToNat, sc, octN, ho, Bool.false_eq_true, Int.ofNat_zero]
  | true =>
    have hle : a + 1 ≤ s.size := by simp [takeOk] at ho; exact ho.2
    have ht : takeT s a b 1 = ⟨[bu s a].toArray⟩ := by simp only [takeT, ho, if_true]; exact extract_one hle
    rw [ht]
    obtain ⟨t, htt⟩ : ∃ t : ByteArray, t = ⟨[bu s a].toArray⟩ := ⟨_, rfl⟩
    rw [← htt]
    have hne : decide (t = ⟨#[]⟩) = false := by
      rw [htt]; apply decide_eq_false; intro h
      have := congrArg ByteArray.size h
      have h2 : (1 : Nat) = 0 := this
      omega
    have h0 : t[0]? = some (bu s a) := by rw [htt]; rfl
    have hw : IntKind.i64.wrap ((bu s a).toNat : Int) = ((bu s a).toNat : Int) := wN rfl (by have := u8_lt (bu s a); omega)
    have hi := index_str (P := Try.prog) (t := 9) t 0 .i64
    rw [show ((0 : Nat) : Int) = 0 from rfl, h0] at hi
    simp only [Try.ntmps40, Try.results40, push_cast, Nat.reduceAdd, Nat.reduceSub, Nat.reduceMul, Nat.reduceLeDiff, Nat.reduceEqDiff, Nat.reduceLT, Int.reduceLT, Int.reduceLE, Int.reduceEq, Int.reduceNeg, Int.reduceToNat, sc, octN, ho, hne, hi, hw]

def flagB (s : ByteArray) (a : Nat) (b : Bool) : Bool := if 1 < octN s a b then true else takeB s a b 1
theorem flag_ok (s : ByteArray) (hs : s.size ≤ 140737488355328) (a : Nat) (ha : a ≤ s.size) (b : Bool) : IoFn Try.prog 48 .box 3 [sc s a b] [] [sc s (takeA s a b 1) (flagB s a b)] [bo (decide ((octN s a b : Int) = 1))] := by
  refine IoFn_of_Go Try.func48 rfl (by decide) mo (by decide +kernel) (ioOk_box rfl) (ioOk_box rfl) rfl rfl ?_
  have k := octet_ok s hs a ha b
  simp only [Try.ntmps48, Try.results48, push_cast, Nat.reduceAdd, Nat.reduceSub, Nat.reduceMul, Nat.reduceLeDiff, Nat.reduceEqDiff, Nat.reduceLT, Int.reduceLT, Int.reduceLE, Int.reduceEq, Int.reduceNeg, Int.reduceToNat, sc]
  refine GoL_io (0, 1) .box 3 [sc s a b] rfl rfl rfl rfl (.inl rfl) rfl k rfl rfl ?_
  obtain ⟨x, hx⟩ : ∃ x, x = takeA s a b 1 := ⟨_, rfl⟩
  unfold flagB
  obtain ⟨y, hy⟩ : ∃ y, y = takeB s a b 1 := ⟨_, rfl⟩
  rw [← hx, ← hy]
  generalize octN s a b = n
  by_cases c : (1 : Int) < (n : Int)
  · have c' : 1 < n := by omega
    simp only [Try.ntmps48, Try.results48, push_cast, Nat.reduceAdd, Nat.reduceSub, Nat.reduceMul, Nat.reduceLeDiff, Nat.reduceEqDiff, Nat.reduceLT, Int.reduceLT, Int.reduceLE, Int.reduceEq, Int.reduceNeg, Int.reduceToNat, sc, c, c']
  · have c' : ¬ 1 < n := by omega
    simp only [Try.ntmps48, Try.results48, push_cast, Nat.reduceAdd, Nat.reduceSub, Nat.reduceMul, Nat.reduceLeDiff, Nat.reduceEqDiff, Nat.reduceLT, Int.reduceLT, Int.reduceLE, Int.reduceEq, Int.reduceNeg, Int.reduceToNat, sc, c, c']

def shB (s : ByteArray) (a : Nat) (b : Bool) : Bool := if 20000 < numN s a b then true else numB s a b
def shT (s : ByteArray) (a : Nat) (b : Bool) : ByteArray := takeT s (numA s a b) (shB s a b) (numN s a b)
def shA (s : ByteArray) (a : Nat) (b : Bool) : Nat := takeA s (numA s a b) (shB s a b) (numN s a b)
def shBB (s : ByteArray) (a : Nat) (b : Bool) : Bool := takeB s (numA s a b) (shB s a b) (numN s a b)
theorem short_ok (s : ByteArray) (hs : s.size ≤ 140737488355328) (a : Nat) (ha : a ≤ s.size) (b : Bool) : IoFn Try.prog 47 .box 3 [sc s a b] [] [sc s (shA s a b) (shBB s a b)] [st (shT s a b)] := by
  refine IoFn_of_Go Try.func47 rfl (by decide) mo (by decide +kernel) (ioOk_box rfl) (ioOk_box rfl) rfl rfl ?_
  have k := number_ok s hs a b
  have hle := numA_le (b := b) ha
  have hnl := numN_le s a b
  simp only [Try.ntmps47, Try.results47, push_cast, Nat.reduceAdd, Nat.reduceSub, Nat.reduceMul, Nat.reduceLeDiff, Nat.reduceEqDiff, Nat.reduceLT, Int.reduceLT, Int.reduceLE, Int.reduceEq, Int.reduceNeg, Int.reduceToNat, sc]
  refine GoL_io (0, 1) .box 3 [sc s a b] rfl rfl rfl rfl (.inl rfl) rfl k rfl rfl ?_
  unfold shA shBB shT shB
  generalize numA s a b = x at hle ⊢
  generalize numB s a b = y
  generalize numN s a b = n at hnl ⊢
  by_cases c : (20000 : Int) < (n : Int)
  · have c' : 20000 < n := by omega
    have k2 := take_ok s hs x hle true n (by omega)
    simp only [c', if_true]
    simp only [Try.ntmps47, Try.results47, push_cast, Nat.reduceAdd, Nat.reduceSub, Nat.reduceMul, Nat.reduceLeDiff, Nat.reduceEqDiff, Nat.reduceLT, Int.reduceLT, Int.reduceLE, Int.reduceEq, Int.reduceNeg, Int.reduceToNat, sc, c]
    refine GoL_io (0, 1) .box 3 [sc s x true] rfl rfl rfl rfl (.inl rfl) rfl k2 rfl rfl ?_
    simp only [Try.ntmps47, Try.results47, push_cast, Nat.reduceAdd, Nat.reduceSub, Nat.reduceMul, Nat.reduceLeDiff, Nat.reduceEqDiff, Nat.reduceLT, Int.reduceLT, Int.reduceLE, Int.reduceEq, Int.reduceNeg, Int.reduceToNat, sc]
  · have c' : ¬ 20000 < n := by omega
    have k2 := take_ok s hs x hle y n (by omega)
    simp only [c', if_false]
    simp only [Try.ntmps47, Try.results47, push_cast, Nat.reduceAdd, Nat.reduceSub, Nat.reduceMul, Nat.reduceLeDiff, Nat.reduceEqDiff, Nat.reduceLT, Int.reduceLT, Int.reduceLE, Int.reduceEq, Int.reduceNeg, Int.reduceToNat, sc, c]
    refine GoL_io (0, 1) .box 3 [sc s x y] rfl rfl rfl rfl (.inl rfl) rfl k2 rfl rfl ?_
    simp only [Try.ntmps47, Try.results47, push_cast, Nat.reduceAdd, Nat.reduceSub, Nat.reduceMul, Nat.reduceLeDiff, Nat.reduceEqDiff, Nat.reduceLT, Int.reduceLT, Int.reduceLE, Int.reduceEq, Int.reduceNeg, Int.reduceToNat, sc]
def l5A (s : ByteArray) (a : Nat) (b : Bool) : Nat := takeA s (numA s a b) (numB s a b) (numN s a b)
def l5B (s : ByteArray) (a : Nat) (b : Bool) : Bool := takeB s (numA s a b) (numB s a b) (numN s a b)
def l5T (s : ByteArray) (a : Nat) (b : Bool) : ByteArray := takeT s (numA s a b) (numB s a b) (numN s a b)
theorem l05ReadShort_ok (s : ByteArray) (hs : s.size ≤ 140737488355328) (a : Nat) (ha : a ≤ s.size) (b : Bool) : IoFn Try.prog 63 .box 3 [sc s a b] [] [sc s (l5A s a b) (l5B s a b)] [st (l5T s a b)] := by
  refine IoFn_of_Go Try.func63 rfl (by decide) mo (by decide +kernel) (ioOk_box rfl) (ioOk_box rfl) rfl rfl ?_
  have k := l05Var_ok s hs a ha b
  have hle := numA_le (b := b) ha
  have hnl := numN_le s a b
  simp only [Try.ntmps63, Try.results63, push_cast, Nat.reduceAdd, Nat.reduceSub, Nat.reduceMul, Nat.reduceLeDiff, Nat.reduceEqDiff, Nat.reduceLT, Int.reduceLT, Int.reduceLE, Int.reduceEq, Int.reduceNeg, Int.reduceToNat, sc]
  refine GoL_io (0, 1) .box 3 [sc s a b] rfl rfl rfl rfl (.inl rfl) rfl k rfl rfl ?_
  unfold l5A l5B l5T
  generalize numA s a b = x at hle ⊢
  generalize numB s a b = y
  generalize numN s a b = n at hnl ⊢
  have k2 := l05Take_ok s hs x hle y n (by omega)
  simp only [Try.ntmps63, Try.results63, push_cast, Nat.reduceAdd, Nat.reduceSub, Nat.reduceMul, Nat.reduceLeDiff, Nat.reduceEqDiff, Nat.reduceLT, Int.reduceLT, Int.reduceLE, Int.reduceEq, Int.reduceNeg, Int.reduceToNat, sc]
  refine GoL_io (0, 1) .box 3 [sc s x y] rfl rfl rfl rfl (.inl rfl) rfl k2 rfl rfl ?_
  simp only [Try.ntmps63, Try.results63, push_cast, Nat.reduceAdd, Nat.reduceSub, Nat.reduceMul, Nat.reduceLeDiff, Nat.reduceEqDiff, Nat.reduceLT, Int.reduceLT, Int.reduceLE, Int.reduceEq, Int.reduceNeg, Int.reduceToNat, sc]
theorem done_ok (s : ByteArray) (a : Nat) (b : Bool) : IoFn Try.prog 49 .box 3 [sc s a b] [] [sc s a b] [bo (!b && decide ((a : Int) = (s.size : Int)))] := by
  refine IoFn_of_Go Try.func49 rfl (by decide) mo (by decide +kernel) (ioOk_box rfl) (ioOk_box rfl) rfl rfl ?_
  cases b with
  | true => simp only [Try.ntmps49, Try.results49, push_cast, Nat.reduceAdd, Nat.reduceSub, Nat.reduceMul, Nat.reduceLeDiff, Nat.reduceEqDiff, Nat.reduceLT, Int.reduceLT, Int.reduceLE, Int.reduceEq, Int.reduceNeg, Int.reduceToNat, sc]
  | false => simp only [Try.ntmps49, Try.results49, push_cast, Nat.reduceAdd, Nat.reduceSub, Nat.reduceMul, Nat.reduceLeDiff, Nat.reduceEqDiff, Nat.reduceLT, Int.reduceLT, Int.reduceLE, Int.reduceEq, Int.reduceNeg, Int.reduceToNat, sc]
end Go.Proofs.Ytadbfhgeekpdgaa
