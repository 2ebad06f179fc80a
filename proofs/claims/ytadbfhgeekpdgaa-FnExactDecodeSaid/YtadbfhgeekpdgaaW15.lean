/- Commands told and read: by their code. -/
import Derived.Test.YtadbfhgeekpdgaaW14
namespace Go.Proofs.Ytadbfhgeekpdgaa
open Go.RowKit Go.Rx
set_option linter.unusedSimpArgs false
set_option maxRecDepth 100000

theorem l17Var_ok (s : ByteArray) (hs : s.size ≤ 140737488355328) (a : Nat) (ha : a ≤ s.size) (b : Bool) : IoFn Try.prog 44 .box 3 [sc s a b] [] [sc s (numA s a b) (numB s a b)] [i64 (numN s a b)] := by
  refine IoFn_of_Go Try.func44 rfl (by decide) mo (by decide +kernel) (ioOk_box rfl) (ioOk_box rfl) rfl rfl ?_
  have k := readVarS_ok s hs a (by omega)
  cases b with
  | true =>
    cases hr : rvO s a with
    | none =>
      rw [hr] at k
      simp only [Try.ntmps44, Try.results44, push_cast, Nat.reduceAdd, Nat.reduceSub, Nat.reduceMul, Nat.reduceLeDiff, Nat.reduceEqDiff, Nat.reduceLT, Int.reduceLT, Int.reduceLE, Int.reduceEq, Int.reduceNeg, Int.reduceToNat, sc, numA, numB, numN, hr]
      refine GoD_call rfl rfl k rfl rfl ?_
      simp only [Try.ntmps44, Try.results44, push_cast, Nat.reduceAdd, Nat.reduceSub, Nat.reduceMul, Nat.reduceLeDiff, Nat.reduceEqDiff, Nat.reduceLT, Int.reduceLT, Int.reduceLE, Int.reduceEq, Int.reduceNeg, Int.reduceToNat, rvX, sc, numA, numB, numN, hr]
    | some p =>
      obtain ⟨n, x⟩ := p
      rw [hr] at k
      simp only [Try.ntmps44, Try.results44, push_cast, Nat.reduceAdd, Nat.reduceSub, Nat.reduceMul, Nat.reduceLeDiff, Nat.reduceEqDiff, Nat.reduceLT, Int.reduceLT, Int.reduceLE, Int.reduceEq, Int.reduceNeg, Int.reduceToNat, sc, numA, numB, numN, hr]
      refine GoD_call rfl rfl k rfl rfl ?_
      simp only [Try.ntmps44, Try.results44, push_cast, Nat.reduceAdd, Nat.reduceSub, Nat.reduceMul, Nat.reduceLeDiff, Nat.reduceEqDiff, Nat.reduceLT, Int.reduceLT, Int.reduceLE, Int.reduceEq, Int.reduceNeg, Int.reduceToNat, rvX, sc, numA, numB, numN, hr]
  | false =>
    cases hr : rvO s a with
    | none =>
      rw [hr] at k
      simp only [Try.ntmps44, Try.results44, push_cast, Nat.reduceAdd, Nat.reduceSub, Nat.reduceMul, Nat.reduceLeDiff, Nat.reduceEqDiff, Nat.reduceLT, Int.reduceLT, Int.reduceLE, Int.reduceEq, Int.reduceNeg, Int.reduceToNat, sc, numA, numB, numN, hr]
      refine GoD_call rfl rfl k rfl rfl ?_
      simp only [Try.ntmps44, Try.results44, push_cast, Nat.reduceAdd, Nat.reduceSub, Nat.reduceMul, Nat.reduceLeDiff, Nat.reduceEqDiff, Nat.reduceLT, Int.reduceLT, Int.reduceLE, Int.reduceEq, Int.reduceNeg, Int.reduceToNat, rvX, sc, numA, numB, numN, hr]
    | some p =>
      obtain ⟨n, x⟩ := p
      rw [hr] at k
      simp only [Try.ntmps44, Try.results44, push_cast, Nat.reduceAdd, Nat.reduceSub, Nat.reduceMul, Nat.reduceLeDiff, Nat.reduceEqDiff, Nat.reduceLT, Int.reduceLT, Int.reduceLE, Int.reduceEq, Int.reduceNeg, Int.reduceToNat, sc, numA, numB, numN, hr]
      refine GoD_call rfl rfl k rfl rfl ?_
      simp only [Try.ntmps44, Try.results44, push_cast, Nat.reduceAdd, Nat.reduceSub, Nat.reduceMul, Nat.reduceLeDiff, Nat.reduceEqDiff, Nat.reduceLT, Int.reduceLT, Int.reduceLE, Int.reduceEq, Int.reduceNeg, Int.reduceToNat, rvX, sc, numA, numB, numN, hr]
theorem l17Take_ok (s : ByteArray) (hs : s.size ≤ 140737488355328) (a : Nat) (ha : a ≤ s.size) (b : Bool) (n : Nat) (hn : n ≤ 140737488355328) : IoFn Try.prog 94 .box 3 [sc s a b] [i64 n] [sc s (takeA s a b n) (takeB s a b n)] [st (takeT s a b n)] := by
  refine IoFn_of_Go Try.func94 rfl (by decide) mo (by decide +kernel) (ioOk_box rfl) (ioOk_box rfl) rfl rfl ?_
  have w1 : IntKind.i64.wrap ((s.size : Int) - (a : Int)) = ((s.size - a : Nat) : Int) := wN (by omega) (by omega)
  obtain ⟨r, hr⟩ : ∃ r, r = s.size - a := ⟨_, rfl⟩
  rw [← hr] at w1
  have w2 : IntKind.i64.wrap ((a : Int) + (n : Int)) = ((a + n : Nat) : Int) := wN (by omega) (by omega)
  obtain ⟨x, hx⟩ : ∃ x, x = a + n := ⟨_, rfl⟩
  rw [← hx] at w2
  have w3 : IntKind.i64.wrap ((x : Int) - (n : Int)) = (a : Int) := wN (by omega) (by omega)
  cases b with
  | true =>
    have ho : takeOk s a true n = false := rfl
    simp only [Try.ntmps94, Try.results94, push_cast, Nat.reduceAdd, Nat.reduceSub, Nat.reduceMul, Nat.reduceLeDiff, Nat.reduceEqDiff, Nat.reduceLT, Int.reduceLT, Int.reduceLE, Int.reduceEq, Int.reduceNeg, Int.reduceToNat, sc, takeT, takeA, takeB, ho]
  | false =>
    by_cases c : (r : Int) < (n : Int)
    · have ho : takeOk s a false n = false := by simp [takeOk]; omega
      simp only [Try.ntmps94, Try.results94, push_cast, Nat.reduceAdd, Nat.reduceSub, Nat.reduceMul, Nat.reduceLeDiff, Nat.reduceEqDiff, Nat.reduceLT, Int.reduceLT, Int.reduceLE, Int.reduceEq, Int.reduceNeg, Int.reduceToNat, sc, takeT, takeA, takeB, ho, w1, c]
    · have ho : takeOk s a false n = true := by simp [takeOk]; omega
      have h1 : a ≤ x := by omega
      have h2 : x ≤ s.size := by omega
      simp only [Try.ntmps94, Try.results94, push_cast, Nat.reduceAdd, Nat.reduceSub, Nat.reduceMul, Nat.reduceLeDiff, Nat.reduceEqDiff, Nat.reduceLT, Int.reduceLT, Int.reduceLE, Int.reduceEq, Int.reduceNeg, Int.reduceToNat, sc, takeT, takeA, takeB, ho, w1, c, w2, w3, h1, h2, ← hx]
theorem l17One_ok (s : ByteArray) (hs : s.size ≤ 140737488355328) (a : Nat) (ha : a ≤ s.size) (b : Bool) : IoFn Try.prog 43 .box 3 [sc s a b] [] [sc s (takeA s a b 1) (takeB s a b 1)] [i64 (octN s a b)] := by
  refine IoFn_of_Go Try.func43 rfl (by decide) mo (by decide +kernel) (ioOk_box rfl) (ioOk_box rfl) rfl rfl ?_
  have k := l17Take_ok s hs a ha b 1 (by omega)
  simp only [Try.ntmps43, Try.results43, push_cast, Nat.reduceAdd, Nat.reduceSub, Nat.reduceMul, Nat.reduceLeDiff, Nat.reduceEqDiff, Nat.reduceLT, Int.reduceLT, Int.reduceLE, Int.reduceEq, Int.reduceNeg, Int.reduceToNat, sc]
  refine GoL_io (0, 1) .box 3 [sc s a b] rfl rfl rfl rfl (.inl rfl) rfl k rfl rfl ?_
  obtain ⟨x, hx⟩ : ∃ x, x = takeA s a b 1 := ⟨_, rfl⟩
  rw [← hx]
  cases ho : takeOk s a b 1 with
  | false =>
    have hB : takeB s a b 1 = true := by simp [takeB, ho]
    rw [hB]
    simp only [Try.ntmps43, Try.results43, push_cast, Nat.reduceAdd, Nat.reduceSub, Nat.reduceMul, Nat.reduceLeDiff, Nat.reduceEqDiff, Nat.reduceLT, Int.reduceLT, Int.reduceLE, Int.reduceEq, Int.reduceNeg, Int.reduceToNat, sc, octN, ho, Bool.false_eq_true, Int.ofNat_zero]
  | true =>
    have hB : takeB s a b 1 = false := by simp [takeB, ho]
    have hle : a + 1 ≤ s.size := by simp [takeOk] at ho; exact ho.2
    have ht : takeT s a b 1 = ⟨[bu s a].toArray⟩ := by simp only [takeT, ho, if_true]; exact extract_one hle
    rw [ht, hB]
    obtain ⟨t, htt⟩ : ∃ t : ByteArray, t = ⟨[bu s a].toArray⟩ := ⟨_, rfl⟩
    rw [← htt]
    have h0 : t[0]? = some (bu s a) := by rw [htt]; rfl
    have hw : IntKind.i64.wrap ((bu s a).toNat : Int) = ((bu s a).toNat : Int) := wN rfl (by have := u8_lt (bu s a); omega)
    have hi := index_str (P := Try.prog) (t := 9) t 0 .i64
    rw [show ((0 : Nat) : Int) = 0 from rfl, h0] at hi
    simp only [Try.ntmps43, Try.results43, push_cast, Nat.reduceAdd, Nat.reduceSub, Nat.reduceMul, Nat.reduceLeDiff, Nat.reduceEqDiff, Nat.reduceLT, Int.reduceLT, Int.reduceLE, Int.reduceEq, Int.reduceNeg, Int.reduceToNat, sc, octN, ho, hi, hw]
theorem l17ReadShort_ok (s : ByteArray) (hs : s.size ≤ 140737488355328) (a : Nat) (ha : a ≤ s.size) (b : Bool) : IoFn Try.prog 45 .box 3 [sc s a b] [] [sc s (l5A s a b) (l5B s a b)] [st (l5T s a b)] := by
  refine IoFn_of_Go Try.func45 rfl (by decide) mo (by decide +kernel) (ioOk_box rfl) (ioOk_box rfl) rfl rfl ?_
  have k := l17Var_ok s hs a ha b
  have hle := numA_le (b := b) ha
  have hnl := numN_le s a b
  simp only [Try.ntmps45, Try.results45, push_cast, Nat.reduceAdd, Nat.reduceSub, Nat.reduceMul, Nat.reduceLeDiff, Nat.reduceEqDiff, Nat.reduceLT, Int.reduceLT, Int.reduceLE, Int.reduceEq, Int.reduceNeg, Int.reduceToNat, sc]
  refine GoL_io (0, 1) .box 3 [sc s a b] rfl rfl rfl rfl (.inl rfl) rfl k rfl rfl ?_
  unfold l5A l5B l5T
  generalize numA s a b = x at hle ⊢
  generalize numB s a b = y
  generalize numN s a b = n at hnl ⊢
  have k2 := l17Take_ok s hs x hle y n (by omega)
  simp only [Try.ntmps45, Try.results45, push_cast, Nat.reduceAdd, Nat.reduceSub, Nat.reduceMul, Nat.reduceLeDiff, Nat.reduceEqDiff, Nat.reduceLT, Int.reduceLT, Int.reduceLE, Int.reduceEq, Int.reduceNeg, Int.reduceToNat, sc]
  refine GoL_io (0, 1) .box 3 [sc s x y] rfl rfl rfl rfl (.inl rfl) rfl k2 rfl rfl ?_
  simp only [Try.ntmps45, Try.results45, push_cast, Nat.reduceAdd, Nat.reduceSub, Nat.reduceMul, Nat.reduceLeDiff, Nat.reduceEqDiff, Nat.reduceLT, Int.reduceLT, Int.reduceLE, Int.reduceEq, Int.reduceNeg, Int.reduceToNat, sc]

def oneB (n : Nat) : ByteArray := ⟨[UInt8.ofNat n].toArray⟩
theorem l17Byte_ok (n : Nat) : PureFn Try.prog 95 [i64 n] [st (oneB n)] := by
  refine PureFn_of_Go Try.func95 rfl (by decide) mo (by decide +kernel) ?_
  have w := wu8 (n := n)
  have hf := str_natsOf [UInt8.ofNat n]
  simp only [natsOf, List.map_cons, List.map_nil] at hf
  unfold oneB
  obtain ⟨c, hc⟩ : ∃ c, c = UInt8.ofNat n := ⟨_, rfl⟩
  rw [← hc] at w hf ⊢
  simp only [Try.ntmps95, Try.results95, push_cast, Nat.reduceAdd, Nat.reduceSub, Nat.reduceMul, Nat.reduceLeDiff, Nat.reduceEqDiff, Nat.reduceLT, Int.reduceLT, Int.reduceLE, Int.reduceEq, Int.reduceNeg, Int.reduceToNat, w, hf]
def shortB (t : ByteArray) : ByteArray := varB t.size ++ t
theorem l17Short_ok (t : ByteArray) (ht : t.size ≤ 4000000000) : PureFn Try.prog 96 [st t] [st (shortB t)] := by
  refine PureFn_of_Go Try.func96 rfl (by decide) mo (by decide +kernel) ?_
  simp only [Try.ntmps96, Try.results96, push_cast, Nat.reduceAdd, Nat.reduceSub, Nat.reduceMul, Nat.reduceLeDiff, Nat.reduceEqDiff, Nat.reduceLT, Int.reduceLT, Int.reduceLE, Int.reduceEq, Int.reduceNeg, Int.reduceToNat]
  refine GoL_call rfl rfl (l01Var_ok t.size (by omega)) rfl rfl ?_
  have h1 := varB_size t.size
  have h2 : (varB t.size).size + t.size ≤ 9223372036854775807 := by omega
  simp only [Try.ntmps96, Try.results96, push_cast, Nat.reduceAdd, Nat.reduceSub, Nat.reduceMul, Nat.reduceLeDiff, Nat.reduceEqDiff, Nat.reduceLT, Int.reduceLT, Int.reduceLE, Int.reduceEq, Int.reduceNeg, Int.reduceToNat, h2, shortB]
def flB (y : Bool) : ByteArray := if y then ⟨#[1]⟩ else ⟨#[0]⟩
theorem l17Flag_ok (y : Bool) : PureFn Try.prog 97 [bo y] [st (flB y)] := by
  refine PureFn_of_Go Try.func97 rfl (by decide) mo (by decide +kernel) ?_
  cases y with
  | true => simp only [Try.ntmps97, Try.results97, push_cast, Nat.reduceAdd, Nat.reduceSub, Nat.reduceMul, Nat.reduceLeDiff, Nat.reduceEqDiff, Nat.reduceLT, Int.reduceLT, Int.reduceLE, Int.reduceEq, Int.reduceNeg, Int.reduceToNat, flB]
  | false => simp only [Try.ntmps97, Try.results97, push_cast, Nat.reduceAdd, Nat.reduceSub, Nat.reduceMul, Nat.reduceLeDiff, Nat.reduceEqDiff, Nat.reduceLT, Int.reduceLT, Int.reduceLE, Int.reduceEq, Int.reduceNeg, Int.reduceToNat, flB, Bool.false_eq_true]

theorem rest_text {x : Cmd} {a n o y : Bool} (h : restB x false a n o y = true) : x.text.size ≤ 600 := by
  simp only [restB, Bool.and_eq_true, Bool.or_eq_true, Bool.false_eq_true, false_or, decide_eq_true_eq] at h
  rw [h.1.1.1.1]; decide
theorem rest_task {x : Cmd} {t n o y : Bool} (h : restB x t false n o y = true) : x.task.size ≤ 600 := by
  simp only [restB, Bool.and_eq_true, Bool.or_eq_true, Bool.false_eq_true, false_or, decide_eq_true_eq] at h
  rw [h.1.1.1.2]; decide
theorem name_len {s : ByteArray} (h : nameB s = true) : s.size ≤ 600 := by
  simp only [nameB, Bool.and_eq_true] at h
  have := inR_spec.1 h.2
  omega
theorem cok_len {x : Cmd} (h : cokB x = true) : x.text.size ≤ 600 ∧ x.task.size ≤ 600 := by
  unfold cokB at h
  rw [Bool.and_eq_true] at h
  have h := h.2
  split at h
  · rw [Bool.and_eq_true] at h; exact ⟨rest_text h.2, rest_task h.2⟩
  split at h
  · rw [Bool.and_eq_true] at h; exact ⟨by have := of_decide_eq_true h.1; omega, rest_task h.2⟩
  split at h
  · rw [Bool.and_eq_true] at h; exact ⟨name_len h.1, rest_task h.2⟩
  split at h
  · rw [Bool.and_eq_true] at h; exact ⟨rest_text h.2, rest_task h.2⟩
  split at h
  · exact ⟨rest_text h, rest_task h⟩
  split at h
  · rw [Bool.and_eq_true] at h; exact ⟨rest_text h.2, rest_task h.2⟩
  split at h
  · rw [Bool.and_eq_true] at h; exact ⟨rest_text h.2, rest_task h.2⟩
  split at h
  · simp only [Bool.and_eq_true] at h; exact ⟨name_len h.1.1.1, rest_task h.2⟩
  split at h
  · simp only [Bool.and_eq_true] at h; exact ⟨name_len h.1.1.1, name_len h.1.2⟩
  · cases h

def mkC (o tok seq : Nat) (text task : ByteArray) (num to_ : Nat) (yes : Bool) : Cmd := ⟨o, tok, seq, text, task, num, to_, yes⟩
def ctB (o tok seq : Nat) (text task : ByteArray) (num to_ : Nat) (yes : Bool) : ByteArray :=
  ((((((oneB o ++ varB tok) ++ varB seq) ++ shortB text) ++ shortB task) ++ varB num) ++ varB to_) ++ flB yes
theorem commandText_ok (o tok seq : Nat) (text task : ByteArray) (num to_ : Nat) (yes : Bool) (h1 : tok ≤ 1000000000) (h2 : seq ≤ 1000000000) (h3 : num ≤ 1000000000) (h4 : to_ ≤ 1000000000)
    (h5 : text.size ≤ 140737488355328) (h6 : task.size ≤ 140737488355328) : PureFn Try.prog 46 [.agg (mkC o tok seq text task num to_ yes).enc]
      (if cokB (mkC o tok seq text task num to_ yes) then [st (ctB o tok seq text task num to_ yes), bo true] else [st ⟨#[]⟩, bo false]) := by
  refine PureFn_of_Go Try.func46 rfl (by decide) mo (by decide +kernel) ?_
  have k := commandOkS_ok (mkC o tok seq text task num to_ yes) ⟨h5, h6⟩
  cases hc : cokB (mkC o tok seq text task num to_ yes) with
  | false =>
    rw [hc] at k
    simp only [Cmd.enc, mkC] at k
    simp only [Bool.false_eq_true, if_false]
    simp only [Try.ntmps46, Try.results46, push_cast, Nat.reduceAdd, Nat.reduceSub, Nat.reduceMul, Nat.reduceLeDiff, Nat.reduceEqDiff, Nat.reduceLT, Int.reduceLT, Int.reduceLE, Int.reduceEq, Int.reduceNeg, Int.reduceToNat, Cmd.enc, mkC]
    refine GoL_call rfl rfl k rfl rfl ?_
    simp only [Try.ntmps46, Try.results46, push_cast, Nat.reduceAdd, Nat.reduceSub, Nat.reduceMul, Nat.reduceLeDiff, Nat.reduceEqDiff, Nat.reduceLT, Int.reduceLT, Int.reduceLE, Int.reduceEq, Int.reduceNeg, Int.reduceToNat, Cmd.enc, mkC]
  | true =>
    obtain ⟨l1, l2⟩ := cok_len hc
    rw [hc] at k
    simp only [Cmd.enc, mkC] at k l1 l2
    simp only [if_true]
    have s1 : (oneB o).size = 1 := rfl
    have s2 := varB_size tok
    have s3 := varB_size seq
    have s4 : (shortB text).size ≤ text.size + 1 + text.size := by unfold shortB; rw [ByteArray.size_append]; have := varB_size text.size; omega
    have s5 : (shortB task).size ≤ task.size + 1 + task.size := by unfold shortB; rw [ByteArray.size_append]; have := varB_size task.size; omega
    have s6 := varB_size num
    have s7 := varB_size to_
    have s8 : (flB yes).size = 1 := by cases yes <;> rfl
    have r1 : (oneB o).size + (varB tok).size ≤ 9223372036854775807 := by omega
    have r2 : (oneB o ++ varB tok).size + (varB seq).size ≤ 9223372036854775807 := by simp only [ByteArray.size_append]; omega
    have r3 : ((oneB o ++ varB tok) ++ varB seq).size + (shortB text).size ≤ 9223372036854775807 := by simp only [ByteArray.size_append]; omega
    have r4 : (((oneB o ++ varB tok) ++ varB seq) ++ shortB text).size + (shortB task).size ≤ 9223372036854775807 := by simp only [ByteArray.size_append]; omega
    have r5 : ((((oneB o ++ varB tok) ++ varB seq) ++ shortB text) ++ shortB task).size + (varB num).size ≤ 9223372036854775807 := by simp only [ByteArray.size_append]; omega
    have r6 : (((((oneB o ++ varB tok) ++ varB seq) ++ shortB text) ++ shortB task) ++ varB num).size + (varB to_).size ≤ 9223372036854775807 := by simp only [ByteArray.size_append]; omega
    have r7 : ((((((oneB o ++ varB tok) ++ varB seq) ++ shortB text) ++ shortB task) ++ varB num) ++ varB to_).size + (flB yes).size ≤ 9223372036854775807 := by simp only [ByteArray.size_append]; omega
    simp only [Try.ntmps46, Try.results46, push_cast, Nat.reduceAdd, Nat.reduceSub, Nat.reduceMul, Nat.reduceLeDiff, Nat.reduceEqDiff, Nat.reduceLT, Int.reduceLT, Int.reduceLE, Int.reduceEq, Int.reduceNeg, Int.reduceToNat, Cmd.enc, mkC]
    refine GoL_call rfl rfl k rfl rfl ?_
    simp only [Try.ntmps46, Try.results46, push_cast, Nat.reduceAdd, Nat.reduceSub, Nat.reduceMul, Nat.reduceLeDiff, Nat.reduceEqDiff, Nat.reduceLT, Int.reduceLT, Int.reduceLE, Int.reduceEq, Int.reduceNeg, Int.reduceToNat]
    refine GoD_call rfl rfl (l17Byte_ok o) rfl rfl ?_
    simp only [Try.ntmps46, Try.results46, push_cast, Nat.reduceAdd, Nat.reduceSub, Nat.reduceMul, Nat.reduceLeDiff, Nat.reduceEqDiff, Nat.reduceLT, Int.reduceLT, Int.reduceLE, Int.reduceEq, Int.reduceNeg, Int.reduceToNat]
    refine GoD_call rfl rfl (l01Var_ok tok (by omega)) rfl rfl ?_
    simp only [Try.ntmps46, Try.results46, push_cast, Nat.reduceAdd, Nat.reduceSub, Nat.reduceMul, Nat.reduceLeDiff, Nat.reduceEqDiff, Nat.reduceLT, Int.reduceLT, Int.reduceLE, Int.reduceEq, Int.reduceNeg, Int.reduceToNat, r1]
    refine GoD_call rfl rfl (l01Var_ok seq (by omega)) rfl rfl ?_
    simp only [Try.ntmps46, Try.results46, push_cast, Nat.reduceAdd, Nat.reduceSub, Nat.reduceMul, Nat.reduceLeDiff, Nat.reduceEqDiff, Nat.reduceLT, Int.reduceLT, Int.reduceLE, Int.reduceEq, Int.reduceNeg, Int.reduceToNat, r2]
    refine GoD_call rfl rfl (l17Short_ok text (by omega)) rfl rfl ?_
    simp only [Try.ntmps46, Try.results46, push_cast, Nat.reduceAdd, Nat.reduceSub, Nat.reduceMul, Nat.reduceLeDiff, Nat.reduceEqDiff, Nat.reduceLT, Int.reduceLT, Int.reduceLE, Int.reduceEq, Int.reduceNeg, Int.reduceToNat, r3]
    refine GoD_call rfl rfl (l17Short_ok task (by omega)) rfl rfl ?_
    simp only [Try.ntmps46, Try.results46, push_cast, Nat.reduceAdd, Nat.reduceSub, Nat.reduceMul, Nat.reduceLeDiff, Nat.reduceEqDiff, Nat.reduceLT, Int.reduceLT, Int.reduceLE, Int.reduceEq, Int.reduceNeg, Int.reduceToNat, r4]
    refine GoD_call rfl rfl (l01Var_ok num (by omega)) rfl rfl ?_
    simp only [Try.ntmps46, Try.results46, push_cast, Nat.reduceAdd, Nat.reduceSub, Nat.reduceMul, Nat.reduceLeDiff, Nat.reduceEqDiff, Nat.reduceLT, Int.reduceLT, Int.reduceLE, Int.reduceEq, Int.reduceNeg, Int.reduceToNat, r5]
    refine GoD_call rfl rfl (l01Var_ok to_ (by omega)) rfl rfl ?_
    simp only [Try.ntmps46, Try.results46, push_cast, Nat.reduceAdd, Nat.reduceSub, Nat.reduceMul, Nat.reduceLeDiff, Nat.reduceEqDiff, Nat.reduceLT, Int.reduceLT, Int.reduceLE, Int.reduceEq, Int.reduceNeg, Int.reduceToNat, r6]
    refine GoD_call rfl rfl (l17Flag_ok yes) rfl rfl ?_
    simp only [Try.ntmps46, Try.results46, push_cast, Nat.reduceAdd, Nat.reduceSub, Nat.reduceMul, Nat.reduceLeDiff, Nat.reduceEqDiff, Nat.reduceLT, Int.reduceLT, Int.reduceLE, Int.reduceEq, Int.reduceNeg, Int.reduceToNat, r7, ctB]
end Go.Proofs.Ytadbfhgeekpdgaa
