/- Names and commands: what these functions return, by their code. -/
import Derived.Test.YtadbfhgeekpdgaaW11
namespace Go.Proofs.Ytadbfhgeekpdgaa
open Go.RowKit Go.Rx
set_option linter.unusedSimpArgs false
set_option maxRecDepth 100000

/-! ### names -/
def letP (s : ByteArray) (i : Nat) : Prop := (97 ≤ (bu s i).toNat ∧ (bu s i).toNat ≤ 122) ∨ (i ≠ 0 ∧ 48 ≤ (bu s i).toNat ∧ (bu s i).toNat ≤ 57)
def nameP (s : ByteArray) : Prop := ∀ i, i < s.size → letP s i
instance (s : ByteArray) (i : Nat) : Decidable (letP s i) := by unfold letP; infer_instance
instance (s : ByteArray) : Decidable (nameP s) := by unfold nameP; infer_instance
def nameB (s : ByteArray) : Bool := decide (nameP s) && inR s.size 1 8
theorem nameI_ok (s : ByteArray) (hs : s.size ≤ 140737488355328) : PureFn Try.prog 99 [st s] [bo (nameB s)] := by
  refine PureFn_of_Go Try.func99 rfl (by decide) mo (by decide +kernel) ?_
  obtain ⟨r, hr⟩ : ∃ r, r = nameB s := ⟨_, rfl⟩
  rw [← hr]
  simp only [Try.ntmps99, Try.results99, push_cast, Nat.reduceAdd, Nat.reduceSub, Nat.reduceMul, Nat.reduceLeDiff, Nat.reduceEqDiff, Nat.reduceLT, Int.reduceLT, Int.reduceLE, Int.reduceEq, Int.reduceNeg, Int.reduceToNat]
  refine Go_loop (α := {i : Nat // i ≤ s.size ∧ ∀ j, j < i → letP s j})
    (fun i => ⟨tp 42 [(0, .x (st s)), (3, int i.1)], 0, [], []⟩) (fun i => s.size - i.1) ⟨0, by omega, fun j h => absurd h (Nat.not_lt_zero _)⟩ ?_ ?_
  · exact Weak.same (by simp only [push_cast, Nat.reduceAdd, Nat.reduceSub, Nat.reduceMul, Nat.reduceLeDiff, Nat.reduceEqDiff, Nat.reduceLT, Int.reduceLT, Int.reduceLE, Int.reduceEq, Int.reduceNeg, Int.reduceToNat, Int.ofNat_zero])
  · rintro ⟨i, hi, hall⟩ X hX
    by_cases hlt : (i : Int) < (s.size : Int)
    · have hi' : i < s.size := by omega
      have hb := bu_get hi'
      have ws := wsucc hi' hs
      obtain ⟨i', hi1⟩ : ∃ i', i' = i + 1 := ⟨_, rfl⟩
      rw [← hi1] at ws
      have bad : ¬ letP s i → r = false := fun h => by
        rw [hr, nameB, decide_eq_false fun hp => h (hp i hi'), Bool.false_and]
      have next : letP s i → ∀ j, j < i' → letP s j := fun h j hj => by
        by_cases e : j = i
        · subst e; exact h
        · exact hall j (by omega)
      by_cases c1 : (97 : Int) ≤ ((bu s i).toNat : Int)
      · by_cases c2 : ((bu s i).toNat : Int) ≤ 122
        · simp only [push_cast, Nat.reduceAdd, Nat.reduceSub, Nat.reduceMul, Nat.reduceLeDiff, Nat.reduceEqDiff, Nat.reduceLT, Int.reduceLT, Int.reduceLE, Int.reduceEq, Int.reduceNeg, Int.reduceToNat, hlt, hb, c1, c2, ws]
          refine ⟨_, ?_, hX ⟨i', by omega, next (.inl ⟨by omega, by omega⟩)⟩ (by simp only; omega)⟩
          exact Weak.same (by simp only [push_cast, Nat.reduceAdd, Nat.reduceSub, Nat.reduceMul, Nat.reduceLeDiff, Nat.reduceEqDiff, Nat.reduceLT, Int.reduceLT, Int.reduceLE, Int.reduceEq, Int.reduceNeg, Int.reduceToNat])
        · have hf := bad (by unfold letP; omega)
          subst hf
          have c5 : (57 : Int) < ((bu s i).toNat : Int) := by omega
          have c4 : ¬ ((bu s i).toNat : Int) < 48 := by omega
          cases c3 : decide ((i : Int) = 0) with
          | true => simp only [Try.ntmps99, Try.results99, push_cast, Nat.reduceAdd, Nat.reduceSub, Nat.reduceMul, Nat.reduceLeDiff, Nat.reduceEqDiff, Nat.reduceLT, Int.reduceLT, Int.reduceLE, Int.reduceEq, Int.reduceNeg, Int.reduceToNat, hlt, hb, c1, c2, c3]
          | false => simp only [Try.ntmps99, Try.results99, push_cast, Nat.reduceAdd, Nat.reduceSub, Nat.reduceMul, Nat.reduceLeDiff, Nat.reduceEqDiff, Nat.reduceLT, Int.reduceLT, Int.reduceLE, Int.reduceEq, Int.reduceNeg, Int.reduceToNat, hlt, hb, c1, c2, c3, c4, c5]
      · cases c3 : decide ((i : Int) = 0) with
        | true =>
          have := of_decide_eq_true c3
          have hf := bad (by unfold letP; omega)
          subst hf
          simp only [Try.ntmps99, Try.results99, push_cast, Nat.reduceAdd, Nat.reduceSub, Nat.reduceMul, Nat.reduceLeDiff, Nat.reduceEqDiff, Nat.reduceLT, Int.reduceLT, Int.reduceLE, Int.reduceEq, Int.reduceNeg, Int.reduceToNat, hlt, hb, c1, c3]
        | false =>
          have := of_decide_eq_false c3
          by_cases c4 : ((bu s i).toNat : Int) < 48
          · have hf := bad (by unfold letP; omega)
            subst hf
            simp only [Try.ntmps99, Try.results99, push_cast, Nat.reduceAdd, Nat.reduceSub, Nat.reduceMul, Nat.reduceLeDiff, Nat.reduceEqDiff, Nat.reduceLT, Int.reduceLT, Int.reduceLE, Int.reduceEq, Int.reduceNeg, Int.reduceToNat, hlt, hb, c1, c3, c4]
          · by_cases c5 : (57 : Int) < ((bu s i).toNat : Int)
            · have hf := bad (by unfold letP; omega)
              subst hf
              simp only [Try.ntmps99, Try.results99, push_cast, Nat.reduceAdd, Nat.reduceSub, Nat.reduceMul, Nat.reduceLeDiff, Nat.reduceEqDiff, Nat.reduceLT, Int.reduceLT, Int.reduceLE, Int.reduceEq, Int.reduceNeg, Int.reduceToNat, hlt, hb, c1, c3, c4, c5]
            · simp only [push_cast, Nat.reduceAdd, Nat.reduceSub, Nat.reduceMul, Nat.reduceLeDiff, Nat.reduceEqDiff, Nat.reduceLT, Int.reduceLT, Int.reduceLE, Int.reduceEq, Int.reduceNeg, Int.reduceToNat, hlt, hb, c1, c3, c4, c5, ws]
              refine ⟨_, ?_, hX ⟨i', by omega, next (.inr ⟨by omega, by omega, by omega⟩)⟩ (by simp only; omega)⟩
              exact Weak.same (by simp only [push_cast, Nat.reduceAdd, Nat.reduceSub, Nat.reduceMul, Nat.reduceLeDiff, Nat.reduceEqDiff, Nat.reduceLT, Int.reduceLT, Int.reduceLE, Int.reduceEq, Int.reduceNeg, Int.reduceToNat])
    · have ht : r = inR s.size 1 8 := by
        have hp : nameP s := fun j hj => hall j (by omega)
        rw [hr, nameB, decide_eq_true hp, Bool.true_and]
      subst ht
      have k := inRange_ok s.size 1 8
      rw [show (decide ((1 : Int) ≤ (s.size : Int)) && decide ((s.size : Int) ≤ 8)) = inR s.size 1 8 from rfl] at k
      simp only [Try.ntmps99, Try.results99, push_cast, Nat.reduceAdd, Nat.reduceSub, Nat.reduceMul, Nat.reduceLeDiff, Nat.reduceEqDiff, Nat.reduceLT, Int.reduceLT, Int.reduceLE, Int.reduceEq, Int.reduceNeg, Int.reduceToNat, hlt]
      refine GoL_call rfl rfl k rfl rfl ?_
      simp only [Try.ntmps99, Try.results99, push_cast, Nat.reduceAdd, Nat.reduceSub, Nat.reduceMul, Nat.reduceLeDiff, Nat.reduceEqDiff, Nat.reduceLT, Int.reduceLT, Int.reduceLE, Int.reduceEq, Int.reduceNeg, Int.reduceToNat]
theorem nameS_ok (s : ByteArray) (hs : s.size ≤ 140737488355328) : PureFn Try.prog 102 [st s] [bo (nameB s)] := by
  refine PureFn_of_Go Try.func102 rfl (by decide) mo (by decide +kernel) ?_
  have k := l01In_ok s.size 1 8
  rw [show (decide ((1 : Int) ≤ (s.size : Int)) && decide ((s.size : Int) ≤ 8)) = inR s.size 1 8 from rfl] at k
  obtain ⟨r, hr⟩ : ∃ r, r = nameB s := ⟨_, rfl⟩
  rw [← hr]
  simp only [Try.ntmps102, Try.results102, push_cast, Nat.reduceAdd, Nat.reduceSub, Nat.reduceMul, Nat.reduceLeDiff, Nat.reduceEqDiff, Nat.reduceLT, Int.reduceLT, Int.reduceLE, Int.reduceEq, Int.reduceNeg, Int.reduceToNat]
  refine GoL_call rfl rfl k rfl rfl ?_
  cases c0 : inR s.size 1 8 with
  | false =>
    have hf : r = false := by rw [hr, nameB, c0, Bool.and_false]
    subst hf
    simp only [Try.ntmps102, Try.results102, push_cast, Nat.reduceAdd, Nat.reduceSub, Nat.reduceMul, Nat.reduceLeDiff, Nat.reduceEqDiff, Nat.reduceLT, Int.reduceLT, Int.reduceLE, Int.reduceEq, Int.reduceNeg, Int.reduceToNat]
  | true =>
  have h1 := inR_spec.1 c0
  have h0 : 0 < s.size := by omega
  have hb0 := bu_get h0
  have hix := index_str (P := Try.prog) (t := 9) s 0 .i64
  rw [show ((0 : Nat) : Int) = 0 from rfl, hb0] at hix
  have bad : ∀ i, i < s.size → ¬ letP s i → r = false := fun i hi h => by
    rw [hr, nameB, decide_eq_false fun hp => h (hp i hi), Bool.false_and]
  by_cases d1 : ((bu s 0).toNat : Int) < 97
  · have hf := bad 0 h0 (by unfold letP; omega)
    subst hf
    simp only [Try.ntmps102, Try.results102, push_cast, Nat.reduceAdd, Nat.reduceSub, Nat.reduceMul, Nat.reduceLeDiff, Nat.reduceEqDiff, Nat.reduceLT, Int.reduceLT, Int.reduceLE, Int.reduceEq, Int.reduceNeg, Int.reduceToNat, hix, d1]
  by_cases d2 : (122 : Int) < ((bu s 0).toNat : Int)
  · have hf := bad 0 h0 (by unfold letP; omega)
    subst hf
    simp only [Try.ntmps102, Try.results102, push_cast, Nat.reduceAdd, Nat.reduceSub, Nat.reduceMul, Nat.reduceLeDiff, Nat.reduceEqDiff, Nat.reduceLT, Int.reduceLT, Int.reduceLE, Int.reduceEq, Int.reduceNeg, Int.reduceToNat, hix, d1, d2]
  simp only [Try.ntmps102, Try.results102, push_cast, Nat.reduceAdd, Nat.reduceSub, Nat.reduceMul, Nat.reduceLeDiff, Nat.reduceEqDiff, Nat.reduceLT, Int.reduceLT, Int.reduceLE, Int.reduceEq, Int.reduceNeg, Int.reduceToNat, hix, d1, d2]
  refine Go_loop (α := {i : Nat // i ≤ s.size ∧ ∀ j, j < i → letP s j})
    (fun i => ⟨tp 46 [(0, .x (st s)), (3, int i.1)], 0, [], []⟩) (fun i => s.size - i.1) ⟨0, by omega, fun j h => absurd h (Nat.not_lt_zero _)⟩ ?_ ?_
  · exact Weak.same (by simp only [push_cast, Nat.reduceAdd, Nat.reduceSub, Nat.reduceMul, Nat.reduceLeDiff, Nat.reduceEqDiff, Nat.reduceLT, Int.reduceLT, Int.reduceLE, Int.reduceEq, Int.reduceNeg, Int.reduceToNat, Int.ofNat_zero])
  · rintro ⟨i, hi, hall⟩ X hX
    by_cases hlt : (i : Int) < (s.size : Int)
    · have hi' : i < s.size := by omega
      have hb := bu_get hi'
      have ws := wsucc hi' hs
      obtain ⟨i', hi1⟩ : ∃ i', i' = i + 1 := ⟨_, rfl⟩
      rw [← hi1] at ws
      have next : letP s i → ∀ j, j < i' → letP s j := fun h j hj => by
        by_cases e : j = i
        · subst e; exact h
        · exact hall j (by omega)
      have first : i = 0 → 97 ≤ (bu s i).toNat ∧ (bu s i).toNat ≤ 122 := fun e => by subst e; omega
      by_cases c1 : ((bu s i).toNat : Int) < 97
      · by_cases c4 : ((bu s i).toNat : Int) < 48
        · have hf := bad i hi' (by unfold letP; omega)
          subst hf
          simp only [Try.ntmps102, Try.results102, push_cast, Nat.reduceAdd, Nat.reduceSub, Nat.reduceMul, Nat.reduceLeDiff, Nat.reduceEqDiff, Nat.reduceLT, Int.reduceLT, Int.reduceLE, Int.reduceEq, Int.reduceNeg, Int.reduceToNat, hlt, hb, c1, c4]
        · by_cases c5 : (57 : Int) < ((bu s i).toNat : Int)
          · have hf := bad i hi' (by unfold letP; omega)
            subst hf
            simp only [Try.ntmps102, Try.results102, push_cast, Nat.reduceAdd, Nat.reduceSub, Nat.reduceMul, Nat.reduceLeDiff, Nat.reduceEqDiff, Nat.reduceLT, Int.reduceLT, Int.reduceLE, Int.reduceEq, Int.reduceNeg, Int.reduceToNat, hlt, hb, c1, c4, c5]
          · simp only [push_cast, Nat.reduceAdd, Nat.reduceSub, Nat.reduceMul, Nat.reduceLeDiff, Nat.reduceEqDiff, Nat.reduceLT, Int.reduceLT, Int.reduceLE, Int.reduceEq, Int.reduceNeg, Int.reduceToNat, hlt, hb, c1, c4, c5, ws]
            refine ⟨_, ?_, hX ⟨i', by omega, next (.inr ⟨fun e => by have := first e; omega, by omega, by omega⟩)⟩ (by simp only; omega)⟩
            exact Weak.same (by simp only [push_cast, Nat.reduceAdd, Nat.reduceSub, Nat.reduceMul, Nat.reduceLeDiff, Nat.reduceEqDiff, Nat.reduceLT, Int.reduceLT, Int.reduceLE, Int.reduceEq, Int.reduceNeg, Int.reduceToNat])
      · by_cases c2 : (122 : Int) < ((bu s i).toNat : Int)
        · have hf := bad i hi' (by unfold letP; omega)
          subst hf
          have c4 : ¬ ((bu s i).toNat : Int) < 48 := by omega
          have c5 : (57 : Int) < ((bu s i).toNat : Int) := by omega
          simp only [Try.ntmps102, Try.results102, push_cast, Nat.reduceAdd, Nat.reduceSub, Nat.reduceMul, Nat.reduceLeDiff, Nat.reduceEqDiff, Nat.reduceLT, Int.reduceLT, Int.reduceLE, Int.reduceEq, Int.reduceNeg, Int.reduceToNat, hlt, hb, c1, c2, c4, c5]
        · simp only [push_cast, Nat.reduceAdd, Nat.reduceSub, Nat.reduceMul, Nat.reduceLeDiff, Nat.reduceEqDiff, Nat.reduceLT, Int.reduceLT, Int.reduceLE, Int.reduceEq, Int.reduceNeg, Int.reduceToNat, hlt, hb, c1, c2, ws]
          refine ⟨_, ?_, hX ⟨i', by omega, next (.inl ⟨by omega, by omega⟩)⟩ (by simp only; omega)⟩
          exact Weak.same (by simp only [push_cast, Nat.reduceAdd, Nat.reduceSub, Nat.reduceMul, Nat.reduceLeDiff, Nat.reduceEqDiff, Nat.reduceLT, Int.reduceLT, Int.reduceLE, Int.reduceEq, Int.reduceNeg, Int.reduceToNat])
    · have ht : r = true := by
        have hp : nameP s := fun j hj => hall j (by omega)
        rw [hr, nameB, decide_eq_true hp, c0]; rfl
      subst ht
      simp only [Try.ntmps102, Try.results102, push_cast, Nat.reduceAdd, Nat.reduceSub, Nat.reduceMul, Nat.reduceLeDiff, Nat.reduceEqDiff, Nat.reduceLT, Int.reduceLT, Int.reduceLE, Int.reduceEq, Int.reduceNeg, Int.reduceToNat, hlt]
theorem isMinute_ok (n : Int) : PureFn Try.prog 100 [i64 n] [bo (inR n 0 68374079)] := by
  refine PureFn_of_Go Try.func100 rfl (by decide) mo (by decide +kernel) ?_
  simp only [Try.ntmps100, Try.results100, push_cast, Nat.reduceAdd, Nat.reduceSub, Nat.reduceMul, Nat.reduceLeDiff, Nat.reduceEqDiff, Nat.reduceLT, Int.reduceLT, Int.reduceLE, Int.reduceEq, Int.reduceNeg, Int.reduceToNat]
  refine GoL_call rfl rfl (inRange_ok n 0 68374079) rfl rfl ?_
  simp only [Try.ntmps100, Try.results100, push_cast, Nat.reduceAdd, Nat.reduceSub, Nat.reduceMul, Nat.reduceLeDiff, Nat.reduceEqDiff, Nat.reduceLT, Int.reduceLT, Int.reduceLE, Int.reduceEq, Int.reduceNeg, Int.reduceToNat, inR]

/-! ### commands -/
structure Cmd where
  op : Int
  tok : Int
  seq : Int
  text : ByteArray
  task : ByteArray
  num : Int
  to_ : Int
  yes : Bool
def Cmd.enc (x : Cmd) : List C := [.v (.int .i64 x.op), .v (.int .i64 x.tok), .v (.int .i64 x.seq), .v (.string x.text), .v (.string x.task), .v (.int .i64 x.num), .v (.int .i64 x.to_), .v (.bool x.yes)]
def Cmd.Ok (x : Cmd) : Prop := x.text.size ≤ 140737488355328 ∧ x.task.size ≤ 140737488355328
def restB (x : Cmd) (text task num to_ yes : Bool) : Bool :=
  ((((text || decide (x.text = ⟨#[]⟩)) && (task || decide (x.task = ⟨#[]⟩))) && (num || decide (x.num = 0))) && (to_ || decide (x.to_ = 0))) && (yes || !x.yes)

theorem restFFFFF_ok (x : Cmd) : PureFn Try.prog 101 [.agg x.enc, bo false, bo false, bo false, bo false, bo false] [bo (restB x false false false false false)] := by
  refine PureFn_of_Go Try.func101 rfl (by decide) mo (by decide +kernel) ?_
  unfold restB
  cases d0 : decide (x.text = ⟨#[]⟩) with
  | false => simp only [Try.ntmps101, Try.results101, push_cast, Nat.reduceAdd, Nat.reduceSub, Nat.reduceMul, Nat.reduceLeDiff, Nat.reduceEqDiff, Nat.reduceLT, Int.reduceLT, Int.reduceLE, Int.reduceEq, Int.reduceNeg, Int.reduceToNat, Cmd.enc, d0, Bool.false_or, Bool.true_or, Bool.and_false, Bool.false_and, Bool.true_and, Bool.and_true, Bool.not_true, Bool.not_false]
  | true =>
    cases d1 : decide (x.task = ⟨#[]⟩) with
    | false => simp only [Try.ntmps101, Try.results101, push_cast, Nat.reduceAdd, Nat.reduceSub, Nat.reduceMul, Nat.reduceLeDiff, Nat.reduceEqDiff, Nat.reduceLT, Int.reduceLT, Int.reduceLE, Int.reduceEq, Int.reduceNeg, Int.reduceToNat, Cmd.enc, d0, d1, Bool.false_or, Bool.true_or, Bool.and_false, Bool.false_and, Bool.true_and, Bool.and_true, Bool.not_true, Bool.not_false]
    | true =>
      cases d2 : decide (x.num = 0) with
      | false => simp only [Try.ntmps101, Try.results101, push_cast, Nat.reduceAdd, Nat.reduceSub, Nat.reduceMul, Nat.reduceLeDiff, Nat.reduceEqDiff, Nat.reduceLT, Int.reduceLT, Int.reduceLE, Int.reduceEq, Int.reduceNeg, Int.reduceToNat, Cmd.enc, d0, d1, d2, Bool.false_or, Bool.true_or, Bool.and_false, Bool.false_and, Bool.true_and, Bool.and_true, Bool.not_true, Bool.not_false]
      | true =>
        cases d3 : decide (x.to_ = 0) with
        | false => simp only [Try.ntmps101, Try.results101, push_cast, Nat.reduceAdd, Nat.reduceSub, Nat.reduceMul, Nat.reduceLeDiff, Nat.reduceEqDiff, Nat.reduceLT, Int.reduceLT, Int.reduceLE, Int.reduceEq, Int.reduceNeg, Int.reduceToNat, Cmd.enc, d0, d1, d2, d3, Bool.false_or, Bool.true_or, Bool.and_false, Bool.false_and, Bool.true_and, Bool.and_true, Bool.not_true, Bool.not_false]
        | true =>
          cases dy : x.yes with
          | true => simp only [Try.ntmps101, Try.results101, push_cast, Nat.reduceAdd, Nat.reduceSub, Nat.reduceMul, Nat.reduceLeDiff, Nat.reduceEqDiff, Nat.reduceLT, Int.reduceLT, Int.reduceLE, Int.reduceEq, Int.reduceNeg, Int.reduceToNat, Cmd.enc, d0, d1, d2, d3, dy, Bool.false_or, Bool.true_or, Bool.and_false, Bool.false_and, Bool.true_and, Bool.and_true, Bool.not_true, Bool.not_false]
          | false => simp only [Try.ntmps101, Try.results101, push_cast, Nat.reduceAdd, Nat.reduceSub, Nat.reduceMul, Nat.reduceLeDiff, Nat.reduceEqDiff, Nat.reduceLT, Int.reduceLT, Int.reduceLE, Int.reduceEq, Int.reduceNeg, Int.reduceToNat, Cmd.enc, d0, d1, d2, d3, dy, Bool.false_or, Bool.true_or, Bool.and_false, Bool.false_and, Bool.true_and, Bool.and_true, Bool.not_true, Bool.not_false]
theorem restTFFFF_ok (x : Cmd) : PureFn Try.prog 101 [.agg x.enc, bo true, bo false, bo false, bo false, bo false] [bo (restB x true false false false false)] := by
  refine PureFn_of_Go Try.func101 rfl (by decide) mo (by decide +kernel) ?_
  unfold restB
  cases d1 : decide (x.task = ⟨#[]⟩) with
  | false => simp only [Try.ntmps101, Try.results101, push_cast, Nat.reduceAdd, Nat.reduceSub, Nat.reduceMul, Nat.reduceLeDiff, Nat.reduceEqDiff, Nat.reduceLT, Int.reduceLT, Int.reduceLE, Int.reduceEq, Int.reduceNeg, Int.reduceToNat, Cmd.enc, d1, Bool.false_or, Bool.true_or, Bool.and_false, Bool.false_and, Bool.true_and, Bool.and_true, Bool.not_true, Bool.not_false]
  | true =>
    cases d2 : decide (x.num = 0) with
    | false => simp only [Try.ntmps101, Try.results101, push_cast, Nat.reduceAdd, Nat.reduceSub, Nat.reduceMul, Nat.reduceLeDiff, Nat.reduceEqDiff, Nat.reduceLT, Int.reduceLT, Int.reduceLE, Int.reduceEq, Int.reduceNeg, Int.reduceToNat, Cmd.enc, d1, d2, Bool.false_or, Bool.true_or, Bool.and_false, Bool.false_and, Bool.true_and, Bool.and_true, Bool.not_true, Bool.not_false]
    | true =>
      cases d3 : decide (x.to_ = 0) with
      | false => simp only [Try.ntmps101, Try.results101, push_cast, Nat.reduceAdd, Nat.reduceSub, Nat.reduceMul, Nat.reduceLeDiff, Nat.reduceEqDiff, Nat.reduceLT, Int.reduceLT, Int.reduceLE, Int.reduceEq, Int.reduceNeg, Int.reduceToNat, Cmd.enc, d1, d2, d3, Bool.false_or, Bool.true_or, Bool.and_false, Bool.false_and, Bool.true_and, Bool.and_true, Bool.not_true, Bool.not_false]
      | true =>
        cases dy : x.yes with
        | true => simp only [Try.ntmps101, Try.results101, push_cast, Nat.reduceAdd, Nat.reduceSub, Nat.reduceMul, Nat.reduceLeDiff, Nat.reduceEqDiff, Nat.reduceLT, Int.reduceLT, Int.reduceLE, Int.reduceEq, Int.reduceNeg, Int.reduceToNat, Cmd.enc, d1, d2, d3, dy, Bool.false_or, Bool.true_or, Bool.and_false, Bool.false_and, Bool.true_and, Bool.and_true, Bool.not_true, Bool.not_false]
        | false => simp only [Try.ntmps101, Try.results101, push_cast, Nat.reduceAdd, Nat.reduceSub, Nat.reduceMul, Nat.reduceLeDiff, Nat.reduceEqDiff, Nat.reduceLT, Int.reduceLT, Int.reduceLE, Int.reduceEq, Int.reduceNeg, Int.reduceToNat, Cmd.enc, d1, d2, d3, dy, Bool.false_or, Bool.true_or, Bool.and_false, Bool.false_and, Bool.true_and, Bool.and_true, Bool.not_true, Bool.not_false]
theorem restTFFFT_ok (x : Cmd) : PureFn Try.prog 101 [.agg x.enc, bo true, bo false, bo false, bo false, bo true] [bo (restB x true false false false true)] := by
  refine PureFn_of_Go Try.func101 rfl (by decide) mo (by decide +kernel) ?_
  unfold restB
  cases d1 : decide (x.task = ⟨#[]⟩) with
  | false => simp only [Try.ntmps101, Try.results101, push_cast, Nat.reduceAdd, Nat.reduceSub, Nat.reduceMul, Nat.reduceLeDiff, Nat.reduceEqDiff, Nat.reduceLT, Int.reduceLT, Int.reduceLE, Int.reduceEq, Int.reduceNeg, Int.reduceToNat, Cmd.enc, d1, Bool.false_or, Bool.true_or, Bool.and_false, Bool.false_and, Bool.true_and, Bool.and_true, Bool.not_true, Bool.not_false]
  | true =>
    cases d2 : decide (x.num = 0) with
    | false => simp only [Try.ntmps101, Try.results101, push_cast, Nat.reduceAdd, Nat.reduceSub, Nat.reduceMul, Nat.reduceLeDiff, Nat.reduceEqDiff, Nat.reduceLT, Int.reduceLT, Int.reduceLE, Int.reduceEq, Int.reduceNeg, Int.reduceToNat, Cmd.enc, d1, d2, Bool.false_or, Bool.true_or, Bool.and_false, Bool.false_and, Bool.true_and, Bool.and_true, Bool.not_true, Bool.not_false]
    | true =>
      cases d3 : decide (x.to_ = 0) with
      | false => simp only [Try.ntmps101, Try.results101, push_cast, Nat.reduceAdd, Nat.reduceSub, Nat.reduceMul, Nat.reduceLeDiff, Nat.reduceEqDiff, Nat.reduceLT, Int.reduceLT, Int.reduceLE, Int.reduceEq, Int.reduceNeg, Int.reduceToNat, Cmd.enc, d1, d2, d3, Bool.false_or, Bool.true_or, Bool.and_false, Bool.false_and, Bool.true_and, Bool.and_true, Bool.not_true, Bool.not_false]
      | true =>
        simp only [Try.ntmps101, Try.results101, push_cast, Nat.reduceAdd, Nat.reduceSub, Nat.reduceMul, Nat.reduceLeDiff, Nat.reduceEqDiff, Nat.reduceLT, Int.reduceLT, Int.reduceLE, Int.reduceEq, Int.reduceNeg, Int.reduceToNat, Cmd.enc, d1, d2, d3, Bool.false_or, Bool.true_or, Bool.and_false, Bool.false_and, Bool.true_and, Bool.and_true, Bool.not_true, Bool.not_false]
theorem restFFTFF_ok (x : Cmd) : PureFn Try.prog 101 [.agg x.enc, bo false, bo false, bo true, bo false, bo false] [bo (restB x false false true false false)] := by
  refine PureFn_of_Go Try.func101 rfl (by decide) mo (by decide +kernel) ?_
  unfold restB
  cases d0 : decide (x.text = ⟨#[]⟩) with
  | false => simp only [Try.ntmps101, Try.results101, push_cast, Nat.reduceAdd, Nat.reduceSub, Nat.reduceMul, Nat.reduceLeDiff, Nat.reduceEqDiff, Nat.reduceLT, Int.reduceLT, Int.reduceLE, Int.reduceEq, Int.reduceNeg, Int.reduceToNat, Cmd.enc, d0, Bool.false_or, Bool.true_or, Bool.and_false, Bool.false_and, Bool.true_and, Bool.and_true, Bool.not_true, Bool.not_false]
  | true =>
    cases d1 : decide (x.task = ⟨#[]⟩) with
    | false => simp only [Try.ntmps101, Try.results101, push_cast, Nat.reduceAdd, Nat.reduceSub, Nat.reduceMul, Nat.reduceLeDiff, Nat.reduceEqDiff, Nat.reduceLT, Int.reduceLT, Int.reduceLE, Int.reduceEq, Int.reduceNeg, Int.reduceToNat, Cmd.enc, d0, d1, Bool.false_or, Bool.true_or, Bool.and_false, Bool.false_and, Bool.true_and, Bool.and_true, Bool.not_true, Bool.not_false]
    | true =>
      cases d3 : decide (x.to_ = 0) with
      | false => simp only [Try.ntmps101, Try.results101, push_cast, Nat.reduceAdd, Nat.reduceSub, Nat.reduceMul, Nat.reduceLeDiff, Nat.reduceEqDiff, Nat.reduceLT, Int.reduceLT, Int.reduceLE, Int.reduceEq, Int.reduceNeg, Int.reduceToNat, Cmd.enc, d0, d1, d3, Bool.false_or, Bool.true_or, Bool.and_false, Bool.false_and, Bool.true_and, Bool.and_true, Bool.not_true, Bool.not_false]
      | true =>
        cases dy : x.yes with
        | true => simp only [Try.ntmps101, Try.results101, push_cast, Nat.reduceAdd, Nat.reduceSub, Nat.reduceMul, Nat.reduceLeDiff, Nat.reduceEqDiff, Nat.reduceLT, Int.reduceLT, Int.reduceLE, Int.reduceEq, Int.reduceNeg, Int.reduceToNat, Cmd.enc, d0, d1, d3, dy, Bool.false_or, Bool.true_or, Bool.and_false, Bool.false_and, Bool.true_and, Bool.and_true, Bool.not_true, Bool.not_false]
        | false => simp only [Try.ntmps101, Try.results101, push_cast, Nat.reduceAdd, Nat.reduceSub, Nat.reduceMul, Nat.reduceLeDiff, Nat.reduceEqDiff, Nat.reduceLT, Int.reduceLT, Int.reduceLE, Int.reduceEq, Int.reduceNeg, Int.reduceToNat, Cmd.enc, d0, d1, d3, dy, Bool.false_or, Bool.true_or, Bool.and_false, Bool.false_and, Bool.true_and, Bool.and_true, Bool.not_true, Bool.not_false]
theorem restFFTFT_ok (x : Cmd) : PureFn Try.prog 101 [.agg x.enc, bo false, bo false, bo true, bo false, bo true] [bo (restB x false false true false true)] := by
  refine PureFn_of_Go Try.func101 rfl (by decide) mo (by decide +kernel) ?_
  unfold restB
  cases d0 : decide (x.text = ⟨#[]⟩) with
  | false => simp only [Try.ntmps101, Try.results101, push_cast, Nat.reduceAdd, Nat.reduceSub, Nat.reduceMul, Nat.reduceLeDiff, Nat.reduceEqDiff, Nat.reduceLT, Int.reduceLT, Int.reduceLE, Int.reduceEq, Int.reduceNeg, Int.reduceToNat, Cmd.enc, d0, Bool.false_or, Bool.true_or, Bool.and_false, Bool.false_and, Bool.true_and, Bool.and_true, Bool.not_true, Bool.not_false]
  | true =>
    cases d1 : decide (x.task = ⟨#[]⟩) with
    | false => simp only [Try.ntmps101, Try.results101, push_cast, Nat.reduceAdd, Nat.reduceSub, Nat.reduceMul, Nat.reduceLeDiff, Nat.reduceEqDiff, Nat.reduceLT, Int.reduceLT, Int.reduceLE, Int.reduceEq, Int.reduceNeg, Int.reduceToNat, Cmd.enc, d0, d1, Bool.false_or, Bool.true_or, Bool.and_false, Bool.false_and, Bool.true_and, Bool.and_true, Bool.not_true, Bool.not_false]
    | true =>
      cases d3 : decide (x.to_ = 0) with
      | false => simp only [Try.ntmps101, Try.results101, push_cast, Nat.reduceAdd, Nat.reduceSub, Nat.reduceMul, Nat.reduceLeDiff, Nat.reduceEqDiff, Nat.reduceLT, Int.reduceLT, Int.reduceLE, Int.reduceEq, Int.reduceNeg, Int.reduceToNat, Cmd.enc, d0, d1, d3, Bool.false_or, Bool.true_or, Bool.and_false, Bool.false_and, Bool.true_and, Bool.and_true, Bool.not_true, Bool.not_false]
      | true =>
        simp only [Try.ntmps101, Try.results101, push_cast, Nat.reduceAdd, Nat.reduceSub, Nat.reduceMul, Nat.reduceLeDiff, Nat.reduceEqDiff, Nat.reduceLT, Int.reduceLT, Int.reduceLE, Int.reduceEq, Int.reduceNeg, Int.reduceToNat, Cmd.enc, d0, d1, d3, Bool.false_or, Bool.true_or, Bool.and_false, Bool.false_and, Bool.true_and, Bool.and_true, Bool.not_true, Bool.not_false]
theorem restTFTTF_ok (x : Cmd) : PureFn Try.prog 101 [.agg x.enc, bo true, bo false, bo true, bo true, bo false] [bo (restB x true false true true false)] := by
  refine PureFn_of_Go Try.func101 rfl (by decide) mo (by decide +kernel) ?_
  unfold restB
  cases d1 : decide (x.task = ⟨#[]⟩) with
  | false => simp only [Try.ntmps101, Try.results101, push_cast, Nat.reduceAdd, Nat.reduceSub, Nat.reduceMul, Nat.reduceLeDiff, Nat.reduceEqDiff, Nat.reduceLT, Int.reduceLT, Int.reduceLE, Int.reduceEq, Int.reduceNeg, Int.reduceToNat, Cmd.enc, d1, Bool.false_or, Bool.true_or, Bool.and_false, Bool.false_and, Bool.true_and, Bool.and_true, Bool.not_true, Bool.not_false]
  | true =>
    cases dy : x.yes with
    | true => simp only [Try.ntmps101, Try.results101, push_cast, Nat.reduceAdd, Nat.reduceSub, Nat.reduceMul, Nat.reduceLeDiff, Nat.reduceEqDiff, Nat.reduceLT, Int.reduceLT, Int.reduceLE, Int.reduceEq, Int.reduceNeg, Int.reduceToNat, Cmd.enc, d1, dy, Bool.false_or, Bool.true_or, Bool.and_false, Bool.false_and, Bool.true_and, Bool.and_true, Bool.not_true, Bool.not_false]
    | false => simp only [Try.ntmps101, Try.results101, push_cast, Nat.reduceAdd, Nat.reduceSub, Nat.reduceMul, Nat.reduceLeDiff, Nat.reduceEqDiff, Nat.reduceLT, Int.reduceLT, Int.reduceLE, Int.reduceEq, Int.reduceNeg, Int.reduceToNat, Cmd.enc, d1, dy, Bool.false_or, Bool.true_or, Bool.and_false, Bool.false_and, Bool.true_and, Bool.and_true, Bool.not_true, Bool.not_false]
theorem restTTTFF_ok (x : Cmd) : PureFn Try.prog 101 [.agg x.enc, bo true, bo true, bo true, bo false, bo false] [bo (restB x true true true false false)] := by
  refine PureFn_of_Go Try.func101 rfl (by decide) mo (by decide +kernel) ?_
  unfold restB
  cases d3 : decide (x.to_ = 0) with
  | false => simp only [Try.ntmps101, Try.results101, push_cast, Nat.reduceAdd, Nat.reduceSub, Nat.reduceMul, Nat.reduceLeDiff, Nat.reduceEqDiff, Nat.reduceLT, Int.reduceLT, Int.reduceLE, Int.reduceEq, Int.reduceNeg, Int.reduceToNat, Cmd.enc, d3, Bool.false_or, Bool.true_or, Bool.and_false, Bool.false_and, Bool.true_and, Bool.and_true, Bool.not_true, Bool.not_false]
  | true =>
    cases dy : x.yes with
    | true => simp only [Try.ntmps101, Try.results101, push_cast, Nat.reduceAdd, Nat.reduceSub, Nat.reduceMul, Nat.reduceLeDiff, Nat.reduceEqDiff, Nat.reduceLT, Int.reduceLT, Int.reduceLE, Int.reduceEq, Int.reduceNeg, Int.reduceToNat, Cmd.enc, d3, dy, Bool.false_or, Bool.true_or, Bool.and_false, Bool.false_and, Bool.true_and, Bool.and_true, Bool.not_true, Bool.not_false]
    | false => simp only [Try.ntmps101, Try.results101, push_cast, Nat.reduceAdd, Nat.reduceSub, Nat.reduceMul, Nat.reduceLeDiff, Nat.reduceEqDiff, Nat.reduceLT, Int.reduceLT, Int.reduceLE, Int.reduceEq, Int.reduceNeg, Int.reduceToNat, Cmd.enc, d3, dy, Bool.false_or, Bool.true_or, Bool.and_false, Bool.false_and, Bool.true_and, Bool.and_true, Bool.not_true, Bool.not_false]
end Go.Proofs.Ytadbfhgeekpdgaa
