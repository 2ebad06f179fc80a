/- Entries read and told: by their code. -/
import Derived.Test.YtadbfhgeekpdgaaW9
namespace Go.Proofs.Ytadbfhgeekpdgaa
open Go.RowKit Go.Rx
set_option linter.unusedSimpArgs false
set_option maxRecDepth 100000

def rcB (s : ByteArray) : Bool := decide ((s.size : Int) ≤ 4) && confB (natsL s)
def rcX (s : ByteArray) : List X := if rcB s then [.one (.own 1 (vR (ints (natsL s)))), bo true] else [.one (.own 1 []), bo false]
theorem readConfI_ok (s : ByteArray) (hs : s.size ≤ 140737488355328) : PureFn Try.prog 93 [st s] (rcX s) := by
  refine PureFn_of_GoW Try.func93 rfl (by decide) mo (by decide +kernel) ?_
  by_cases c : (4 : Int) < (s.size : Int)
  · have hb : rcB s = false := by
      simp only [rcB]; rw [decide_eq_false (by omega), Bool.false_and]
    simp only [rcX, hb, Bool.false_eq_true, if_false]
    simp only [Try.ntmps93, Try.results93, push_cast, Nat.reduceAdd, Nat.reduceSub, Nat.reduceMul, Nat.reduceLeDiff, Nat.reduceEqDiff, Nat.reduceLT, Int.reduceLT, Int.reduceLE, Int.reduceEq, Int.reduceNeg, Int.reduceToNat, c]
    refine ⟨_, Weak.nilRoot (0, 1) 1 2 rfl rfl rfl, ?_⟩
    simp only [Try.ntmps93, Try.results93, push_cast, Nat.reduceAdd, Nat.reduceSub, Nat.reduceMul, Nat.reduceLeDiff, Nat.reduceEqDiff, Nat.reduceLT, Int.reduceLT, Int.reduceLE, Int.reduceEq, Int.reduceNeg, Int.reduceToNat]
  · have h4 : (s.size : Int) ≤ 4 := by omega
    have k := numbers_ok s (by omega)
    have k2 := confOkI_ok (natsL s) (by rw [natsL_length]; omega)
    have hl : (ints (natsL s)).length = s.size := by rw [ints_length, natsL_length]
    have ht : (vR (ints (natsL s))).take s.size = vR (ints (natsL s)) := List.take_of_length_le (by rw [vR_length, hl]; exact Nat.le_refl _)
    have hb : rcB s = confB (natsL s) := by simp only [rcB]; rw [decide_eq_true h4, Bool.true_and]
    simp only [Try.ntmps93, Try.results93, push_cast, Nat.reduceAdd, Nat.reduceSub, Nat.reduceMul, Nat.reduceLeDiff, Nat.reduceEqDiff, Nat.reduceLT, Int.reduceLT, Int.reduceLE, Int.reduceEq, Int.reduceNeg, Int.reduceToNat, c]
    refine GoL_call rfl rfl k (by simp only [push_cast, Nat.reduceAdd, Nat.reduceSub, Nat.reduceMul, Nat.reduceLeDiff, Nat.reduceEqDiff, Nat.reduceLT, Int.reduceLT, Int.reduceLE, Int.reduceEq, Int.reduceNeg, Int.reduceToNat]) rfl ?_
    simp only [Try.ntmps93, Try.results93, push_cast, Nat.reduceAdd, Nat.reduceSub, Nat.reduceMul, Nat.reduceLeDiff, Nat.reduceEqDiff, Nat.reduceLT, Int.reduceLT, Int.reduceLE, Int.reduceEq, Int.reduceNeg, Int.reduceToNat, hl]
    refine GoL_call rfl (by simp only [push_cast, Nat.reduceAdd, Nat.reduceSub, Nat.reduceMul, Nat.reduceLeDiff, Nat.reduceEqDiff, Nat.reduceLT, Int.reduceLT, Int.reduceLE, Int.reduceEq, Int.reduceNeg, Int.reduceToNat, ht]) k2 rfl rfl ?_
    cases c2 : confB (natsL s) with
    | true =>
      have hb2 := hb.trans c2
      simp only [rcX, hb2, if_true]
      simp only [Try.ntmps93, Try.results93, push_cast, Nat.reduceAdd, Nat.reduceSub, Nat.reduceMul, Nat.reduceLeDiff, Nat.reduceEqDiff, Nat.reduceLT, Int.reduceLT, Int.reduceLE, Int.reduceEq, Int.reduceNeg, Int.reduceToNat]
      refine ⟨_, Weak.refl _, ?_⟩
      simp only [Try.ntmps93, Try.results93, push_cast, Nat.reduceAdd, Nat.reduceSub, Nat.reduceMul, Nat.reduceLeDiff, Nat.reduceEqDiff, Nat.reduceLT, Int.reduceLT, Int.reduceLE, Int.reduceEq, Int.reduceNeg, Int.reduceToNat, hl]
    | false =>
      have hb2 := hb.trans c2
      simp only [rcX, hb2, Bool.false_eq_true, if_false]
      simp only [Try.ntmps93, Try.results93, push_cast, Nat.reduceAdd, Nat.reduceSub, Nat.reduceMul, Nat.reduceLeDiff, Nat.reduceEqDiff, Nat.reduceLT, Int.reduceLT, Int.reduceLE, Int.reduceEq, Int.reduceNeg, Int.reduceToNat]
      refine ⟨_, Weak.nilRoot (0, 1) 1 2 rfl rfl rfl, ?_⟩
      simp only [Try.ntmps93, Try.results93, push_cast, Nat.reduceAdd, Nat.reduceSub, Nat.reduceMul, Nat.reduceLeDiff, Nat.reduceEqDiff, Nat.reduceLT, Int.reduceLT, Int.reduceLE, Int.reduceEq, Int.reduceNeg, Int.reduceToNat]
theorem readConfS_ok (s : ByteArray) (hs : s.size ≤ 140737488355328) : PureFn Try.prog 62 [st s] (rcX s) := by
  refine PureFn_of_Go Try.func62 rfl (by decide) mo (by decide +kernel) ?_
  obtain ⟨F, hF⟩ : ∃ F, F = natsL s := ⟨_, rfl⟩
  have hFl : F.length = s.size := by rw [hF, natsL_length]
  obtain ⟨ret, hret⟩ : ∃ ret, ret = rcX s := ⟨_, rfl⟩
  rw [← hret]
  simp only [Try.ntmps62, Try.results62, push_cast, Nat.reduceAdd, Nat.reduceSub, Nat.reduceMul, Nat.reduceLeDiff, Nat.reduceEqDiff, Nat.reduceLT, Int.reduceLT, Int.reduceLE, Int.reduceEq, Int.reduceNeg, Int.reduceToNat]
  refine Go_loop (α := {i : Nat // i ≤ s.size ∧ i ≤ 5})
    (fun i => ⟨tp 36 [(0, .x (st s)), (4, .x (.one (.rs (0, 1472) [] 1 0 i.1))), (5, int i.1)], 0, [((0, 1472), ⟨.sl, 1, vR (ints (F.take i.1))⟩)], []⟩) (fun i => s.size - i.1) ⟨0, Nat.zero_le _, by omega⟩ ?_ ?_
  · refine Weak.trans (Weak.rename (0, 384) (0, 1472) rfl rfl (by decide) rfl) ?_
    simp only [push_cast, Nat.reduceAdd, Nat.reduceSub, Nat.reduceMul, Nat.reduceLeDiff, Nat.reduceEqDiff, Nat.reduceLT, Int.reduceLT, Int.reduceLE, Int.reduceEq, Int.reduceNeg, Int.reduceToNat, ints, List.map_nil, List.take_zero]
    exact Weak.same (by simp only [push_cast, Nat.reduceAdd, Nat.reduceSub, Nat.reduceMul, Nat.reduceLeDiff, Nat.reduceEqDiff, Nat.reduceLT, Int.reduceLT, Int.reduceLE, Int.reduceEq, Int.reduceNeg, Int.reduceToNat, Int.ofNat_zero])
  · rintro ⟨i, hi, hi5⟩ X hX
    have hll : (ints (F.take i)).length = i := by rw [ints_length, List.length_take, hFl]; omega
    by_cases hlt : (i : Int) < (s.size : Int)
    · have hi' : i < s.size := by omega
      by_cases h4 : (i : Int) ≤ 4
      · have ws := wsucc hi' (by omega)
        have hb := bu_get hi'
        have hw : IntKind.i64.wrap ((bu s i).toNat : Int) = ((bu s i).toNat : Int) := wN rfl (by have := u8_lt (bu s i); omega)
        have a0 : i + 1 ≤ 4294967296 := by omega
        have a1 := max_len a0
        have a2 := room_le (b := 8) a0 (by decide)
        have s1 := vR_snoc (ints (F.take i)) [.int .i64 ((bu s i).toNat : Int)]
        have e1 : ints (F.take i) ++ [[Value.int .i64 ((bu s i).toNat : Int)]] = ints (F.take (i + 1)) := by rw [hF, natsL_take s hi']; simp [ints]
        rw [e1] at s1
        simp only [List.map_cons, List.map_nil] at s1
        obtain ⟨i', hi1⟩ : ∃ i', i' = i + 1 := ⟨_, rfl⟩
        rw [← hi1] at ws s1
        simp only [push_cast, Nat.reduceAdd, Nat.reduceSub, Nat.reduceMul, Nat.reduceLeDiff, Nat.reduceEqDiff, Nat.reduceLT, Int.reduceLT, Int.reduceLE, Int.reduceEq, Int.reduceNeg, Int.reduceToNat, hlt, h4, hb, hw, hll, a1, a2, s1, ws, flatRows, flatRow]
        refine ⟨_, ?_, hX ⟨i', by omega, by omega⟩ (by simp only; omega)⟩
        exact Weak.drop (by simp only [push_cast, Nat.reduceAdd, Nat.reduceSub, Nat.reduceMul, Nat.reduceLeDiff, Nat.reduceEqDiff, Nat.reduceLT, Int.reduceLT, Int.reduceLE, Int.reduceEq, Int.reduceNeg, Int.reduceToNat, hi1]) (by simp only [push_cast, Nat.reduceAdd, Nat.reduceSub, Nat.reduceMul, Nat.reduceLeDiff, Nat.reduceEqDiff, Nat.reduceLT, Int.reduceLT, Int.reduceLE, Int.reduceEq, Int.reduceNeg, Int.reduceToNat, hi1]) (by simp only [push_cast, Nat.reduceAdd, Nat.reduceSub, Nat.reduceMul, Nat.reduceLeDiff, Nat.reduceEqDiff, Nat.reduceLT, Int.reduceLT, Int.reduceLE, Int.reduceEq, Int.reduceNeg, Int.reduceToNat, hi1])
      · have hne : decide ((i : Int) = (s.size : Int)) = false := decide_eq_false (by omega)
        have hr : rcB s = false := by simp only [rcB]; rw [decide_eq_false (by omega), Bool.false_and]
        simp only [rcX, hr, Bool.false_eq_true, if_false] at hret
        subst hret
        simp only [Try.ntmps62, Try.results62, push_cast, Nat.reduceAdd, Nat.reduceSub, Nat.reduceMul, Nat.reduceLeDiff, Nat.reduceEqDiff, Nat.reduceLT, Int.reduceLT, Int.reduceLE, Int.reduceEq, Int.reduceNeg, Int.reduceToNat, hlt, h4, decide_not, hne, hll]
    · have hie : i = s.size := by omega
      have hfin : F.take i = F := List.take_of_length_le (by rw [hFl, hie]; exact Nat.le_refl _)
      have heq : decide ((i : Int) = (s.size : Int)) = true := decide_eq_true (by omega)
      rw [hfin] at hll
      have k2 := confOkS_ok F (by rw [hFl]; omega)
      have ht : (vR (ints F)).take i = vR (ints F) := List.take_of_length_le (by rw [vR_length, hll]; exact Nat.le_refl _)
      have hr : rcB s = confB F := by
        simp only [rcB, ← hF]
        cases hc : confB F with
        | false => rw [Bool.and_false]
        | true =>
          simp only [confB, Bool.and_eq_true, decide_eq_true_eq] at hc
          have := rise_len hc.2
          rw [decide_eq_true (by omega)]; rfl
      simp only [hfin]
      simp only [Try.ntmps62, Try.results62, push_cast, Nat.reduceAdd, Nat.reduceSub, Nat.reduceMul, Nat.reduceLeDiff, Nat.reduceEqDiff, Nat.reduceLT, Int.reduceLT, Int.reduceLE, Int.reduceEq, Int.reduceNeg, Int.reduceToNat, hlt, decide_not, heq, hll]
      refine GoL_call rfl (by simp only [push_cast, Nat.reduceAdd, Nat.reduceSub, Nat.reduceMul, Nat.reduceLeDiff, Nat.reduceEqDiff, Nat.reduceLT, Int.reduceLT, Int.reduceLE, Int.reduceEq, Int.reduceNeg, Int.reduceToNat, ht]) k2 rfl rfl ?_
      cases c2 : confB F with
      | true =>
        simp only [rcX, hr.trans c2, if_true, ← hF] at hret
        subst hret
        simp only [Try.ntmps62, Try.results62, push_cast, Nat.reduceAdd, Nat.reduceSub, Nat.reduceMul, Nat.reduceLeDiff, Nat.reduceEqDiff, Nat.reduceLT, Int.reduceLT, Int.reduceLE, Int.reduceEq, Int.reduceNeg, Int.reduceToNat, hll]
      | false =>
        simp only [rcX, hr.trans c2, Bool.false_eq_true, if_false] at hret
        subst hret
        simp only [Try.ntmps62, Try.results62, push_cast, Nat.reduceAdd, Nat.reduceSub, Nat.reduceMul, Nat.reduceLeDiff, Nat.reduceEqDiff, Nat.reduceLT, Int.reduceLT, Int.reduceLE, Int.reduceEq, Int.reduceNeg, Int.reduceToNat, hll]

/-! ### entries -/
def entC (term kind : Int) (data : ByteArray) : List C := [.v (.int .i64 term), .v (.int .i64 kind), .v (.string data)]
def eoB (term kind : Int) (data : ByteArray) : Bool := inR term 0 100000 &&
  (if decide (kind = 1) then decide (data = ⟨#[]⟩) else if decide (kind = 2) then rcB data else if decide (kind = 3) then decide ((data.size : Int) ≤ 640) else false)
theorem rcX_true {s : ByteArray} (h : rcB s = true) : rcX s = [.one (.own 1 (vR (ints (natsL s)))), bo true] := by simp only [rcX, h, if_true]
theorem rcX_false {s : ByteArray} (h : rcB s = false) : rcX s = [.one (.own 1 []), bo false] := by simp only [rcX, h, Bool.false_eq_true, if_false]
theorem entryOkI_ok (term kind : Int) (data : ByteArray) (hd : data.size ≤ 140737488355328) : PureFn Try.prog 42 [.agg (entC term kind data)] [bo (eoB term kind data)] := by
  refine PureFn_of_Go Try.func42 rfl (by decide) mo (by decide +kernel) ?_
  have k1 := isTerm_ok term
  have k2 := readConfI_ok data hd
  simp only [Try.ntmps42, Try.results42, push_cast, Nat.reduceAdd, Nat.reduceSub, Nat.reduceMul, Nat.reduceLeDiff, Nat.reduceEqDiff, Nat.reduceLT, Int.reduceLT, Int.reduceLE, Int.reduceEq, Int.reduceNeg, Int.reduceToNat, entC]
  refine GoL_call rfl rfl k1 rfl rfl ?_
  unfold eoB
  cases c0 : inR term 0 100000 with
  | false => simp only [Try.ntmps42, Try.results42, push_cast, Nat.reduceAdd, Nat.reduceSub, Nat.reduceMul, Nat.reduceLeDiff, Nat.reduceEqDiff, Nat.reduceLT, Int.reduceLT, Int.reduceLE, Int.reduceEq, Int.reduceNeg, Int.reduceToNat]
  | true =>
    cases c1 : decide (kind = 1) with
    | true => simp only [Try.ntmps42, Try.results42, push_cast, Nat.reduceAdd, Nat.reduceSub, Nat.reduceMul, Nat.reduceLeDiff, Nat.reduceEqDiff, Nat.reduceLT, Int.reduceLT, Int.reduceLE, Int.reduceEq, Int.reduceNeg, Int.reduceToNat, c1]
    | false =>
      cases c2 : decide (kind = 2) with
      | true =>
        simp only [Try.ntmps42, Try.results42, push_cast, Nat.reduceAdd, Nat.reduceSub, Nat.reduceMul, Nat.reduceLeDiff, Nat.reduceEqDiff, Nat.reduceLT, Int.reduceLT, Int.reduceLE, Int.reduceEq, Int.reduceNeg, Int.reduceToNat, c1, c2]
        cases c3 : rcB data with
        | true =>
          rw [rcX_true c3] at k2
          refine GoL_call rfl rfl k2 (by simp only [push_cast, Nat.reduceAdd, Nat.reduceSub, Nat.reduceMul, Nat.reduceLeDiff, Nat.reduceEqDiff, Nat.reduceLT, Int.reduceLT, Int.reduceLE, Int.reduceEq, Int.reduceNeg, Int.reduceToNat]) rfl ?_
          simp only [Try.ntmps42, Try.results42, push_cast, Nat.reduceAdd, Nat.reduceSub, Nat.reduceMul, Nat.reduceLeDiff, Nat.reduceEqDiff, Nat.reduceLT, Int.reduceLT, Int.reduceLE, Int.reduceEq, Int.reduceNeg, Int.reduceToNat]
        | false =>
          rw [rcX_false c3] at k2
          refine GoL_call rfl rfl k2 rfl rfl ?_
          simp only [Try.ntmps42, Try.results42, push_cast, Nat.reduceAdd, Nat.reduceSub, Nat.reduceMul, Nat.reduceLeDiff, Nat.reduceEqDiff, Nat.reduceLT, Int.reduceLT, Int.reduceLE, Int.reduceEq, Int.reduceNeg, Int.reduceToNat]
      | false =>
        cases c4 : decide (kind = 3) with
        | true => simp only [Try.ntmps42, Try.results42, push_cast, Nat.reduceAdd, Nat.reduceSub, Nat.reduceMul, Nat.reduceLeDiff, Nat.reduceEqDiff, Nat.reduceLT, Int.reduceLT, Int.reduceLE, Int.reduceEq, Int.reduceNeg, Int.reduceToNat, c1, c2, c4]
        | false => simp only [Try.ntmps42, Try.results42, push_cast, Nat.reduceAdd, Nat.reduceSub, Nat.reduceMul, Nat.reduceLeDiff, Nat.reduceEqDiff, Nat.reduceLT, Int.reduceLT, Int.reduceLE, Int.reduceEq, Int.reduceNeg, Int.reduceToNat, c1, c2, c4]
theorem entryOkS_ok (term kind : Int) (data : ByteArray) (hd : data.size ≤ 140737488355328) : PureFn Try.prog 89 [.agg (entC term kind data)] [bo (eoB term kind data)] := by
  refine PureFn_of_Go Try.func89 rfl (by decide) mo (by decide +kernel) ?_
  have k1 := l01In_ok term 0 100000
  have k2 := readConfS_ok data hd
  simp only [Try.ntmps89, Try.results89, push_cast, Nat.reduceAdd, Nat.reduceSub, Nat.reduceMul, Nat.reduceLeDiff, Nat.reduceEqDiff, Nat.reduceLT, Int.reduceLT, Int.reduceLE, Int.reduceEq, Int.reduceNeg, Int.reduceToNat, entC]
  refine GoL_call rfl rfl k1 rfl rfl ?_
  rw [show (decide ((0 : Int) ≤ term) && decide (term ≤ 100000)) = inR term 0 100000 from rfl]
  unfold eoB
  cases c0 : inR term 0 100000 with
  | false => simp only [Try.ntmps89, Try.results89, push_cast, Nat.reduceAdd, Nat.reduceSub, Nat.reduceMul, Nat.reduceLeDiff, Nat.reduceEqDiff, Nat.reduceLT, Int.reduceLT, Int.reduceLE, Int.reduceEq, Int.reduceNeg, Int.reduceToNat]
  | true =>
    cases c1 : decide (kind = 1) with
    | true => simp only [Try.ntmps89, Try.results89, push_cast, Nat.reduceAdd, Nat.reduceSub, Nat.reduceMul, Nat.reduceLeDiff, Nat.reduceEqDiff, Nat.reduceLT, Int.reduceLT, Int.reduceLE, Int.reduceEq, Int.reduceNeg, Int.reduceToNat, c1]
    | false =>
      cases c2 : decide (kind = 2) with
      | true =>
        simp only [Try.ntmps89, Try.results89, push_cast, Nat.reduceAdd, Nat.reduceSub, Nat.reduceMul, Nat.reduceLeDiff, Nat.reduceEqDiff, Nat.reduceLT, Int.reduceLT, Int.reduceLE, Int.reduceEq, Int.reduceNeg, Int.reduceToNat, c1, c2]
        cases c3 : rcB data with
        | true =>
          rw [rcX_true c3] at k2
          refine GoL_call rfl rfl k2 (by simp only [push_cast, Nat.reduceAdd, Nat.reduceSub, Nat.reduceMul, Nat.reduceLeDiff, Nat.reduceEqDiff, Nat.reduceLT, Int.reduceLT, Int.reduceLE, Int.reduceEq, Int.reduceNeg, Int.reduceToNat]) rfl ?_
          simp only [Try.ntmps89, Try.results89, push_cast, Nat.reduceAdd, Nat.reduceSub, Nat.reduceMul, Nat.reduceLeDiff, Nat.reduceEqDiff, Nat.reduceLT, Int.reduceLT, Int.reduceLE, Int.reduceEq, Int.reduceNeg, Int.reduceToNat]
        | false =>
          rw [rcX_false c3] at k2
          refine GoL_call rfl rfl k2 rfl rfl ?_
          simp only [Try.ntmps89, Try.results89, push_cast, Nat.reduceAdd, Nat.reduceSub, Nat.reduceMul, Nat.reduceLeDiff, Nat.reduceEqDiff, Nat.reduceLT, Int.reduceLT, Int.reduceLE, Int.reduceEq, Int.reduceNeg, Int.reduceToNat]
      | false =>
        cases c4 : decide (kind = 3) with
        | true => simp only [Try.ntmps89, Try.results89, push_cast, Nat.reduceAdd, Nat.reduceSub, Nat.reduceMul, Nat.reduceLeDiff, Nat.reduceEqDiff, Nat.reduceLT, Int.reduceLT, Int.reduceLE, Int.reduceEq, Int.reduceNeg, Int.reduceToNat, c1, c2, c4]
        | false => simp only [Try.ntmps89, Try.results89, push_cast, Nat.reduceAdd, Nat.reduceSub, Nat.reduceMul, Nat.reduceLeDiff, Nat.reduceEqDiff, Nat.reduceLT, Int.reduceLT, Int.reduceLE, Int.reduceEq, Int.reduceNeg, Int.reduceToNat, c1, c2, c4]

def etB (index term kind : Nat) (data : ByteArray) : ByteArray := (((⟨#[69]⟩ ++ varB index) ++ varB term) ++ ⟨[UInt8.ofNat kind].toArray⟩) ++ data
def etOk (index term kind : Nat) (data : ByteArray) : Bool := eoB term kind data && inR index 1 1000000
def etX (index term kind : Nat) (data : ByteArray) : List X := if etOk index term kind data then [st (etB index term kind data), bo true] else [st ⟨#[]⟩, bo false]
theorem varL_len (n : Nat) : (varL n).length ≤ n + 1 := by
  induction n using Nat.strongRecOn with
  | ind n ih =>
    by_cases h : n ≤ 127
    · rw [varL_small h]; simp
    · rw [varL_big h, List.length_cons]
      have := ih (n / 128) (by omega)
      omega
theorem varB_size (n : Nat) : (varB n).size ≤ n + 1 := by
  have := varL_len n
  show (varL n).toArray.size ≤ _
  simpa using this
theorem entryTextS_ok (index term kind : Nat) (hi : index ≤ 1000000000) (ht : term ≤ 1000000000) (data : ByteArray) (hd : data.size ≤ 140737488355328) : PureFn Try.prog 37 [i64 index, .agg (entC term kind data)] (etX index term kind data) := by
  refine PureFn_of_Go Try.func37 rfl (by decide) mo (by decide +kernel) ?_
  have k1 := entryOkS_ok term kind data hd
  have k2 := l01In_ok index 1 1000000
  rw [show (decide ((1 : Int) ≤ (index : Int)) && decide ((index : Int) ≤ 1000000)) = inR index 1 1000000 from rfl] at k2
  simp only [entC] at k1
  simp only [Try.ntmps37, Try.results37, push_cast, Nat.reduceAdd, Nat.reduceSub, Nat.reduceMul, Nat.reduceLeDiff, Nat.reduceEqDiff, Nat.reduceLT, Int.reduceLT, Int.reduceLE, Int.reduceEq, Int.reduceNeg, Int.reduceToNat, entC]
  refine GoL_call rfl rfl k1 rfl rfl ?_
  cases c1 : eoB term kind data with
  | false =>
    have hx : etX index term kind data = [st ⟨#[]⟩, bo false] := by simp only [etX, etOk, c1, Bool.false_and, Bool.false_eq_true, if_false]
    rw [hx]
    simp only [Try.ntmps37, Try.results37, push_cast, Nat.reduceAdd, Nat.reduceSub, Nat.reduceMul, Nat.reduceLeDiff, Nat.reduceEqDiff, Nat.reduceLT, Int.reduceLT, Int.reduceLE, Int.reduceEq, Int.reduceNeg, Int.reduceToNat]
  | true =>
    simp only [Try.ntmps37, Try.results37, push_cast, Nat.reduceAdd, Nat.reduceSub, Nat.reduceMul, Nat.reduceLeDiff, Nat.reduceEqDiff, Nat.reduceLT, Int.reduceLT, Int.reduceLE, Int.reduceEq, Int.reduceNeg, Int.reduceToNat]
    refine GoL_call rfl rfl k2 rfl rfl ?_
    cases c2 : inR index 1 1000000 with
    | false =>
      have hx : etX index term kind data = [st ⟨#[]⟩, bo false] := by simp only [etX, etOk, c1, c2, Bool.true_and, Bool.false_eq_true, if_false]
      rw [hx]
      simp only [Try.ntmps37, Try.results37, push_cast, Nat.reduceAdd, Nat.reduceSub, Nat.reduceMul, Nat.reduceLeDiff, Nat.reduceEqDiff, Nat.reduceLT, Int.reduceLT, Int.reduceLE, Int.reduceEq, Int.reduceNeg, Int.reduceToNat]
    | true =>
      have hx : etX index term kind data = [st (etB index term kind data), bo true] := by simp only [etX, etOk, c1, c2, Bool.true_and, if_true]
      rw [hx]
      have h1 := varB_size index
      have h2 := varB_size term
      have e1 : (⟨#[69]⟩ : ByteArray).size = 1 := rfl
      have r1 : (⟨#[69]⟩ : ByteArray).size + (varB index).size ≤ 9223372036854775807 := by omega
      have r2 : (⟨#[69]⟩ ++ varB index).size + (varB term).size ≤ 9223372036854775807 := by rw [ByteArray.size_append]; omega
      have w := wu8 (n := kind)
      have hf := str_natsOf [UInt8.ofNat kind]
      simp only [natsOf, List.map_cons, List.map_nil] at hf
      obtain ⟨c, hc⟩ : ∃ c, c = UInt8.ofNat kind := ⟨_, rfl⟩
      unfold etB
      rw [← hc] at w hf ⊢
      obtain ⟨kk, hkk⟩ : ∃ kk : ByteArray, kk = ⟨[c].toArray⟩ := ⟨_, rfl⟩
      rw [← hkk] at hf ⊢
      have e2 : kk.size = 1 := by rw [hkk]; rfl
      have r3 : ((⟨#[69]⟩ ++ varB index) ++ varB term).size + kk.size ≤ 9223372036854775807 := by rw [ByteArray.size_append, ByteArray.size_append]; omega
      have r4 : (((⟨#[69]⟩ ++ varB index) ++ varB term) ++ kk).size + data.size ≤ 9223372036854775807 := by rw [ByteArray.size_append, ByteArray.size_append, ByteArray.size_append]; omega
      simp only [Try.ntmps37, Try.results37, push_cast, Nat.reduceAdd, Nat.reduceSub, Nat.reduceMul, Nat.reduceLeDiff, Nat.reduceEqDiff, Nat.reduceLT, Int.reduceLT, Int.reduceLE, Int.reduceEq, Int.reduceNeg, Int.reduceToNat]
      refine GoD_call rfl rfl (l01Var_ok index (by omega)) rfl rfl ?_
      simp only [Try.ntmps37, Try.results37, push_cast, Nat.reduceAdd, Nat.reduceSub, Nat.reduceMul, Nat.reduceLeDiff, Nat.reduceEqDiff, Nat.reduceLT, Int.reduceLT, Int.reduceLE, Int.reduceEq, Int.reduceNeg, Int.reduceToNat, r1]
      refine GoD_call rfl rfl (l01Var_ok term (by omega)) rfl rfl ?_
      simp only [Try.ntmps37, Try.results37, push_cast, Nat.reduceAdd, Nat.reduceSub, Nat.reduceMul, Nat.reduceLeDiff, Nat.reduceEqDiff, Nat.reduceLT, Int.reduceLT, Int.reduceLE, Int.reduceEq, Int.reduceNeg, Int.reduceToNat, r1, r2, w, hf, r3, r4]
end Go.Proofs.Ytadbfhgeekpdgaa
