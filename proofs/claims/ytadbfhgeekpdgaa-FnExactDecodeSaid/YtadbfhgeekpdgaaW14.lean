/- Commands: right ones. -/
import Derived.Test.YtadbfhgeekpdgaaW13

namespace Go.Proofs.Ytadbfhgeekpdgaa
open Go.RowKit Go.Rx
set_option linter.unusedSimpArgs false
set_option maxRecDepth 100000

def eqB (text task : ByteArray) (num to_ : Int) (yes : Bool) : Bool := (((decide (text = ⟨#[]⟩) && decide (task = ⟨#[]⟩)) && decide (num = 0)) && decide (to_ = 0)) && !yes
theorem cmd_eq (x y : Operand) (op num to_ : Int) (text task : ByteArray) (yes : Bool) :
    binV Try.prog .eql 29 x y (.x (.agg [.v (.int .i64 op), .v (.int .i64 0), .v (.int .i64 0), .v (.string text), .v (.string task), .v (.int .i64 num), .v (.int .i64 to_), .v (.bool yes)]))
      (.x (.agg [.v (.int .i64 op), .v (.int .i64 0), .v (.int .i64 0), .v (.string ⟨#[]⟩), .v (.string ⟨#[]⟩), .v (.int .i64 0), .v (.int .i64 0), .v (.bool false)])) = some (one (.v (.bool (eqB text task num to_ yes)))) := by
  refine bin_eqA (by kernel_rfl) rfl rfl ((equal_flat Try.underlying29 (by kernel_rfl)
    (e := fun f => if f.offset = 3 then decide (text = ⟨#[]⟩) else if f.offset = 4 then decide (task = ⟨#[]⟩) else if f.offset = 5 then decide (num = 0) else if f.offset = 6 then decide (to_ = 0) else if f.offset = 7 then !yes else true) ?_).trans ?_)
  · intro f hf
    simp only [List.mem_cons, List.not_mem_nil, or_false] at hf
    rcases hf with rfl | rfl | rfl | rfl | rfl | rfl | rfl | rfl
    · exact ⟨by decide, T3.2.1, _, _, rfl, rfl, fun d => (eq_int U3 _ _).trans (by simp)⟩
    · exact ⟨by decide, T3.2.1, _, _, rfl, rfl, fun d => (eq_int U3 _ _).trans (by simp)⟩
    · exact ⟨by decide, T3.2.1, _, _, rfl, rfl, fun d => (eq_int U3 _ _).trans (by simp)⟩
    · exact ⟨by decide, T9.2.1, _, _, rfl, rfl, fun d => (eq_str U9 _ _).trans (by simp)⟩
    · exact ⟨by decide, T9.2.1, _, _, rfl, rfl, fun d => (eq_str U9 _ _).trans (by simp)⟩
    · exact ⟨by decide, T3.2.1, _, _, rfl, rfl, fun d => (eq_int U3 _ _).trans (by simp)⟩
    · exact ⟨by decide, T3.2.1, _, _, rfl, rfl, fun d => (eq_int U3 _ _).trans (by simp)⟩
    · exact ⟨by decide, T4.2.1, _, _, rfl, rfl, fun d => (eq_bool U4 _ _).trans (by cases yes <;> rfl)⟩
  · simp [eqB, Bool.and_assoc]

def cokB (x : Cmd) : Bool := (inR x.tok 0 1000000 && inR x.seq 0 1000000) &&
  (if decide (x.op = 1) then (decide (x.tok = 0) && decide (x.seq = 0)) && restB x false false false false false
   else if decide (x.op = 2) then decide ((x.text.size : Int) ≤ 600) && restB x true false false false false
   else if decide (x.op = 3) then nameB x.text && restB x true false false false true
   else if decide (x.op = 4) then inR x.num 0 68374079 && restB x false false true false false
   else if decide (x.op = 5) then restB x false false false false false
   else if decide (x.op = 6) then inR x.num 0 1000000000 && restB x false false true false false
   else if decide (x.op = 7) then inR x.num 0 1000000000 && restB x false false true false true
   else if decide (x.op = 8) then ((nameB x.text && inR x.num 0 68374079) && inR x.to_ 0 68374079) && restB x true false true true false
   else if decide (x.op = 9) then ((nameB x.text && inR x.num 0 68374079) && nameB x.task) && restB x true true true false false
   else false)
theorem restB_eq (x : Cmd) (t a n o y : Bool) : restB x t a n o y = eqB (if t then ⟨#[]⟩ else x.text) (if a then ⟨#[]⟩ else x.task) (if n then 0 else x.num) (if o then 0 else x.to_) (if y then false else x.yes) := by
  unfold restB eqB
  cases t <;> cases a <;> cases n <;> cases o <;> cases y <;> simp

set_option maxHeartbeats 4000000 in
theorem commandOkS_ok (x : Cmd) (hx : x.Ok) : PureFn Try.prog 54 [.agg x.enc] [bo (cokB x)] := by
  obtain ⟨hx1, hx2⟩ := hx
  refine PureFn_of_Go Try.func54 rfl (by decide) mo (by decide +kernel) ?_
  have kt := l01In_ok x.tok 0 1000000
  have ks := l01In_ok x.seq 0 1000000
  have mN := l01In_ok x.num 0 68374079
  have mT := l01In_ok x.to_ 0 68374079
  have bN := l01In_ok x.num 0 1000000000
  have nT := nameS_ok x.text hx1
  have nK := nameS_ok x.task hx2
  rw [show (decide ((0 : Int) ≤ x.tok) && decide (x.tok ≤ 1000000)) = inR x.tok 0 1000000 from rfl] at kt
  rw [show (decide ((0 : Int) ≤ x.seq) && decide (x.seq ≤ 1000000)) = inR x.seq 0 1000000 from rfl] at ks
  rw [show (decide ((0 : Int) ≤ x.num) && decide (x.num ≤ 68374079)) = inR x.num 0 68374079 from rfl] at mN
  rw [show (decide ((0 : Int) ≤ x.to_) && decide (x.to_ ≤ 68374079)) = inR x.to_ 0 68374079 from rfl] at mT
  rw [show (decide ((0 : Int) ≤ x.num) && decide (x.num ≤ 1000000000)) = inR x.num 0 1000000000 from rfl] at bN
  unfold cokB
  simp only [Try.ntmps54, Try.results54, push_cast, Nat.reduceAdd, Nat.reduceSub, Nat.reduceMul, Nat.reduceLeDiff, Nat.reduceEqDiff, Nat.reduceLT, Int.reduceLT, Int.reduceLE, Int.reduceEq, Int.reduceNeg, Int.reduceToNat, Cmd.enc]
  refine GoL_call rfl rfl kt rfl rfl ?_
  cases ct : inR x.tok 0 1000000 with
  | false => simp only [Try.ntmps54, Try.results54, push_cast, Nat.reduceAdd, Nat.reduceSub, Nat.reduceMul, Nat.reduceLeDiff, Nat.reduceEqDiff, Nat.reduceLT, Int.reduceLT, Int.reduceLE, Int.reduceEq, Int.reduceNeg, Int.reduceToNat, Cmd.enc]
  | true =>
    simp only [Try.ntmps54, Try.results54, push_cast, Nat.reduceAdd, Nat.reduceSub, Nat.reduceMul, Nat.reduceLeDiff, Nat.reduceEqDiff, Nat.reduceLT, Int.reduceLT, Int.reduceLE, Int.reduceEq, Int.reduceNeg, Int.reduceToNat, Cmd.enc]
    refine GoL_call rfl rfl ks rfl rfl ?_
    cases cs : inR x.seq 0 1000000 with
    | false => simp only [Try.ntmps54, Try.results54, push_cast, Nat.reduceAdd, Nat.reduceSub, Nat.reduceMul, Nat.reduceLeDiff, Nat.reduceEqDiff, Nat.reduceLT, Int.reduceLT, Int.reduceLE, Int.reduceEq, Int.reduceNeg, Int.reduceToNat, Cmd.enc]
    | true =>
      cases e1 : decide (x.op = 1) with
      | true =>
        cases q0 : decide (x.tok = 0) with
        | false => simp only [Try.ntmps54, Try.results54, push_cast, Nat.reduceAdd, Nat.reduceSub, Nat.reduceMul, Nat.reduceLeDiff, Nat.reduceEqDiff, Nat.reduceLT, Int.reduceLT, Int.reduceLE, Int.reduceEq, Int.reduceNeg, Int.reduceToNat, Cmd.enc, e1, q0]
        | true =>
          cases q1 : decide (x.seq = 0) with
          | false => simp only [Try.ntmps54, Try.results54, push_cast, Nat.reduceAdd, Nat.reduceSub, Nat.reduceMul, Nat.reduceLeDiff, Nat.reduceEqDiff, Nat.reduceLT, Int.reduceLT, Int.reduceLE, Int.reduceEq, Int.reduceNeg, Int.reduceToNat, Cmd.enc, e1, q0, q1]
          | true =>
            simp only [Try.ntmps54, Try.results54, push_cast, Nat.reduceAdd, Nat.reduceSub, Nat.reduceMul, Nat.reduceLeDiff, Nat.reduceEqDiff, Nat.reduceLT, Int.reduceLT, Int.reduceLE, Int.reduceEq, Int.reduceNeg, Int.reduceToNat, Cmd.enc, e1, q0, q1]
            refine GoL_call rfl rfl (restFFFFF_ok x) rfl rfl ?_
            simp only [Try.ntmps54, Try.results54, push_cast, Nat.reduceAdd, Nat.reduceSub, Nat.reduceMul, Nat.reduceLeDiff, Nat.reduceEqDiff, Nat.reduceLT, Int.reduceLT, Int.reduceLE, Int.reduceEq, Int.reduceNeg, Int.reduceToNat, Cmd.enc, e1, q0, q1]
      | false =>
        cases e2 : decide (x.op = 2) with
        | true =>
          cases q0 : decide ((x.text.size : Int) ≤ 600) with
          | false => simp only [Try.ntmps54, Try.results54, push_cast, Nat.reduceAdd, Nat.reduceSub, Nat.reduceMul, Nat.reduceLeDiff, Nat.reduceEqDiff, Nat.reduceLT, Int.reduceLT, Int.reduceLE, Int.reduceEq, Int.reduceNeg, Int.reduceToNat, Cmd.enc, e1, e2, q0]
          | true =>
            simp only [Try.ntmps54, Try.results54, push_cast, Nat.reduceAdd, Nat.reduceSub, Nat.reduceMul, Nat.reduceLeDiff, Nat.reduceEqDiff, Nat.reduceLT, Int.reduceLT, Int.reduceLE, Int.reduceEq, Int.reduceNeg, Int.reduceToNat, Cmd.enc, e1, e2, q0]
            refine GoL_call rfl rfl (restTFFFF_ok x) rfl rfl ?_
            simp only [Try.ntmps54, Try.results54, push_cast, Nat.reduceAdd, Nat.reduceSub, Nat.reduceMul, Nat.reduceLeDiff, Nat.reduceEqDiff, Nat.reduceLT, Int.reduceLT, Int.reduceLE, Int.reduceEq, Int.reduceNeg, Int.reduceToNat, Cmd.enc, e1, e2, q0]
        | false =>
          cases e3 : decide (x.op = 3) with
          | true =>
            simp only [Try.ntmps54, Try.results54, push_cast, Nat.reduceAdd, Nat.reduceSub, Nat.reduceMul, Nat.reduceLeDiff, Nat.reduceEqDiff, Nat.reduceLT, Int.reduceLT, Int.reduceLE, Int.reduceEq, Int.reduceNeg, Int.reduceToNat, Cmd.enc, e1, e2, e3]
            refine GoL_call rfl rfl nT rfl rfl ?_
            cases q0 : nameB x.text with
            | false => simp only [Try.ntmps54, Try.results54, push_cast, Nat.reduceAdd, Nat.reduceSub, Nat.reduceMul, Nat.reduceLeDiff, Nat.reduceEqDiff, Nat.reduceLT, Int.reduceLT, Int.reduceLE, Int.reduceEq, Int.reduceNeg, Int.reduceToNat, Cmd.enc, e1, e2, e3, q0]
            | true =>
              simp only [Try.ntmps54, Try.results54, push_cast, Nat.reduceAdd, Nat.reduceSub, Nat.reduceMul, Nat.reduceLeDiff, Nat.reduceEqDiff, Nat.reduceLT, Int.reduceLT, Int.reduceLE, Int.reduceEq, Int.reduceNeg, Int.reduceToNat, Cmd.enc, e1, e2, e3, q0]
              refine GoL_call rfl rfl (restTFFFT_ok x) rfl rfl ?_
              simp only [Try.ntmps54, Try.results54, push_cast, Nat.reduceAdd, Nat.reduceSub, Nat.reduceMul, Nat.reduceLeDiff, Nat.reduceEqDiff, Nat.reduceLT, Int.reduceLT, Int.reduceLE, Int.reduceEq, Int.reduceNeg, Int.reduceToNat, Cmd.enc, e1, e2, e3, q0]
          | false =>
            cases e4 : decide (x.op = 4) with
            | true =>
              simp only [Try.ntmps54, Try.results54, push_cast, Nat.reduceAdd, Nat.reduceSub, Nat.reduceMul, Nat.reduceLeDiff, Nat.reduceEqDiff, Nat.reduceLT, Int.reduceLT, Int.reduceLE, Int.reduceEq, Int.reduceNeg, Int.reduceToNat, Cmd.enc, e1, e2, e3, e4]
              refine GoL_call rfl rfl mN rfl rfl ?_
              cases q0 : inR x.num 0 68374079 with
              | false => simp only [Try.ntmps54, Try.results54, push_cast, Nat.reduceAdd, Nat.reduceSub, Nat.reduceMul, Nat.reduceLeDiff, Nat.reduceEqDiff, Nat.reduceLT, Int.reduceLT, Int.reduceLE, Int.reduceEq, Int.reduceNeg, Int.reduceToNat, Cmd.enc, e1, e2, e3, e4, q0]
              | true =>
                simp only [Try.ntmps54, Try.results54, push_cast, Nat.reduceAdd, Nat.reduceSub, Nat.reduceMul, Nat.reduceLeDiff, Nat.reduceEqDiff, Nat.reduceLT, Int.reduceLT, Int.reduceLE, Int.reduceEq, Int.reduceNeg, Int.reduceToNat, Cmd.enc, e1, e2, e3, e4, q0]
                refine GoL_call rfl rfl (restFFTFF_ok x) rfl rfl ?_
                simp only [Try.ntmps54, Try.results54, push_cast, Nat.reduceAdd, Nat.reduceSub, Nat.reduceMul, Nat.reduceLeDiff, Nat.reduceEqDiff, Nat.reduceLT, Int.reduceLT, Int.reduceLE, Int.reduceEq, Int.reduceNeg, Int.reduceToNat, Cmd.enc, e1, e2, e3, e4, q0]
            | false =>
              cases e5 : decide (x.op = 5) with
              | true =>
                simp only [Try.ntmps54, Try.results54, push_cast, Nat.reduceAdd, Nat.reduceSub, Nat.reduceMul, Nat.reduceLeDiff, Nat.reduceEqDiff, Nat.reduceLT, Int.reduceLT, Int.reduceLE, Int.reduceEq, Int.reduceNeg, Int.reduceToNat, Cmd.enc, e1, e2, e3, e4, e5]
                refine GoL_call rfl rfl (restFFFFF_ok x) rfl rfl ?_
                simp only [Try.ntmps54, Try.results54, push_cast, Nat.reduceAdd, Nat.reduceSub, Nat.reduceMul, Nat.reduceLeDiff, Nat.reduceEqDiff, Nat.reduceLT, Int.reduceLT, Int.reduceLE, Int.reduceEq, Int.reduceNeg, Int.reduceToNat, Cmd.enc, e1, e2, e3, e4, e5]
              | false =>
                cases e6 : decide (x.op = 6) with
                | true =>
                  simp only [Try.ntmps54, Try.results54, push_cast, Nat.reduceAdd, Nat.reduceSub, Nat.reduceMul, Nat.reduceLeDiff, Nat.reduceEqDiff, Nat.reduceLT, Int.reduceLT, Int.reduceLE, Int.reduceEq, Int.reduceNeg, Int.reduceToNat, Cmd.enc, e1, e2, e3, e4, e5, e6]
                  refine GoL_call rfl rfl bN rfl rfl ?_
                  cases q0 : inR x.num 0 1000000000 with
                  | false => simp only [Try.ntmps54, Try.results54, push_cast, Nat.reduceAdd, Nat.reduceSub, Nat.reduceMul, Nat.reduceLeDiff, Nat.reduceEqDiff, Nat.reduceLT, Int.reduceLT, Int.reduceLE, Int.reduceEq, Int.reduceNeg, Int.reduceToNat, Cmd.enc, e1, e2, e3, e4, e5, e6, q0]
                  | true =>
                    simp only [Try.ntmps54, Try.results54, push_cast, Nat.reduceAdd, Nat.reduceSub, Nat.reduceMul, Nat.reduceLeDiff, Nat.reduceEqDiff, Nat.reduceLT, Int.reduceLT, Int.reduceLE, Int.reduceEq, Int.reduceNeg, Int.reduceToNat, Cmd.enc, e1, e2, e3, e4, e5, e6, q0]
                    refine GoL_call rfl rfl (restFFTFF_ok x) rfl rfl ?_
                    simp only [Try.ntmps54, Try.results54, push_cast, Nat.reduceAdd, Nat.reduceSub, Nat.reduceMul, Nat.reduceLeDiff, Nat.reduceEqDiff, Nat.reduceLT, Int.reduceLT, Int.reduceLE, Int.reduceEq, Int.reduceNeg, Int.reduceToNat, Cmd.enc, e1, e2, e3, e4, e5, e6, q0]
                | false =>
                  cases e7 : decide (x.op = 7) with
                  | true =>
                    simp only [Try.ntmps54, Try.results54, push_cast, Nat.reduceAdd, Nat.reduceSub, Nat.reduceMul, Nat.reduceLeDiff, Nat.reduceEqDiff, Nat.reduceLT, Int.reduceLT, Int.reduceLE, Int.reduceEq, Int.reduceNeg, Int.reduceToNat, Cmd.enc, e1, e2, e3, e4, e5, e6, e7]
                    refine GoL_call rfl rfl bN rfl rfl ?_
                    cases q0 : inR x.num 0 1000000000 with
                    | false => simp only [Try.ntmps54, Try.results54, push_cast, Nat.reduceAdd, Nat.reduceSub, Nat.reduceMul, Nat.reduceLeDiff, Nat.reduceEqDiff, Nat.reduceLT, Int.reduceLT, Int.reduceLE, Int.reduceEq, Int.reduceNeg, Int.reduceToNat, Cmd.enc, e1, e2, e3, e4, e5, e6, e7, q0]
                    | true =>
                      simp only [Try.ntmps54, Try.results54, push_cast, Nat.reduceAdd, Nat.reduceSub, Nat.reduceMul, Nat.reduceLeDiff, Nat.reduceEqDiff, Nat.reduceLT, Int.reduceLT, Int.reduceLE, Int.reduceEq, Int.reduceNeg, Int.reduceToNat, Cmd.enc, e1, e2, e3, e4, e5, e6, e7, q0]
                      refine GoL_call rfl rfl (restFFTFT_ok x) rfl rfl ?_
                      simp only [Try.ntmps54, Try.results54, push_cast, Nat.reduceAdd, Nat.reduceSub, Nat.reduceMul, Nat.reduceLeDiff, Nat.reduceEqDiff, Nat.reduceLT, Int.reduceLT, Int.reduceLE, Int.reduceEq, Int.reduceNeg, Int.reduceToNat, Cmd.enc, e1, e2, e3, e4, e5, e6, e7, q0]
                  | false =>
                    cases e8 : decide (x.op = 8) with
                    | true =>
                      simp only [Try.ntmps54, Try.results54, push_cast, Nat.reduceAdd, Nat.reduceSub, Nat.reduceMul, Nat.reduceLeDiff, Nat.reduceEqDiff, Nat.reduceLT, Int.reduceLT, Int.reduceLE, Int.reduceEq, Int.reduceNeg, Int.reduceToNat, Cmd.enc, e1, e2, e3, e4, e5, e6, e7, e8]
                      refine GoL_call rfl rfl nT rfl rfl ?_
                      cases q0 : nameB x.text with
                      | false => simp only [Try.ntmps54, Try.results54, push_cast, Nat.reduceAdd, Nat.reduceSub, Nat.reduceMul, Nat.reduceLeDiff, Nat.reduceEqDiff, Nat.reduceLT, Int.reduceLT, Int.reduceLE, Int.reduceEq, Int.reduceNeg, Int.reduceToNat, Cmd.enc, e1, e2, e3, e4, e5, e6, e7, e8, q0]
                      | true =>
                        simp only [Try.ntmps54, Try.results54, push_cast, Nat.reduceAdd, Nat.reduceSub, Nat.reduceMul, Nat.reduceLeDiff, Nat.reduceEqDiff, Nat.reduceLT, Int.reduceLT, Int.reduceLE, Int.reduceEq, Int.reduceNeg, Int.reduceToNat, Cmd.enc, e1, e2, e3, e4, e5, e6, e7, e8, q0]
                        refine GoL_call rfl rfl mN rfl rfl ?_
                        cases q1 : inR x.num 0 68374079 with
                        | false => simp only [Try.ntmps54, Try.results54, push_cast, Nat.reduceAdd, Nat.reduceSub, Nat.reduceMul, Nat.reduceLeDiff, Nat.reduceEqDiff, Nat.reduceLT, Int.reduceLT, Int.reduceLE, Int.reduceEq, Int.reduceNeg, Int.reduceToNat, Cmd.enc, e1, e2, e3, e4, e5, e6, e7, e8, q0, q1]
                        | true =>
                          simp only [Try.ntmps54, Try.results54, push_cast, Nat.reduceAdd, Nat.reduceSub, Nat.reduceMul, Nat.reduceLeDiff, Nat.reduceEqDiff, Nat.reduceLT, Int.reduceLT, Int.reduceLE, Int.reduceEq, Int.reduceNeg, Int.reduceToNat, Cmd.enc, e1, e2, e3, e4, e5, e6, e7, e8, q0, q1]
                          refine GoL_call rfl rfl mT rfl rfl ?_
                          cases q2 : inR x.to_ 0 68374079 with
                          | false => simp only [Try.ntmps54, Try.results54, push_cast, Nat.reduceAdd, Nat.reduceSub, Nat.reduceMul, Nat.reduceLeDiff, Nat.reduceEqDiff, Nat.reduceLT, Int.reduceLT, Int.reduceLE, Int.reduceEq, Int.reduceNeg, Int.reduceToNat, Cmd.enc, e1, e2, e3, e4, e5, e6, e7, e8, q0, q1, q2]
                          | true =>
                            simp only [Try.ntmps54, Try.results54, push_cast, Nat.reduceAdd, Nat.reduceSub, Nat.reduceMul, Nat.reduceLeDiff, Nat.reduceEqDiff, Nat.reduceLT, Int.reduceLT, Int.reduceLE, Int.reduceEq, Int.reduceNeg, Int.reduceToNat, Cmd.enc, e1, e2, e3, e4, e5, e6, e7, e8, q0, q1, q2]
                            refine GoL_call rfl rfl (restTFTTF_ok x) rfl rfl ?_
                            simp only [Try.ntmps54, Try.results54, push_cast, Nat.reduceAdd, Nat.reduceSub, Nat.reduceMul, Nat.reduceLeDiff, Nat.reduceEqDiff, Nat.reduceLT, Int.reduceLT, Int.reduceLE, Int.reduceEq, Int.reduceNeg, Int.reduceToNat, Cmd.enc, e1, e2, e3, e4, e5, e6, e7, e8, q0, q1, q2]
                    | false =>
                      cases e9 : decide (x.op = 9) with
                      | true =>
                        simp only [Try.ntmps54, Try.results54, push_cast, Nat.reduceAdd, Nat.reduceSub, Nat.reduceMul, Nat.reduceLeDiff, Nat.reduceEqDiff, Nat.reduceLT, Int.reduceLT, Int.reduceLE, Int.reduceEq, Int.reduceNeg, Int.reduceToNat, Cmd.enc, e1, e2, e3, e4, e5, e6, e7, e8, e9]
                        refine GoL_call rfl rfl nT rfl rfl ?_
                        cases q0 : nameB x.text with
                        | false => simp only [Try.ntmps54, Try.results54, push_cast, Nat.reduceAdd, Nat.reduceSub, Nat.reduceMul, Nat.reduceLeDiff, Nat.reduceEqDiff, Nat.reduceLT, Int.reduceLT, Int.reduceLE, Int.reduceEq, Int.reduceNeg, Int.reduceToNat, Cmd.enc, e1, e2, e3, e4, e5, e6, e7, e8, e9, q0]
                        | true =>
                          simp only [Try.ntmps54, Try.results54, push_cast, Nat.reduceAdd, Nat.reduceSub, Nat.reduceMul, Nat.reduceLeDiff, Nat.reduceEqDiff, Nat.reduceLT, Int.reduceLT, Int.reduceLE, Int.reduceEq, Int.reduceNeg, Int.reduceToNat, Cmd.enc, e1, e2, e3, e4, e5, e6, e7, e8, e9, q0]
                          refine GoL_call rfl rfl nK rfl rfl ?_
                          cases q1 : nameB x.task with
                          | false => simp only [Try.ntmps54, Try.results54, push_cast, Nat.reduceAdd, Nat.reduceSub, Nat.reduceMul, Nat.reduceLeDiff, Nat.reduceEqDiff, Nat.reduceLT, Int.reduceLT, Int.reduceLE, Int.reduceEq, Int.reduceNeg, Int.reduceToNat, Cmd.enc, e1, e2, e3, e4, e5, e6, e7, e8, e9, q0, q1]
                          | true =>
                            simp only [Try.ntmps54, Try.results54, push_cast, Nat.reduceAdd, Nat.reduceSub, Nat.reduceMul, Nat.reduceLeDiff, Nat.reduceEqDiff, Nat.reduceLT, Int.reduceLT, Int.reduceLE, Int.reduceEq, Int.reduceNeg, Int.reduceToNat, Cmd.enc, e1, e2, e3, e4, e5, e6, e7, e8, e9, q0, q1]
                            refine GoL_call rfl rfl mN rfl rfl ?_
                            cases q2 : inR x.num 0 68374079 with
                            | false => simp only [Try.ntmps54, Try.results54, push_cast, Nat.reduceAdd, Nat.reduceSub, Nat.reduceMul, Nat.reduceLeDiff, Nat.reduceEqDiff, Nat.reduceLT, Int.reduceLT, Int.reduceLE, Int.reduceEq, Int.reduceNeg, Int.reduceToNat, Cmd.enc, e1, e2, e3, e4, e5, e6, e7, e8, e9, q0, q1, q2]
                            | true =>
                              simp only [Try.ntmps54, Try.results54, push_cast, Nat.reduceAdd, Nat.reduceSub, Nat.reduceMul, Nat.reduceLeDiff, Nat.reduceEqDiff, Nat.reduceLT, Int.reduceLT, Int.reduceLE, Int.reduceEq, Int.reduceNeg, Int.reduceToNat, Cmd.enc, e1, e2, e3, e4, e5, e6, e7, e8, e9, q0, q1, q2]
                              refine GoL_call rfl rfl (restTTTFF_ok x) rfl rfl ?_
                              simp only [Try.ntmps54, Try.results54, push_cast, Nat.reduceAdd, Nat.reduceSub, Nat.reduceMul, Nat.reduceLeDiff, Nat.reduceEqDiff, Nat.reduceLT, Int.reduceLT, Int.reduceLE, Int.reduceEq, Int.reduceNeg, Int.reduceToNat, Cmd.enc, e1, e2, e3, e4, e5, e6, e7, e8, e9, q0, q1, q2]
                      | false =>
                        simp only [Try.ntmps54, Try.results54, push_cast, Nat.reduceAdd, Nat.reduceSub, Nat.reduceMul, Nat.reduceLeDiff, Nat.reduceEqDiff, Nat.reduceLT, Int.reduceLT, Int.reduceLE, Int.reduceEq, Int.reduceNeg, Int.reduceToNat, Cmd.enc, e1, e2, e3, e4, e5, e6, e7, e8, e9]
set_option maxHeartbeats 4000000 in
theorem commandOkI_ok (x : Cmd) (hx : x.Ok) : PureFn Try.prog 50 [.agg x.enc] [bo (cokB x)] := by
  obtain ⟨hx1, hx2⟩ := hx
  refine PureFn_of_Go Try.func50 rfl (by decide) mo (by decide +kernel) ?_
  have kt := isIndex_ok x.tok
  have ks := isIndex_ok x.seq
  have mN := isMinute_ok x.num
  have mT := isMinute_ok x.to_
  have bN := inRange_ok x.num 0 1000000000
  have nT := nameI_ok x.text hx1
  have nK := nameI_ok x.task hx2
  rw [show (decide ((0 : Int) ≤ x.num) && decide (x.num ≤ 1000000000)) = inR x.num 0 1000000000 from rfl] at bN
  unfold cokB
  simp only [Try.ntmps50, Try.results50, push_cast, Nat.reduceAdd, Nat.reduceSub, Nat.reduceMul, Nat.reduceLeDiff, Nat.reduceEqDiff, Nat.reduceLT, Int.reduceLT, Int.reduceLE, Int.reduceEq, Int.reduceNeg, Int.reduceToNat, Cmd.enc]
  refine GoL_call rfl rfl kt rfl rfl ?_
  cases ct : inR x.tok 0 1000000 with
  | false => simp only [Try.ntmps50, Try.results50, push_cast, Nat.reduceAdd, Nat.reduceSub, Nat.reduceMul, Nat.reduceLeDiff, Nat.reduceEqDiff, Nat.reduceLT, Int.reduceLT, Int.reduceLE, Int.reduceEq, Int.reduceNeg, Int.reduceToNat, Cmd.enc]
  | true =>
    simp only [Try.ntmps50, Try.results50, push_cast, Nat.reduceAdd, Nat.reduceSub, Nat.reduceMul, Nat.reduceLeDiff, Nat.reduceEqDiff, Nat.reduceLT, Int.reduceLT, Int.reduceLE, Int.reduceEq, Int.reduceNeg, Int.reduceToNat, Cmd.enc]
    refine GoL_call rfl rfl ks rfl rfl ?_
    cases cs : inR x.seq 0 1000000 with
    | false => simp only [Try.ntmps50, Try.results50, push_cast, Nat.reduceAdd, Nat.reduceSub, Nat.reduceMul, Nat.reduceLeDiff, Nat.reduceEqDiff, Nat.reduceLT, Int.reduceLT, Int.reduceLE, Int.reduceEq, Int.reduceNeg, Int.reduceToNat, Cmd.enc]
    | true =>
      cases e1 : decide (x.op = 1) with
      | true =>
        cases q0 : decide (x.tok = 0) with
        | false => simp only [Try.ntmps50, Try.results50, push_cast, Nat.reduceAdd, Nat.reduceSub, Nat.reduceMul, Nat.reduceLeDiff, Nat.reduceEqDiff, Nat.reduceLT, Int.reduceLT, Int.reduceLE, Int.reduceEq, Int.reduceNeg, Int.reduceToNat, Cmd.enc, e1, q0, cmd_eq, restB_eq, Bool.false_eq_true]
        | true =>
          cases q1 : decide (x.seq = 0) with
          | false => simp only [Try.ntmps50, Try.results50, push_cast, Nat.reduceAdd, Nat.reduceSub, Nat.reduceMul, Nat.reduceLeDiff, Nat.reduceEqDiff, Nat.reduceLT, Int.reduceLT, Int.reduceLE, Int.reduceEq, Int.reduceNeg, Int.reduceToNat, Cmd.enc, e1, q0, q1, cmd_eq, restB_eq, Bool.false_eq_true]
          | true =>
            simp only [Try.ntmps50, Try.results50, push_cast, Nat.reduceAdd, Nat.reduceSub, Nat.reduceMul, Nat.reduceLeDiff, Nat.reduceEqDiff, Nat.reduceLT, Int.reduceLT, Int.reduceLE, Int.reduceEq, Int.reduceNeg, Int.reduceToNat, Cmd.enc, e1, q0, q1, cmd_eq, restB_eq, Bool.false_eq_true]
      | false =>
        cases e2 : decide (x.op = 2) with
        | true =>
          cases q0 : decide ((x.text.size : Int) ≤ 600) with
          | false => simp only [Try.ntmps50, Try.results50, push_cast, Nat.reduceAdd, Nat.reduceSub, Nat.reduceMul, Nat.reduceLeDiff, Nat.reduceEqDiff, Nat.reduceLT, Int.reduceLT, Int.reduceLE, Int.reduceEq, Int.reduceNeg, Int.reduceToNat, Cmd.enc, e1, e2, q0, cmd_eq, restB_eq, Bool.false_eq_true]
          | true =>
            simp only [Try.ntmps50, Try.results50, push_cast, Nat.reduceAdd, Nat.reduceSub, Nat.reduceMul, Nat.reduceLeDiff, Nat.reduceEqDiff, Nat.reduceLT, Int.reduceLT, Int.reduceLE, Int.reduceEq, Int.reduceNeg, Int.reduceToNat, Cmd.enc, e1, e2, q0, cmd_eq, restB_eq, Bool.false_eq_true]
        | false =>
          cases e3 : decide (x.op = 3) with
          | true =>
            simp only [Try.ntmps50, Try.results50, push_cast, Nat.reduceAdd, Nat.reduceSub, Nat.reduceMul, Nat.reduceLeDiff, Nat.reduceEqDiff, Nat.reduceLT, Int.reduceLT, Int.reduceLE, Int.reduceEq, Int.reduceNeg, Int.reduceToNat, Cmd.enc, e1, e2, e3]
            refine GoL_call rfl rfl nT rfl rfl ?_
            cases q0 : nameB x.text with
            | false => simp only [Try.ntmps50, Try.results50, push_cast, Nat.reduceAdd, Nat.reduceSub, Nat.reduceMul, Nat.reduceLeDiff, Nat.reduceEqDiff, Nat.reduceLT, Int.reduceLT, Int.reduceLE, Int.reduceEq, Int.reduceNeg, Int.reduceToNat, Cmd.enc, e1, e2, e3, cmd_eq, restB_eq, Bool.false_eq_true, q0]
            | true =>
              simp only [Try.ntmps50, Try.results50, push_cast, Nat.reduceAdd, Nat.reduceSub, Nat.reduceMul, Nat.reduceLeDiff, Nat.reduceEqDiff, Nat.reduceLT, Int.reduceLT, Int.reduceLE, Int.reduceEq, Int.reduceNeg, Int.reduceToNat, Cmd.enc, e1, e2, e3, q0, cmd_eq, restB_eq, Bool.false_eq_true]
          | false =>
            cases e4 : decide (x.op = 4) with
            | true =>
              simp only [Try.ntmps50, Try.results50, push_cast, Nat.reduceAdd, Nat.reduceSub, Nat.reduceMul, Nat.reduceLeDiff, Nat.reduceEqDiff, Nat.reduceLT, Int.reduceLT, Int.reduceLE, Int.reduceEq, Int.reduceNeg, Int.reduceToNat, Cmd.enc, e1, e2, e3, e4]
              refine GoL_call rfl rfl mN rfl rfl ?_
              cases q0 : inR x.num 0 68374079 with
              | false => simp only [Try.ntmps50, Try.results50, push_cast, Nat.reduceAdd, Nat.reduceSub, Nat.reduceMul, Nat.reduceLeDiff, Nat.reduceEqDiff, Nat.reduceLT, Int.reduceLT, Int.reduceLE, Int.reduceEq, Int.reduceNeg, Int.reduceToNat, Cmd.enc, e1, e2, e3, e4, cmd_eq, restB_eq, Bool.false_eq_true, q0]
              | true =>
                simp only [Try.ntmps50, Try.results50, push_cast, Nat.reduceAdd, Nat.reduceSub, Nat.reduceMul, Nat.reduceLeDiff, Nat.reduceEqDiff, Nat.reduceLT, Int.reduceLT, Int.reduceLE, Int.reduceEq, Int.reduceNeg, Int.reduceToNat, Cmd.enc, e1, e2, e3, e4, q0, cmd_eq, restB_eq, Bool.false_eq_true]
            | false =>
              cases e5 : decide (x.op = 5) with
              | true =>
                simp only [Try.ntmps50, Try.results50, push_cast, Nat.reduceAdd, Nat.reduceSub, Nat.reduceMul, Nat.reduceLeDiff, Nat.reduceEqDiff, Nat.reduceLT, Int.reduceLT, Int.reduceLE, Int.reduceEq, Int.reduceNeg, Int.reduceToNat, Cmd.enc, e1, e2, e3, e4, e5, cmd_eq, restB_eq, Bool.false_eq_true]
              | false =>
                cases e6 : decide (x.op = 6) with
                | true =>
                  simp only [Try.ntmps50, Try.results50, push_cast, Nat.reduceAdd, Nat.reduceSub, Nat.reduceMul, Nat.reduceLeDiff, Nat.reduceEqDiff, Nat.reduceLT, Int.reduceLT, Int.reduceLE, Int.reduceEq, Int.reduceNeg, Int.reduceToNat, Cmd.enc, e1, e2, e3, e4, e5, e6]
                  refine GoL_call rfl rfl bN rfl rfl ?_
                  cases q0 : inR x.num 0 1000000000 with
                  | false => simp only [Try.ntmps50, Try.results50, push_cast, Nat.reduceAdd, Nat.reduceSub, Nat.reduceMul, Nat.reduceLeDiff, Nat.reduceEqDiff, Nat.reduceLT, Int.reduceLT, Int.reduceLE, Int.reduceEq, Int.reduceNeg, Int.reduceToNat, Cmd.enc, e1, e2, e3, e4, e5, e6, cmd_eq, restB_eq, Bool.false_eq_true, q0]
                  | true =>
                    simp only [Try.ntmps50, Try.results50, push_cast, Nat.reduceAdd, Nat.reduceSub, Nat.reduceMul, Nat.reduceLeDiff, Nat.reduceEqDiff, Nat.reduceLT, Int.reduceLT, Int.reduceLE, Int.reduceEq, Int.reduceNeg, Int.reduceToNat, Cmd.enc, e1, e2, e3, e4, e5, e6, q0, cmd_eq, restB_eq, Bool.false_eq_true]
                | false =>
                  cases e7 : decide (x.op = 7) with
                  | true =>
                    simp only [Try.ntmps50, Try.results50, push_cast, Nat.reduceAdd, Nat.reduceSub, Nat.reduceMul, Nat.reduceLeDiff, Nat.reduceEqDiff, Nat.reduceLT, Int.reduceLT, Int.reduceLE, Int.reduceEq, Int.reduceNeg, Int.reduceToNat, Cmd.enc, e1, e2, e3, e4, e5, e6, e7]
                    refine GoL_call rfl rfl bN rfl rfl ?_
                    cases q0 : inR x.num 0 1000000000 with
                    | false => simp only [Try.ntmps50, Try.results50, push_cast, Nat.reduceAdd, Nat.reduceSub, Nat.reduceMul, Nat.reduceLeDiff, Nat.reduceEqDiff, Nat.reduceLT, Int.reduceLT, Int.reduceLE, Int.reduceEq, Int.reduceNeg, Int.reduceToNat, Cmd.enc, e1, e2, e3, e4, e5, e6, e7, cmd_eq, restB_eq, Bool.false_eq_true, q0]
                    | true =>
                      simp only [Try.ntmps50, Try.results50, push_cast, Nat.reduceAdd, Nat.reduceSub, Nat.reduceMul, Nat.reduceLeDiff, Nat.reduceEqDiff, Nat.reduceLT, Int.reduceLT, Int.reduceLE, Int.reduceEq, Int.reduceNeg, Int.reduceToNat, Cmd.enc, e1, e2, e3, e4, e5, e6, e7, q0, cmd_eq, restB_eq, Bool.false_eq_true]
                  | false =>
                    cases e8 : decide (x.op = 8) with
                    | true =>
                      simp only [Try.ntmps50, Try.results50, push_cast, Nat.reduceAdd, Nat.reduceSub, Nat.reduceMul, Nat.reduceLeDiff, Nat.reduceEqDiff, Nat.reduceLT, Int.reduceLT, Int.reduceLE, Int.reduceEq, Int.reduceNeg, Int.reduceToNat, Cmd.enc, e1, e2, e3, e4, e5, e6, e7, e8]
                      refine GoL_call rfl rfl nT rfl rfl ?_
                      cases q0 : nameB x.text with
                      | false => simp only [Try.ntmps50, Try.results50, push_cast, Nat.reduceAdd, Nat.reduceSub, Nat.reduceMul, Nat.reduceLeDiff, Nat.reduceEqDiff, Nat.reduceLT, Int.reduceLT, Int.reduceLE, Int.reduceEq, Int.reduceNeg, Int.reduceToNat, Cmd.enc, e1, e2, e3, e4, e5, e6, e7, e8, cmd_eq, restB_eq, Bool.false_eq_true, q0]
                      | true =>
                        simp only [Try.ntmps50, Try.results50, push_cast, Nat.reduceAdd, Nat.reduceSub, Nat.reduceMul, Nat.reduceLeDiff, Nat.reduceEqDiff, Nat.reduceLT, Int.reduceLT, Int.reduceLE, Int.reduceEq, Int.reduceNeg, Int.reduceToNat, Cmd.enc, e1, e2, e3, e4, e5, e6, e7, e8, q0]
                        refine GoL_call rfl rfl mN rfl rfl ?_
                        cases q1 : inR x.num 0 68374079 with
                        | false => simp only [Try.ntmps50, Try.results50, push_cast, Nat.reduceAdd, Nat.reduceSub, Nat.reduceMul, Nat.reduceLeDiff, Nat.reduceEqDiff, Nat.reduceLT, Int.reduceLT, Int.reduceLE, Int.reduceEq, Int.reduceNeg, Int.reduceToNat, Cmd.enc, e1, e2, e3, e4, e5, e6, e7, e8, q0, cmd_eq, restB_eq, Bool.false_eq_true, q1]
                        | true =>
                          simp only [Try.ntmps50, Try.results50, push_cast, Nat.reduceAdd, Nat.reduceSub, Nat.reduceMul, Nat.reduceLeDiff, Nat.reduceEqDiff, Nat.reduceLT, Int.reduceLT, Int.reduceLE, Int.reduceEq, Int.reduceNeg, Int.reduceToNat, Cmd.enc, e1, e2, e3, e4, e5, e6, e7, e8, q0, q1]
                          refine GoL_call rfl rfl mT rfl rfl ?_
                          cases q2 : inR x.to_ 0 68374079 with
                          | false => simp only [Try.ntmps50, Try.results50, push_cast, Nat.reduceAdd, Nat.reduceSub, Nat.reduceMul, Nat.reduceLeDiff, Nat.reduceEqDiff, Nat.reduceLT, Int.reduceLT, Int.reduceLE, Int.reduceEq, Int.reduceNeg, Int.reduceToNat, Cmd.enc, e1, e2, e3, e4, e5, e6, e7, e8, q0, q1, cmd_eq, restB_eq, Bool.false_eq_true, q2]
                          | true =>
                            simp only [Try.ntmps50, Try.results50, push_cast, Nat.reduceAdd, Nat.reduceSub, Nat.reduceMul, Nat.reduceLeDiff, Nat.reduceEqDiff, Nat.reduceLT, Int.reduceLT, Int.reduceLE, Int.reduceEq, Int.reduceNeg, Int.reduceToNat, Cmd.enc, e1, e2, e3, e4, e5, e6, e7, e8, q0, q1, q2, cmd_eq, restB_eq, Bool.false_eq_true]
                    | false =>
                      cases e9 : decide (x.op = 9) with
                      | true =>
                        simp only [Try.ntmps50, Try.results50, push_cast, Nat.reduceAdd, Nat.reduceSub, Nat.reduceMul, Nat.reduceLeDiff, Nat.reduceEqDiff, Nat.reduceLT, Int.reduceLT, Int.reduceLE, Int.reduceEq, Int.reduceNeg, Int.reduceToNat, Cmd.enc, e1, e2, e3, e4, e5, e6, e7, e8, e9]
                        refine GoL_call rfl rfl nT rfl rfl ?_
                        cases q0 : nameB x.text with
                        | false => simp only [Try.ntmps50, Try.results50, push_cast, Nat.reduceAdd, Nat.reduceSub, Nat.reduceMul, Nat.reduceLeDiff, Nat.reduceEqDiff, Nat.reduceLT, Int.reduceLT, Int.reduceLE, Int.reduceEq, Int.reduceNeg, Int.reduceToNat, Cmd.enc, e1, e2, e3, e4, e5, e6, e7, e8, e9, cmd_eq, restB_eq, Bool.false_eq_true, q0]
                        | true =>
                          simp only [Try.ntmps50, Try.results50, push_cast, Nat.reduceAdd, Nat.reduceSub, Nat.reduceMul, Nat.reduceLeDiff, Nat.reduceEqDiff, Nat.reduceLT, Int.reduceLT, Int.reduceLE, Int.reduceEq, Int.reduceNeg, Int.reduceToNat, Cmd.enc, e1, e2, e3, e4, e5, e6, e7, e8, e9, q0]
                          refine GoL_call rfl rfl mN rfl rfl ?_
                          cases q1 : inR x.num 0 68374079 with
                          | false => simp only [Try.ntmps50, Try.results50, push_cast, Nat.reduceAdd, Nat.reduceSub, Nat.reduceMul, Nat.reduceLeDiff, Nat.reduceEqDiff, Nat.reduceLT, Int.reduceLT, Int.reduceLE, Int.reduceEq, Int.reduceNeg, Int.reduceToNat, Cmd.enc, e1, e2, e3, e4, e5, e6, e7, e8, e9, q0, cmd_eq, restB_eq, Bool.false_eq_true, q1]
                          | true =>
                            simp only [Try.ntmps50, Try.results50, push_cast, Nat.reduceAdd, Nat.reduceSub, Nat.reduceMul, Nat.reduceLeDiff, Nat.reduceEqDiff, Nat.reduceLT, Int.reduceLT, Int.reduceLE, Int.reduceEq, Int.reduceNeg, Int.reduceToNat, Cmd.enc, e1, e2, e3, e4, e5, e6, e7, e8, e9, q0, q1]
                            refine GoL_call rfl rfl nK rfl rfl ?_
                            cases q2 : nameB x.task with
                            | false => simp only [Try.ntmps50, Try.results50, push_cast, Nat.reduceAdd, Nat.reduceSub, Nat.reduceMul, Nat.reduceLeDiff, Nat.reduceEqDiff, Nat.reduceLT, Int.reduceLT, Int.reduceLE, Int.reduceEq, Int.reduceNeg, Int.reduceToNat, Cmd.enc, e1, e2, e3, e4, e5, e6, e7, e8, e9, q0, q1, cmd_eq, restB_eq, Bool.false_eq_true, q2]
                            | true =>
                              simp only [Try.ntmps50, Try.results50, push_cast, Nat.reduceAdd, Nat.reduceSub, Nat.reduceMul, Nat.reduceLeDiff, Nat.reduceEqDiff, Nat.reduceLT, Int.reduceLT, Int.reduceLE, Int.reduceEq, Int.reduceNeg, Int.reduceToNat, Cmd.enc, e1, e2, e3, e4, e5, e6, e7, e8, e9, q0, q1, q2, cmd_eq, restB_eq, Bool.false_eq_true]
                      | false =>
                        simp only [Try.ntmps50, Try.results50, push_cast, Nat.reduceAdd, Nat.reduceSub, Nat.reduceMul, Nat.reduceLeDiff, Nat.reduceEqDiff, Nat.reduceLT, Int.reduceLT, Int.reduceLE, Int.reduceEq, Int.reduceNeg, Int.reduceToNat, Cmd.enc, e1, e2, e3, e4, e5, e6, e7, e8, e9, cmd_eq, restB_eq, Bool.false_eq_true]
end Go.Proofs.Ytadbfhgeekpdgaa
