/- Messages: right ones. -/
import Derived.Test.YtadbfhgeekpdgaaW23
namespace Go.Proofs.Ytadbfhgeekpdgaa
open Go.RowKit Go.Rx
set_option linter.unusedSimpArgs false
set_option maxRecDepth 100000

structure Msg where
  kind : Int
  from_ : Int
  to_ : Int
  term : Int
  index : Int
  logTerm : Int
  commit : Int
  ok : Bool
  es : List Ent
  conf : List Int
  data : ByteArray
  last : Bool
def Msg.enc (fe fc : List (List C) → C) (m : Msg) : List C := [.v (.int .i64 m.kind), .v (.int .i64 m.from_), .v (.int .i64 m.to_), .v (.int .i64 m.term), .v (.int .i64 m.index), .v (.int .i64 m.logTerm), .v (.int .i64 m.commit),
  .v (.bool m.ok), fe (vR (ents m.es)), fc (vR (ints m.conf)), .v (.string m.data), .v (.bool m.last)]
def Msg.Ok (m : Msg) : Prop := m.es.length ≤ 1048576 ∧ (∀ e ∈ m.es, e.data.size ≤ 140737488355328) ∧ m.conf.length ≤ 140737488355328 ∧ m.data.size ≤ 140737488355328
def enB (e : Ent) : Bool := eoB e.term e.kind e.data
def chB (hi : Int) : Int → List Ent → Bool
  | _, [] => true
  | lo, e :: es => ((enB e && !decide (e.term < lo)) && !decide (hi < e.term)) && chB hi e.term es
theorem drop_cons {α : Type} [Inhabited α] (xs : List α) (i : Nat) (h : i < xs.length) : xs.drop i = xs.getD i default :: xs.drop (i + 1) := by
  rw [List.getD_eq_getElem?_getD, List.getElem?_eq_getElem h]; exact List.drop_eq_getElem_cons h
theorem getD_mem' {α : Type} [Inhabited α] (xs : List α) (i : Nat) (h : i < xs.length) : xs.getD i default ∈ xs := by
  rw [List.getD_eq_getElem?_getD, List.getElem?_eq_getElem h]; exact List.getElem_mem h
def lenB (m : Msg) : Bool := decide ((m.es.length : Int) ≤ 4) && (decide (m.kind = 3) || decide ((m.es.length : Int) = 0))
def sndB (m : Msg) : Bool := chB m.term m.logTerm m.es && lenB m
theorem sendOk_ok (m : Msg) (hm : m.Ok) : PureFn Try.prog 117 [.agg (m.enc (.sh 3) (.sh 1))] [bo (sndB m)] := by
  obtain ⟨hl, hd, _, _⟩ := hm
  obtain ⟨kind, from_, to_, term, index, logTerm, commit, ok, es, conf, data, last⟩ := m
  simp only at hl hd
  refine PureFn_of_Go Try.func117 rfl (by decide) mo (by decide +kernel) ?_
  obtain ⟨r, hr⟩ : ∃ r, r = chB term logTerm es := ⟨_, rfl⟩
  have hres : sndB ⟨kind, from_, to_, term, index, logTerm, commit, ok, es, conf, data, last⟩ = (r && (decide ((es.length : Int) ≤ 4) && (decide (kind = 3) || decide ((es.length : Int) = 0)))) := by rw [hr]; rfl
  rw [hres]
  simp only [Try.ntmps117, Try.results117, push_cast, Nat.reduceAdd, Nat.reduceSub, Nat.reduceMul, Nat.reduceLeDiff, Nat.reduceEqDiff, Nat.reduceLT, Int.reduceLT, Int.reduceLE, Int.reduceEq, Int.reduceNeg, Int.reduceToNat, Msg.enc, ents_length]
  refine Go_loop (α := {p : Nat × Int // p.1 ≤ es.length ∧ chB term p.2 (es.drop p.1) = r})
    (fun p => ⟨tp 49 [(1, .x (.one (.pt (0, 64) [] 12 0 0))), (3, int p.1.2), (9, .x (.one (.sh 3 (vR (ents es))))), (10, int es.length), (11, int p.1.1)], 0,
      [((0, 64), ⟨.box, 12, [[.v (.int .i64 kind), .v (.int .i64 from_), .v (.int .i64 to_), .v (.int .i64 term), .v (.int .i64 index), .v (.int .i64 logTerm), .v (.int .i64 commit), .v (.bool ok), .sh 3 (vR (ents es)), .sh 1 (vR (ints conf)), .v (.string data), .v (.bool last)]]⟩)], []⟩)
    (fun p => es.length - p.1.1) ⟨(0, logTerm), by simp only; omega, hr.symm⟩ ?_ ?_
  · exact Weak.same (by simp only [push_cast, Nat.reduceAdd, Nat.reduceSub, Nat.reduceMul, Nat.reduceLeDiff, Nat.reduceEqDiff, Nat.reduceLT, Int.reduceLT, Int.reduceLE, Int.reduceEq, Int.reduceNeg, Int.reduceToNat, Int.ofNat_zero])
  · rintro ⟨⟨i, lo⟩, hi, hinv⟩ X hX
    simp only at hi hinv
    by_cases hlt : (i : Int) < (es.length : Int)
    · have hi' : i < es.length := by omega
      have ws := wsucc hi' (by omega)
      have hg := ents_getD es hi'
      have hmem := getD_mem' es i hi'
      rw [drop_cons es i hi'] at hinv
      obtain ⟨e, he⟩ : ∃ e, e = es.getD i default := ⟨_, rfl⟩
      rw [← he] at hg hmem hinv
      obtain ⟨t0, k0, d0⟩ := e
      have hdd := hd _ hmem
      simp only at hdd
      have k := entryOkI_ok t0 k0 d0 hdd
      simp only [chB, enB] at hinv
      simp only [entC] at k
      obtain ⟨i', hi1⟩ : ∃ i', i' = i + 1 := ⟨_, rfl⟩
      rw [← hi1] at ws hinv
      simp only [push_cast, Nat.reduceAdd, Nat.reduceSub, Nat.reduceMul, Nat.reduceLeDiff, Nat.reduceEqDiff, Nat.reduceLT, Int.reduceLT, Int.reduceLE, Int.reduceEq, Int.reduceNeg, Int.reduceToNat, hlt, ents_length, hi', hg, entV, vR_getD]
      refine GoL_call rfl rfl k rfl rfl ?_
      cases c1 : eoB t0 k0 d0 with
      | false =>
        rw [c1] at hinv
        simp only [Bool.false_and] at hinv
        subst hinv
        simp only [Try.ntmps117, Try.results117, push_cast, Nat.reduceAdd, Nat.reduceSub, Nat.reduceMul, Nat.reduceLeDiff, Nat.reduceEqDiff, Nat.reduceLT, Int.reduceLT, Int.reduceLE, Int.reduceEq, Int.reduceNeg, Int.reduceToNat]
      | true =>
      cases c2 : decide (t0 < lo) with
      | true =>
        rw [c1, c2] at hinv
        simp only [Bool.not_true, Bool.and_false, Bool.false_and] at hinv
        subst hinv
        simp only [Try.ntmps117, Try.results117, push_cast, Nat.reduceAdd, Nat.reduceSub, Nat.reduceMul, Nat.reduceLeDiff, Nat.reduceEqDiff, Nat.reduceLT, Int.reduceLT, Int.reduceLE, Int.reduceEq, Int.reduceNeg, Int.reduceToNat, c2]
      | false =>
      cases c3 : decide (term < t0) with
      | true =>
        rw [c1, c2, c3] at hinv
        simp only [Bool.not_true, Bool.and_false, Bool.false_and] at hinv
        subst hinv
        simp only [Try.ntmps117, Try.results117, push_cast, Nat.reduceAdd, Nat.reduceSub, Nat.reduceMul, Nat.reduceLeDiff, Nat.reduceEqDiff, Nat.reduceLT, Int.reduceLT, Int.reduceLE, Int.reduceEq, Int.reduceNeg, Int.reduceToNat, c2, c3]
      | false =>
        rw [c1, c2, c3] at hinv
        simp only [Bool.not_false, Bool.and_true, Bool.true_and] at hinv
        simp only [push_cast, Nat.reduceAdd, Nat.reduceSub, Nat.reduceMul, Nat.reduceLeDiff, Nat.reduceEqDiff, Nat.reduceLT, Int.reduceLT, Int.reduceLE, Int.reduceEq, Int.reduceNeg, Int.reduceToNat, c2, c3, ws]
        refine ⟨_, ?_, hX ⟨(i', t0), by simp only; omega, hinv⟩ (by simp only; omega)⟩
        exact Weak.drop (by simp only [push_cast, Nat.reduceAdd, Nat.reduceSub, Nat.reduceMul, Nat.reduceLeDiff, Nat.reduceEqDiff, Nat.reduceLT, Int.reduceLT, Int.reduceLE, Int.reduceEq, Int.reduceNeg, Int.reduceToNat]) (by simp only [push_cast, Nat.reduceAdd, Nat.reduceSub, Nat.reduceMul, Nat.reduceLeDiff, Nat.reduceEqDiff, Nat.reduceLT, Int.reduceLT, Int.reduceLE, Int.reduceEq, Int.reduceNeg, Int.reduceToNat]) (by simp only [push_cast, Nat.reduceAdd, Nat.reduceSub, Nat.reduceMul, Nat.reduceLeDiff, Nat.reduceEqDiff, Nat.reduceLT, Int.reduceLT, Int.reduceLE, Int.reduceEq, Int.reduceNeg, Int.reduceToNat])
    · have hie : i = es.length := by omega
      rw [hie, List.drop_length] at hinv
      have ht : r = true := by rw [← hinv]; rfl
      subst ht
      cases c1 : decide ((es.length : Int) ≤ 4) with
      | false => simp only [Try.ntmps117, Try.results117, push_cast, Nat.reduceAdd, Nat.reduceSub, Nat.reduceMul, Nat.reduceLeDiff, Nat.reduceEqDiff, Nat.reduceLT, Int.reduceLT, Int.reduceLE, Int.reduceEq, Int.reduceNeg, Int.reduceToNat, hlt, ents_length, c1]
      | true =>
        cases c2 : decide (kind = 3) with
        | true => simp only [Try.ntmps117, Try.results117, push_cast, Nat.reduceAdd, Nat.reduceSub, Nat.reduceMul, Nat.reduceLeDiff, Nat.reduceEqDiff, Nat.reduceLT, Int.reduceLT, Int.reduceLE, Int.reduceEq, Int.reduceNeg, Int.reduceToNat, hlt, ents_length, c1, c2]
        | false => simp only [Try.ntmps117, Try.results117, push_cast, Nat.reduceAdd, Nat.reduceSub, Nat.reduceMul, Nat.reduceLeDiff, Nat.reduceEqDiff, Nat.reduceLT, Int.reduceLT, Int.reduceLE, Int.reduceEq, Int.reduceNeg, Int.reduceToNat, hlt, ents_length, c1, c2]
def m1B (m : Msg) : Bool := ((inR m.kind 1 6 && inR m.from_ 1 4) && inR m.to_ 1 4) && !decide (m.from_ = m.to_)
def m2B (m : Msg) : Bool := ((inR m.term 0 100000 && inR m.logTerm 0 100000) && inR m.index 0 1000000) && inR m.commit 0 1000000
def m3B (m : Msg) : Bool := if decide (m.kind = 5) then confB m.conf && decide ((m.data.size : Int) ≤ 60) else (decide ((m.conf.length : Int) = 0) && decide (m.data = ⟨#[]⟩)) && !m.last
def moB (m : Msg) : Bool := (m1B m && m2B m) && (sndB m && m3B m)
theorem messageOkI_ok (m : Msg) (hm : m.Ok) : PureFn Try.prog 72 [.agg (m.enc (.sh 3) (.sh 1))] [bo (moB m)] := by
  refine PureFn_of_Go Try.func72 rfl (by decide) mo (by decide +kernel) ?_
  have ks := sendOk_ok m hm
  obtain ⟨_, _, hcl, _⟩ := hm
  obtain ⟨kind, from_, to_, term, index, logTerm, commit, ok, es, conf, data, last⟩ := m
  have k1 := inRange_ok kind 1 6
  rw [show (decide (1 ≤ kind) && decide (kind ≤ 6)) = inR kind 1 6 from rfl] at k1
  have k2 := isNode_ok from_
  have k3 := isNode_ok to_
  have k4 := isTerm_ok term
  have k5 := isTerm_ok logTerm
  have k6 := isIndex_ok index
  have k7 := isIndex_ok commit
  have k8 := confOkI_ok conf hcl
  unfold moB m1B m2B m3B
  obtain ⟨sb, hsb⟩ : ∃ sb, sb = sndB ⟨kind, from_, to_, term, index, logTerm, commit, ok, es, conf, data, last⟩ := ⟨_, rfl⟩
  rw [← hsb] at ks ⊢
  simp only [Msg.enc] at ks ⊢
  simp only [Try.ntmps72, Try.results72, push_cast, Nat.reduceAdd, Nat.reduceSub, Nat.reduceMul, Nat.reduceLeDiff, Nat.reduceEqDiff, Nat.reduceLT, Int.reduceLT, Int.reduceLE, Int.reduceEq, Int.reduceNeg, Int.reduceToNat]
  refine GoL_call rfl rfl k1 rfl rfl ?_
  cases c1 : inR kind 1 6 with
  | false => simp only [Try.ntmps72, Try.results72, push_cast, Nat.reduceAdd, Nat.reduceSub, Nat.reduceMul, Nat.reduceLeDiff, Nat.reduceEqDiff, Nat.reduceLT, Int.reduceLT, Int.reduceLE, Int.reduceEq, Int.reduceNeg, Int.reduceToNat]
  | true =>
  simp only [Try.ntmps72, Try.results72, push_cast, Nat.reduceAdd, Nat.reduceSub, Nat.reduceMul, Nat.reduceLeDiff, Nat.reduceEqDiff, Nat.reduceLT, Int.reduceLT, Int.reduceLE, Int.reduceEq, Int.reduceNeg, Int.reduceToNat]
  refine GoL_call rfl rfl k2 rfl rfl ?_
  cases c2 : inR from_ 1 4 with
  | false => simp only [Try.ntmps72, Try.results72, push_cast, Nat.reduceAdd, Nat.reduceSub, Nat.reduceMul, Nat.reduceLeDiff, Nat.reduceEqDiff, Nat.reduceLT, Int.reduceLT, Int.reduceLE, Int.reduceEq, Int.reduceNeg, Int.reduceToNat]
  | true =>
  simp only [Try.ntmps72, Try.results72, push_cast, Nat.reduceAdd, Nat.reduceSub, Nat.reduceMul, Nat.reduceLeDiff, Nat.reduceEqDiff, Nat.reduceLT, Int.reduceLT, Int.reduceLE, Int.reduceEq, Int.reduceNeg, Int.reduceToNat]
  refine GoL_call rfl rfl k3 rfl rfl ?_
  cases c3 : inR to_ 1 4 with
  | false => simp only [Try.ntmps72, Try.results72, push_cast, Nat.reduceAdd, Nat.reduceSub, Nat.reduceMul, Nat.reduceLeDiff, Nat.reduceEqDiff, Nat.reduceLT, Int.reduceLT, Int.reduceLE, Int.reduceEq, Int.reduceNeg, Int.reduceToNat]
  | true =>
  cases c0 : decide (from_ = to_) with
  | true => simp only [Try.ntmps72, Try.results72, push_cast, Nat.reduceAdd, Nat.reduceSub, Nat.reduceMul, Nat.reduceLeDiff, Nat.reduceEqDiff, Nat.reduceLT, Int.reduceLT, Int.reduceLE, Int.reduceEq, Int.reduceNeg, Int.reduceToNat, c0]
  | false =>
  simp only [Try.ntmps72, Try.results72, push_cast, Nat.reduceAdd, Nat.reduceSub, Nat.reduceMul, Nat.reduceLeDiff, Nat.reduceEqDiff, Nat.reduceLT, Int.reduceLT, Int.reduceLE, Int.reduceEq, Int.reduceNeg, Int.reduceToNat, c0]
  refine GoL_call rfl rfl k4 rfl rfl ?_
  cases c4 : inR term 0 100000 with
  | false => simp only [Try.ntmps72, Try.results72, push_cast, Nat.reduceAdd, Nat.reduceSub, Nat.reduceMul, Nat.reduceLeDiff, Nat.reduceEqDiff, Nat.reduceLT, Int.reduceLT, Int.reduceLE, Int.reduceEq, Int.reduceNeg, Int.reduceToNat]
  | true =>
  simp only [Try.ntmps72, Try.results72, push_cast, Nat.reduceAdd, Nat.reduceSub, Nat.reduceMul, Nat.reduceLeDiff, Nat.reduceEqDiff, Nat.reduceLT, Int.reduceLT, Int.reduceLE, Int.reduceEq, Int.reduceNeg, Int.reduceToNat]
  refine GoL_call rfl rfl k5 rfl rfl ?_
  cases c5 : inR logTerm 0 100000 with
  | false => simp only [Try.ntmps72, Try.results72, push_cast, Nat.reduceAdd, Nat.reduceSub, Nat.reduceMul, Nat.reduceLeDiff, Nat.reduceEqDiff, Nat.reduceLT, Int.reduceLT, Int.reduceLE, Int.reduceEq, Int.reduceNeg, Int.reduceToNat]
  | true =>
  simp only [Try.ntmps72, Try.results72, push_cast, Nat.reduceAdd, Nat.reduceSub, Nat.reduceMul, Nat.reduceLeDiff, Nat.reduceEqDiff, Nat.reduceLT, Int.reduceLT, Int.reduceLE, Int.reduceEq, Int.reduceNeg, Int.reduceToNat]
  refine GoL_call rfl rfl k6 rfl rfl ?_
  cases c6 : inR index 0 1000000 with
  | false => simp only [Try.ntmps72, Try.results72, push_cast, Nat.reduceAdd, Nat.reduceSub, Nat.reduceMul, Nat.reduceLeDiff, Nat.reduceEqDiff, Nat.reduceLT, Int.reduceLT, Int.reduceLE, Int.reduceEq, Int.reduceNeg, Int.reduceToNat]
  | true =>
  simp only [Try.ntmps72, Try.results72, push_cast, Nat.reduceAdd, Nat.reduceSub, Nat.reduceMul, Nat.reduceLeDiff, Nat.reduceEqDiff, Nat.reduceLT, Int.reduceLT, Int.reduceLE, Int.reduceEq, Int.reduceNeg, Int.reduceToNat]
  refine GoL_call rfl rfl k7 rfl rfl ?_
  cases c7 : inR commit 0 1000000 with
  | false => simp only [Try.ntmps72, Try.results72, push_cast, Nat.reduceAdd, Nat.reduceSub, Nat.reduceMul, Nat.reduceLeDiff, Nat.reduceEqDiff, Nat.reduceLT, Int.reduceLT, Int.reduceLE, Int.reduceEq, Int.reduceNeg, Int.reduceToNat]
  | true =>
  simp only [Try.ntmps72, Try.results72, push_cast, Nat.reduceAdd, Nat.reduceSub, Nat.reduceMul, Nat.reduceLeDiff, Nat.reduceEqDiff, Nat.reduceLT, Int.reduceLT, Int.reduceLE, Int.reduceEq, Int.reduceNeg, Int.reduceToNat]
  refine GoL_call rfl rfl ks rfl rfl ?_
  cases sb with
  | false => simp only [Try.ntmps72, Try.results72, push_cast, Nat.reduceAdd, Nat.reduceSub, Nat.reduceMul, Nat.reduceLeDiff, Nat.reduceEqDiff, Nat.reduceLT, Int.reduceLT, Int.reduceLE, Int.reduceEq, Int.reduceNeg, Int.reduceToNat]
  | true =>
  cases c8 : decide (kind = 5) with
  | true =>
    simp only [Try.ntmps72, Try.results72, push_cast, Nat.reduceAdd, Nat.reduceSub, Nat.reduceMul, Nat.reduceLeDiff, Nat.reduceEqDiff, Nat.reduceLT, Int.reduceLT, Int.reduceLE, Int.reduceEq, Int.reduceNeg, Int.reduceToNat, c8]
    refine GoL_call rfl rfl k8 rfl rfl ?_
    cases c9 : confB conf with
    | false => simp only [Try.ntmps72, Try.results72, push_cast, Nat.reduceAdd, Nat.reduceSub, Nat.reduceMul, Nat.reduceLeDiff, Nat.reduceEqDiff, Nat.reduceLT, Int.reduceLT, Int.reduceLE, Int.reduceEq, Int.reduceNeg, Int.reduceToNat]
    | true => simp only [Try.ntmps72, Try.results72, push_cast, Nat.reduceAdd, Nat.reduceSub, Nat.reduceMul, Nat.reduceLeDiff, Nat.reduceEqDiff, Nat.reduceLT, Int.reduceLT, Int.reduceLE, Int.reduceEq, Int.reduceNeg, Int.reduceToNat]
  | false =>
    cases c9 : decide ((conf.length : Int) = 0) with
    | false => simp only [Try.ntmps72, Try.results72, push_cast, Nat.reduceAdd, Nat.reduceSub, Nat.reduceMul, Nat.reduceLeDiff, Nat.reduceEqDiff, Nat.reduceLT, Int.reduceLT, Int.reduceLE, Int.reduceEq, Int.reduceNeg, Int.reduceToNat, c8, ints_length, c9]
    | true =>
      cases ca : decide (data = ⟨#[]⟩) with
      | false => simp only [Try.ntmps72, Try.results72, push_cast, Nat.reduceAdd, Nat.reduceSub, Nat.reduceMul, Nat.reduceLeDiff, Nat.reduceEqDiff, Nat.reduceLT, Int.reduceLT, Int.reduceLE, Int.reduceEq, Int.reduceNeg, Int.reduceToNat, c8, ints_length, c9, ca]
      | true => simp only [Try.ntmps72, Try.results72, push_cast, Nat.reduceAdd, Nat.reduceSub, Nat.reduceMul, Nat.reduceLeDiff, Nat.reduceEqDiff, Nat.reduceLT, Int.reduceLT, Int.reduceLE, Int.reduceEq, Int.reduceNeg, Int.reduceToNat, c8, ints_length, c9, ca]
set_option maxHeartbeats 4000000 in
theorem messageOkS_ok (m : Msg) (hm : m.Ok) : PureFn Try.prog 115 [.agg (m.enc (.sh 3) (.sh 1))] [bo (moB m)] := by
  refine PureFn_of_Go Try.func115 rfl (by decide) mo (by decide +kernel) ?_
  obtain ⟨hl, hd, hcl, _⟩ := hm
  obtain ⟨kind, from_, to_, term, index, logTerm, commit, ok, es, conf, data, last⟩ := m
  simp only at hl hd hcl
  have k1 := l01In_ok kind 1 6
  have k2 := l01In_ok from_ 1 4
  have k3 := l01In_ok to_ 1 4
  have k4 := l01In_ok term 0 100000
  have k5 := l01In_ok logTerm 0 100000
  have k6 := l01In_ok index 0 1000000
  have k7 := l01In_ok commit 0 1000000
  have hin : ∀ n a b : Int, (decide (a ≤ n) && decide (n ≤ b)) = inR n a b := fun _ _ _ => rfl
  rw [hin] at k1 k2 k3 k4 k5 k6 k7
  have k8 := confOkS_ok conf hcl
  obtain ⟨r, hr⟩ : ∃ r, r = chB term logTerm es := ⟨_, rfl⟩
  unfold moB m1B m2B m3B sndB lenB
  simp only [← hr]
  simp only [Msg.enc]
  simp only [Try.ntmps115, Try.results115, push_cast, Nat.reduceAdd, Nat.reduceSub, Nat.reduceMul, Nat.reduceLeDiff, Nat.reduceEqDiff, Nat.reduceLT, Int.reduceLT, Int.reduceLE, Int.reduceEq, Int.reduceNeg, Int.reduceToNat]
  refine GoL_call rfl rfl k1 rfl rfl ?_
  cases c1 : inR kind 1 6 with
  | false => simp only [Try.ntmps115, Try.results115, push_cast, Nat.reduceAdd, Nat.reduceSub, Nat.reduceMul, Nat.reduceLeDiff, Nat.reduceEqDiff, Nat.reduceLT, Int.reduceLT, Int.reduceLE, Int.reduceEq, Int.reduceNeg, Int.reduceToNat]
  | true =>
  simp only [Try.ntmps115, Try.results115, push_cast, Nat.reduceAdd, Nat.reduceSub, Nat.reduceMul, Nat.reduceLeDiff, Nat.reduceEqDiff, Nat.reduceLT, Int.reduceLT, Int.reduceLE, Int.reduceEq, Int.reduceNeg, Int.reduceToNat]
  refine GoL_call rfl rfl k2 rfl rfl ?_
  cases c2 : inR from_ 1 4 with
  | false => simp only [Try.ntmps115, Try.results115, push_cast, Nat.reduceAdd, Nat.reduceSub, Nat.reduceMul, Nat.reduceLeDiff, Nat.reduceEqDiff, Nat.reduceLT, Int.reduceLT, Int.reduceLE, Int.reduceEq, Int.reduceNeg, Int.reduceToNat]
  | true =>
  simp only [Try.ntmps115, Try.results115, push_cast, Nat.reduceAdd, Nat.reduceSub, Nat.reduceMul, Nat.reduceLeDiff, Nat.reduceEqDiff, Nat.reduceLT, Int.reduceLT, Int.reduceLE, Int.reduceEq, Int.reduceNeg, Int.reduceToNat]
  refine GoL_call rfl rfl k3 rfl rfl ?_
  cases c3 : inR to_ 1 4 with
  | false => simp only [Try.ntmps115, Try.results115, push_cast, Nat.reduceAdd, Nat.reduceSub, Nat.reduceMul, Nat.reduceLeDiff, Nat.reduceEqDiff, Nat.reduceLT, Int.reduceLT, Int.reduceLE, Int.reduceEq, Int.reduceNeg, Int.reduceToNat]
  | true =>
  cases c0 : decide (from_ = to_) with
  | true => simp only [Try.ntmps115, Try.results115, push_cast, Nat.reduceAdd, Nat.reduceSub, Nat.reduceMul, Nat.reduceLeDiff, Nat.reduceEqDiff, Nat.reduceLT, Int.reduceLT, Int.reduceLE, Int.reduceEq, Int.reduceNeg, Int.reduceToNat, c0]
  | false =>
  simp only [Try.ntmps115, Try.results115, push_cast, Nat.reduceAdd, Nat.reduceSub, Nat.reduceMul, Nat.reduceLeDiff, Nat.reduceEqDiff, Nat.reduceLT, Int.reduceLT, Int.reduceLE, Int.reduceEq, Int.reduceNeg, Int.reduceToNat, c0]
  refine GoL_call rfl rfl k4 rfl rfl ?_
  cases c4 : inR term 0 100000 with
  | false => simp only [Try.ntmps115, Try.results115, push_cast, Nat.reduceAdd, Nat.reduceSub, Nat.reduceMul, Nat.reduceLeDiff, Nat.reduceEqDiff, Nat.reduceLT, Int.reduceLT, Int.reduceLE, Int.reduceEq, Int.reduceNeg, Int.reduceToNat]
  | true =>
  simp only [Try.ntmps115, Try.results115, push_cast, Nat.reduceAdd, Nat.reduceSub, Nat.reduceMul, Nat.reduceLeDiff, Nat.reduceEqDiff, Nat.reduceLT, Int.reduceLT, Int.reduceLE, Int.reduceEq, Int.reduceNeg, Int.reduceToNat]
  refine GoL_call rfl rfl k5 rfl rfl ?_
  cases c5 : inR logTerm 0 100000 with
  | false => simp only [Try.ntmps115, Try.results115, push_cast, Nat.reduceAdd, Nat.reduceSub, Nat.reduceMul, Nat.reduceLeDiff, Nat.reduceEqDiff, Nat.reduceLT, Int.reduceLT, Int.reduceLE, Int.reduceEq, Int.reduceNeg, Int.reduceToNat]
  | true =>
  simp only [Try.ntmps115, Try.results115, push_cast, Nat.reduceAdd, Nat.reduceSub, Nat.reduceMul, Nat.reduceLeDiff, Nat.reduceEqDiff, Nat.reduceLT, Int.reduceLT, Int.reduceLE, Int.reduceEq, Int.reduceNeg, Int.reduceToNat]
  refine GoL_call rfl rfl k6 rfl rfl ?_
  cases c6 : inR index 0 1000000 with
  | false => simp only [Try.ntmps115, Try.results115, push_cast, Nat.reduceAdd, Nat.reduceSub, Nat.reduceMul, Nat.reduceLeDiff, Nat.reduceEqDiff, Nat.reduceLT, Int.reduceLT, Int.reduceLE, Int.reduceEq, Int.reduceNeg, Int.reduceToNat]
  | true =>
  simp only [Try.ntmps115, Try.results115, push_cast, Nat.reduceAdd, Nat.reduceSub, Nat.reduceMul, Nat.reduceLeDiff, Nat.reduceEqDiff, Nat.reduceLT, Int.reduceLT, Int.reduceLE, Int.reduceEq, Int.reduceNeg, Int.reduceToNat]
  refine GoL_call rfl rfl k7 rfl rfl ?_
  cases c7 : inR commit 0 1000000 with
  | false => simp only [Try.ntmps115, Try.results115, push_cast, Nat.reduceAdd, Nat.reduceSub, Nat.reduceMul, Nat.reduceLeDiff, Nat.reduceEqDiff, Nat.reduceLT, Int.reduceLT, Int.reduceLE, Int.reduceEq, Int.reduceNeg, Int.reduceToNat]
  | true =>
  cases d1 : decide ((4 : Int) < (es.length : Int)) with
  | true =>
    have d2 : decide ((es.length : Int) ≤ 4) = false := by simp only [decide_eq_true_eq, decide_eq_false_iff_not] at d1 ⊢; omega
    simp only [Try.ntmps115, Try.results115, push_cast, Nat.reduceAdd, Nat.reduceSub, Nat.reduceMul, Nat.reduceLeDiff, Nat.reduceEqDiff, Nat.reduceLT, Int.reduceLT, Int.reduceLE, Int.reduceEq, Int.reduceNeg, Int.reduceToNat, ents_length, d1, d2, Bool.and_false, Bool.false_and]
  | false =>
  have d2 : decide ((es.length : Int) ≤ 4) = true := by simp only [decide_eq_true_eq, decide_eq_false_iff_not] at d1 ⊢; omega
  cases d5 : (decide (kind = 3) || decide ((es.length : Int) = 0)) with
  | false =>
    have d3 : decide (kind = 3) = false := by cases h : decide (kind = 3) with | false => rfl | true => rw [h] at d5; cases d5
    have d4 : decide ((0 : Int) < (es.length : Int)) = true := by
      rw [d3, Bool.false_or] at d5
      simp only [decide_eq_true_eq, decide_eq_false_iff_not] at d5 ⊢; omega
    simp only [Try.ntmps115, Try.results115, push_cast, Nat.reduceAdd, Nat.reduceSub, Nat.reduceMul, Nat.reduceLeDiff, Nat.reduceEqDiff, Nat.reduceLT, Int.reduceLT, Int.reduceLE, Int.reduceEq, Int.reduceNeg, Int.reduceToNat, ents_length, d1, d2, d3, d4, decide_not, Bool.and_false, Bool.false_and]
  | true =>
  have d34 : decide ((0 : Int) < (es.length : Int)) = false ∨ (decide ((0 : Int) < (es.length : Int)) = true ∧ decide (kind = 3) = true) := by
    simp only [Bool.or_eq_true, decide_eq_true_eq, decide_eq_false_iff_not] at d5 ⊢; omega
  obtain ⟨Y, hY⟩ : ∃ Y, Y = (if decide (kind = 5) then confB conf && decide ((data.size : Int) ≤ 60) else (decide ((conf.length : Int) = 0) && decide (data = ⟨#[]⟩)) && !last) := ⟨_, rfl⟩
  rw [d2, ← hY]
  rcases d34 with d4 | ⟨d4, d3⟩
  · simp only [Try.ntmps115, Try.results115, push_cast, Nat.reduceAdd, Nat.reduceSub, Nat.reduceMul, Nat.reduceLeDiff, Nat.reduceEqDiff, Nat.reduceLT, Int.reduceLT, Int.reduceLE, Int.reduceEq, Int.reduceNeg, Int.reduceToNat, ents_length, d1, d4, decide_not, Bool.and_true, Bool.true_and]
    refine Go_loop (α := {p : Nat × Int // p.1 ≤ es.length ∧ chB term p.2 (es.drop p.1) = r})
      (fun p => ⟨tp 134 [(1, .x (.one (.pt (0, 64) [] 12 0 0))), (3, int p.1.2), (4, int p.1.1)], 0,
        [((0, 64), ⟨.box, 12, [[.v (.int .i64 kind), .v (.int .i64 from_), .v (.int .i64 to_), .v (.int .i64 term), .v (.int .i64 index), .v (.int .i64 logTerm), .v (.int .i64 commit), .v (.bool ok), .sh 3 (vR (ents es)), .sh 1 (vR (ints conf)), .v (.string data), .v (.bool last)]]⟩)], []⟩)
      (fun p => es.length - p.1.1) ⟨(0, logTerm), by simp only; omega, hr.symm⟩ ?_ ?_
    · exact Weak.drop (by simp only [push_cast, Nat.reduceAdd, Nat.reduceSub, Nat.reduceMul, Nat.reduceLeDiff, Nat.reduceEqDiff, Nat.reduceLT, Int.reduceLT, Int.reduceLE, Int.reduceEq, Int.reduceNeg, Int.reduceToNat, Int.ofNat_zero]) (by simp only [push_cast, Nat.reduceAdd, Nat.reduceSub, Nat.reduceMul, Nat.reduceLeDiff, Nat.reduceEqDiff, Nat.reduceLT, Int.reduceLT, Int.reduceLE, Int.reduceEq, Int.reduceNeg, Int.reduceToNat, Int.ofNat_zero]) (by simp only [push_cast, Nat.reduceAdd, Nat.reduceSub, Nat.reduceMul, Nat.reduceLeDiff, Nat.reduceEqDiff, Nat.reduceLT, Int.reduceLT, Int.reduceLE, Int.reduceEq, Int.reduceNeg, Int.reduceToNat, Int.ofNat_zero])
    · rintro ⟨⟨i, lo⟩, hi, hinv⟩ X hX
      simp only at hi hinv
      by_cases hlt : (i : Int) < (es.length : Int)
      · have hi' : i < es.length := by omega
        have ws := wsucc hi' (by omega)
        have hg := ents_getD es hi'
        have hmem := getD_mem' es i hi'
        rw [drop_cons es i hi'] at hinv
        obtain ⟨e, he⟩ : ∃ e, e = es.getD i default := ⟨_, rfl⟩
        rw [← he] at hg hmem hinv
        obtain ⟨t0, k0, d0⟩ := e
        have hdd := hd _ hmem
        simp only at hdd
        have k := entryOkS_ok t0 k0 d0 hdd
        simp only [chB, enB] at hinv
        simp only [entC] at k
        obtain ⟨i', hi1⟩ : ∃ i', i' = i + 1 := ⟨_, rfl⟩
        rw [← hi1] at ws hinv
        simp only [push_cast, Nat.reduceAdd, Nat.reduceSub, Nat.reduceMul, Nat.reduceLeDiff, Nat.reduceEqDiff, Nat.reduceLT, Int.reduceLT, Int.reduceLE, Int.reduceEq, Int.reduceNeg, Int.reduceToNat, hlt, ents_length, hi', hg, entV, vR_getD]
        refine GoD_call rfl rfl k rfl rfl ?_
        cases c8 : eoB t0 k0 d0 with
        | false =>
          rw [c8] at hinv
          simp only [Bool.false_and] at hinv
          subst hinv
          simp only [Try.ntmps115, Try.results115, push_cast, Nat.reduceAdd, Nat.reduceSub, Nat.reduceMul, Nat.reduceLeDiff, Nat.reduceEqDiff, Nat.reduceLT, Int.reduceLT, Int.reduceLE, Int.reduceEq, Int.reduceNeg, Int.reduceToNat, Bool.false_and]
        | true =>
        cases c9 : decide (t0 < lo) with
        | true =>
          rw [c8, c9] at hinv
          simp only [Bool.not_true, Bool.and_false, Bool.false_and] at hinv
          subst hinv
          simp only [Try.ntmps115, Try.results115, push_cast, Nat.reduceAdd, Nat.reduceSub, Nat.reduceMul, Nat.reduceLeDiff, Nat.reduceEqDiff, Nat.reduceLT, Int.reduceLT, Int.reduceLE, Int.reduceEq, Int.reduceNeg, Int.reduceToNat, hlt, ents_length, hi', hg, entV, vR_getD, c9, Bool.false_and]
        | false =>
        cases ca : decide (term < t0) with
        | true =>
          rw [c8, c9, ca] at hinv
          simp only [Bool.not_true, Bool.and_false, Bool.false_and] at hinv
          subst hinv
          simp only [Try.ntmps115, Try.results115, push_cast, Nat.reduceAdd, Nat.reduceSub, Nat.reduceMul, Nat.reduceLeDiff, Nat.reduceEqDiff, Nat.reduceLT, Int.reduceLT, Int.reduceLE, Int.reduceEq, Int.reduceNeg, Int.reduceToNat, hlt, ents_length, hi', hg, entV, vR_getD, c9, ca, Bool.false_and]
        | false =>
          rw [c8, c9, ca] at hinv
          simp only [Bool.not_false, Bool.and_true, Bool.true_and] at hinv
          simp only [push_cast, Nat.reduceAdd, Nat.reduceSub, Nat.reduceMul, Nat.reduceLeDiff, Nat.reduceEqDiff, Nat.reduceLT, Int.reduceLT, Int.reduceLE, Int.reduceEq, Int.reduceNeg, Int.reduceToNat, hlt, ents_length, hi', hg, entV, vR_getD, c9, ca, ws]
          refine ⟨_, ?_, hX ⟨(i', t0), by simp only; omega, hinv⟩ (by simp only; omega)⟩
          exact Weak.drop (by simp only [push_cast, Nat.reduceAdd, Nat.reduceSub, Nat.reduceMul, Nat.reduceLeDiff, Nat.reduceEqDiff, Nat.reduceLT, Int.reduceLT, Int.reduceLE, Int.reduceEq, Int.reduceNeg, Int.reduceToNat]) (by simp only [push_cast, Nat.reduceAdd, Nat.reduceSub, Nat.reduceMul, Nat.reduceLeDiff, Nat.reduceEqDiff, Nat.reduceLT, Int.reduceLT, Int.reduceLE, Int.reduceEq, Int.reduceNeg, Int.reduceToNat]) (by simp only [push_cast, Nat.reduceAdd, Nat.reduceSub, Nat.reduceMul, Nat.reduceLeDiff, Nat.reduceEqDiff, Nat.reduceLT, Int.reduceLT, Int.reduceLE, Int.reduceEq, Int.reduceNeg, Int.reduceToNat])
      · have hie : i = es.length := by omega
        rw [hie, List.drop_length] at hinv
        have ht : r = true := by rw [← hinv]; rfl
        subst ht
        cases c8 : decide (kind = 5) with
        | true =>
          rw [c8] at hY
          simp only [if_true] at hY
          simp only [Try.ntmps115, Try.results115, push_cast, Nat.reduceAdd, Nat.reduceSub, Nat.reduceMul, Nat.reduceLeDiff, Nat.reduceEqDiff, Nat.reduceLT, Int.reduceLT, Int.reduceLE, Int.reduceEq, Int.reduceNeg, Int.reduceToNat, hlt, ents_length, c8]
          refine GoL_call rfl rfl k8 rfl rfl ?_
          cases c9 : confB conf with
          | false => simp only [Try.ntmps115, Try.results115, push_cast, Nat.reduceAdd, Nat.reduceSub, Nat.reduceMul, Nat.reduceLeDiff, Nat.reduceEqDiff, Nat.reduceLT, Int.reduceLT, Int.reduceLE, Int.reduceEq, Int.reduceNeg, Int.reduceToNat, hY, c9, Bool.true_and, Bool.false_and]
          | true => simp only [Try.ntmps115, Try.results115, push_cast, Nat.reduceAdd, Nat.reduceSub, Nat.reduceMul, Nat.reduceLeDiff, Nat.reduceEqDiff, Nat.reduceLT, Int.reduceLT, Int.reduceLE, Int.reduceEq, Int.reduceNeg, Int.reduceToNat, hY, c9, Bool.true_and]
        | false =>
          rw [c8] at hY
          simp only [Bool.false_eq_true, if_false] at hY
          cases c9 : decide ((conf.length : Int) = 0) with
          | false => simp only [Try.ntmps115, Try.results115, push_cast, Nat.reduceAdd, Nat.reduceSub, Nat.reduceMul, Nat.reduceLeDiff, Nat.reduceEqDiff, Nat.reduceLT, Int.reduceLT, Int.reduceLE, Int.reduceEq, Int.reduceNeg, Int.reduceToNat, hlt, ents_length, ints_length, c8, c9, hY, Bool.true_and, Bool.false_and]
          | true =>
            cases ca : decide (data = ⟨#[]⟩) with
            | false => simp only [Try.ntmps115, Try.results115, push_cast, Nat.reduceAdd, Nat.reduceSub, Nat.reduceMul, Nat.reduceLeDiff, Nat.reduceEqDiff, Nat.reduceLT, Int.reduceLT, Int.reduceLE, Int.reduceEq, Int.reduceNeg, Int.reduceToNat, hlt, ents_length, ints_length, c8, c9, ca, hY, Bool.true_and, Bool.false_and]
            | true => simp only [Try.ntmps115, Try.results115, push_cast, Nat.reduceAdd, Nat.reduceSub, Nat.reduceMul, Nat.reduceLeDiff, Nat.reduceEqDiff, Nat.reduceLT, Int.reduceLT, Int.reduceLE, Int.reduceEq, Int.reduceNeg, Int.reduceToNat, hlt, ents_length, ints_length, c8, c9, ca, hY, Bool.true_and, Bool.false_and]
  · simp only [Try.ntmps115, Try.results115, push_cast, Nat.reduceAdd, Nat.reduceSub, Nat.reduceMul, Nat.reduceLeDiff, Nat.reduceEqDiff, Nat.reduceLT, Int.reduceLT, Int.reduceLE, Int.reduceEq, Int.reduceNeg, Int.reduceToNat, ents_length, d1, d3, d4, decide_not, Bool.and_true, Bool.true_and]
    refine Go_loop (α := {p : Nat × Int // p.1 ≤ es.length ∧ chB term p.2 (es.drop p.1) = r})
      (fun p => ⟨tp 134 [(1, .x (.one (.pt (0, 64) [] 12 0 0))), (3, int p.1.2), (4, int p.1.1)], 0,
        [((0, 64), ⟨.box, 12, [[.v (.int .i64 kind), .v (.int .i64 from_), .v (.int .i64 to_), .v (.int .i64 term), .v (.int .i64 index), .v (.int .i64 logTerm), .v (.int .i64 commit), .v (.bool ok), .sh 3 (vR (ents es)), .sh 1 (vR (ints conf)), .v (.string data), .v (.bool last)]]⟩)], []⟩)
      (fun p => es.length - p.1.1) ⟨(0, logTerm), by simp only; omega, hr.symm⟩ ?_ ?_
    · exact Weak.drop (by simp only [push_cast, Nat.reduceAdd, Nat.reduceSub, Nat.reduceMul, Nat.reduceLeDiff, Nat.reduceEqDiff, Nat.reduceLT, Int.reduceLT, Int.reduceLE, Int.reduceEq, Int.reduceNeg, Int.reduceToNat, Int.ofNat_zero]) (by simp only [push_cast, Nat.reduceAdd, Nat.reduceSub, Nat.reduceMul, Nat.reduceLeDiff, Nat.reduceEqDiff, Nat.reduceLT, Int.reduceLT, Int.reduceLE, Int.reduceEq, Int.reduceNeg, Int.reduceToNat, Int.ofNat_zero]) (by simp only [push_cast, Nat.reduceAdd, Nat.reduceSub, Nat.reduceMul, Nat.reduceLeDiff, Nat.reduceEqDiff, Nat.reduceLT, Int.reduceLT, Int.reduceLE, Int.reduceEq, Int.reduceNeg, Int.reduceToNat, Int.ofNat_zero])
    · rintro ⟨⟨i, lo⟩, hi, hinv⟩ X hX
      simp only at hi hinv
      by_cases hlt : (i : Int) < (es.length : Int)
      · have hi' : i < es.length := by omega
        have ws := wsucc hi' (by omega)
        have hg := ents_getD es hi'
        have hmem := getD_mem' es i hi'
        rw [drop_cons es i hi'] at hinv
        obtain ⟨e, he⟩ : ∃ e, e = es.getD i default := ⟨_, rfl⟩
        rw [← he] at hg hmem hinv
        obtain ⟨t0, k0, d0⟩ := e
        have hdd := hd _ hmem
        simp only at hdd
        have k := entryOkS_ok t0 k0 d0 hdd
        simp only [chB, enB] at hinv
        simp only [entC] at k
        obtain ⟨i', hi1⟩ : ∃ i', i' = i + 1 := ⟨_, rfl⟩
        rw [← hi1] at ws hinv
        simp only [push_cast, Nat.reduceAdd, Nat.reduceSub, Nat.reduceMul, Nat.reduceLeDiff, Nat.reduceEqDiff, Nat.reduceLT, Int.reduceLT, Int.reduceLE, Int.reduceEq, Int.reduceNeg, Int.reduceToNat, hlt, ents_length, hi', hg, entV, vR_getD]
        refine GoD_call rfl rfl k rfl rfl ?_
        cases c8 : eoB t0 k0 d0 with
        | false =>
          rw [c8] at hinv
          simp only [Bool.false_and] at hinv
          subst hinv
          simp only [Try.ntmps115, Try.results115, push_cast, Nat.reduceAdd, Nat.reduceSub, Nat.reduceMul, Nat.reduceLeDiff, Nat.reduceEqDiff, Nat.reduceLT, Int.reduceLT, Int.reduceLE, Int.reduceEq, Int.reduceNeg, Int.reduceToNat, Bool.false_and]
        | true =>
        cases c9 : decide (t0 < lo) with
        | true =>
          rw [c8, c9] at hinv
          simp only [Bool.not_true, Bool.and_false, Bool.false_and] at hinv
          subst hinv
          simp only [Try.ntmps115, Try.results115, push_cast, Nat.reduceAdd, Nat.reduceSub, Nat.reduceMul, Nat.reduceLeDiff, Nat.reduceEqDiff, Nat.reduceLT, Int.reduceLT, Int.reduceLE, Int.reduceEq, Int.reduceNeg, Int.reduceToNat, hlt, ents_length, hi', hg, entV, vR_getD, c9, Bool.false_and]
        | false =>
        cases ca : decide (term < t0) with
        | true =>
          rw [c8, c9, ca] at hinv
          simp only [Bool.not_true, Bool.and_false, Bool.false_and] at hinv
          subst hinv
          simp only [Try.ntmps115, Try.results115, push_cast, Nat.reduceAdd, Nat.reduceSub, Nat.reduceMul, Nat.reduceLeDiff, Nat.reduceEqDiff, Nat.reduceLT, Int.reduceLT, Int.reduceLE, Int.reduceEq, Int.reduceNeg, Int.reduceToNat, hlt, ents_length, hi', hg, entV, vR_getD, c9, ca, Bool.false_and]
        | false =>
          rw [c8, c9, ca] at hinv
          simp only [Bool.not_false, Bool.and_true, Bool.true_and] at hinv
          simp only [push_cast, Nat.reduceAdd, Nat.reduceSub, Nat.reduceMul, Nat.reduceLeDiff, Nat.reduceEqDiff, Nat.reduceLT, Int.reduceLT, Int.reduceLE, Int.reduceEq, Int.reduceNeg, Int.reduceToNat, hlt, ents_length, hi', hg, entV, vR_getD, c9, ca, ws]
          refine ⟨_, ?_, hX ⟨(i', t0), by simp only; omega, hinv⟩ (by simp only; omega)⟩
          exact Weak.drop (by simp only [push_cast, Nat.reduceAdd, Nat.reduceSub, Nat.reduceMul, Nat.reduceLeDiff, Nat.reduceEqDiff, Nat.reduceLT, Int.reduceLT, Int.reduceLE, Int.reduceEq, Int.reduceNeg, Int.reduceToNat]) (by simp only [push_cast, Nat.reduceAdd, Nat.reduceSub, Nat.reduceMul, Nat.reduceLeDiff, Nat.reduceEqDiff, Nat.reduceLT, Int.reduceLT, Int.reduceLE, Int.reduceEq, Int.reduceNeg, Int.reduceToNat]) (by simp only [push_cast, Nat.reduceAdd, Nat.reduceSub, Nat.reduceMul, Nat.reduceLeDiff, Nat.reduceEqDiff, Nat.reduceLT, Int.reduceLT, Int.reduceLE, Int.reduceEq, Int.reduceNeg, Int.reduceToNat])
      · have hie : i = es.length := by omega
        rw [hie, List.drop_length] at hinv
        have ht : r = true := by rw [← hinv]; rfl
        subst ht
        cases c8 : decide (kind = 5) with
        | true =>
          rw [c8] at hY
          simp only [if_true] at hY
          simp only [Try.ntmps115, Try.results115, push_cast, Nat.reduceAdd, Nat.reduceSub, Nat.reduceMul, Nat.reduceLeDiff, Nat.reduceEqDiff, Nat.reduceLT, Int.reduceLT, Int.reduceLE, Int.reduceEq, Int.reduceNeg, Int.reduceToNat, hlt, ents_length, c8]
          refine GoL_call rfl rfl k8 rfl rfl ?_
          cases c9 : confB conf with
          | false => simp only [Try.ntmps115, Try.results115, push_cast, Nat.reduceAdd, Nat.reduceSub, Nat.reduceMul, Nat.reduceLeDiff, Nat.reduceEqDiff, Nat.reduceLT, Int.reduceLT, Int.reduceLE, Int.reduceEq, Int.reduceNeg, Int.reduceToNat, hY, c9, Bool.true_and, Bool.false_and]
          | true => simp only [Try.ntmps115, Try.results115, push_cast, Nat.reduceAdd, Nat.reduceSub, Nat.reduceMul, Nat.reduceLeDiff, Nat.reduceEqDiff, Nat.reduceLT, Int.reduceLT, Int.reduceLE, Int.reduceEq, Int.reduceNeg, Int.reduceToNat, hY, c9, Bool.true_and]
        | false =>
          rw [c8] at hY
          simp only [Bool.false_eq_true, if_false] at hY
          cases c9 : decide ((conf.length : Int) = 0) with
          | false => simp only [Try.ntmps115, Try.results115, push_cast, Nat.reduceAdd, Nat.reduceSub, Nat.reduceMul, Nat.reduceLeDiff, Nat.reduceEqDiff, Nat.reduceLT, Int.reduceLT, Int.reduceLE, Int.reduceEq, Int.reduceNeg, Int.reduceToNat, hlt, ents_length, ints_length, c8, c9, hY, Bool.true_and, Bool.false_and]
          | true =>
            cases ca : decide (data = ⟨#[]⟩) with
            | false => simp only [Try.ntmps115, Try.results115, push_cast, Nat.reduceAdd, Nat.reduceSub, Nat.reduceMul, Nat.reduceLeDiff, Nat.reduceEqDiff, Nat.reduceLT, Int.reduceLT, Int.reduceLE, Int.reduceEq, Int.reduceNeg, Int.reduceToNat, hlt, ents_length, ints_length, c8, c9, ca, hY, Bool.true_and, Bool.false_and]
            | true => simp only [Try.ntmps115, Try.results115, push_cast, Nat.reduceAdd, Nat.reduceSub, Nat.reduceMul, Nat.reduceLeDiff, Nat.reduceEqDiff, Nat.reduceLT, Int.reduceLT, Int.reduceLE, Int.reduceEq, Int.reduceNeg, Int.reduceToNat, hlt, ents_length, ints_length, c8, c9, ca, hY, Bool.true_and, Bool.false_and]
end Go.Proofs.Ytadbfhgeekpdgaa
