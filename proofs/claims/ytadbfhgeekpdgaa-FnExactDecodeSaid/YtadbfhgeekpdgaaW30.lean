/- Decode: its law. -/
import Derived.Test.YtadbfhgeekpdgaaW29
namespace Go.Proofs.Ytadbfhgeekpdgaa
open Go.RowKit Go.Rx
set_option linter.unusedSimpArgs false
set_option maxRecDepth 100000

theorem eqMessage_ok (m : Msg) (h1 : m.es.length ≤ 1048576) (h2 : m.conf.length ≤ 1048576) : PureFn Try.prog 27 [.agg (m.enc (.sh 3) (.sh 1)), .agg (m.enc (.sh 3) (.sh 1))] [bo true] := by
  refine PureFn_of_Go Try.func27 rfl (by decide) mo (by decide +kernel) ?_
  have k1 := eqEntryS_ok m.es h1
  have k2 := eqIntS_ok m.conf h2
  simp only [Try.ntmps27, Try.results27, push_cast, Nat.reduceAdd, Nat.reduceSub, Nat.reduceMul, Nat.reduceLeDiff, Nat.reduceEqDiff, Nat.reduceLT, Int.reduceLT, Int.reduceLE, Int.reduceEq, Int.reduceNeg, Int.reduceToNat, Msg.enc]
  refine GoL_call rfl rfl k1 rfl rfl ?_
  simp only [Try.ntmps27, Try.results27, push_cast, Nat.reduceAdd, Nat.reduceSub, Nat.reduceMul, Nat.reduceLeDiff, Nat.reduceEqDiff, Nat.reduceLT, Int.reduceLT, Int.reduceLE, Int.reduceEq, Int.reduceNeg, Int.reduceToNat]
  refine GoL_call rfl rfl k2 rfl rfl ?_
  simp only [Try.ntmps27, Try.results27, push_cast, Nat.reduceAdd, Nat.reduceSub, Nat.reduceMul, Nat.reduceLeDiff, Nat.reduceEqDiff, Nat.reduceLT, Int.reduceLT, Int.reduceLE, Int.reduceEq, Int.reduceNeg, Int.reduceToNat]
theorem markIntS_emp (k : Int) : PureFn Try.prog 68 [.one (.sh 1 []), i64 k] [i64 k] := by
  refine PureFn_of_Go Try.func68 rfl (by decide) mo (by decide +kernel) ?_
  simp only [Try.ntmps68, Try.results68, push_cast, Nat.reduceAdd, Nat.reduceSub, Nat.reduceMul, Nat.reduceLeDiff, Nat.reduceEqDiff, Nat.reduceLT, Int.reduceLT, Int.reduceLE, Int.reduceEq, Int.reduceNeg, Int.reduceToNat]
  refine Go_loop (α := Unit) (fun _ => ⟨tp 19 [(0, .x (.one (.sh 1 []))), (1, int k), (5, int 0)], 0, [], []⟩) (fun _ => 0) () ?_ ?_
  · exact Weak.same (by simp only [push_cast, Nat.reduceAdd, Nat.reduceSub, Nat.reduceMul, Nat.reduceLeDiff, Nat.reduceEqDiff, Nat.reduceLT, Int.reduceLT, Int.reduceLE, Int.reduceEq, Int.reduceNeg, Int.reduceToNat, Int.ofNat_zero])
  · rintro _ X hX
    simp only [Try.ntmps68, Try.results68, push_cast, Nat.reduceAdd, Nat.reduceSub, Nat.reduceMul, Nat.reduceLeDiff, Nat.reduceEqDiff, Nat.reduceLT, Int.reduceLT, Int.reduceLE, Int.reduceEq, Int.reduceNeg, Int.reduceToNat]
theorem markEntryS_emp (k : Int) : PureFn Try.prog 74 [.one (.sh 3 []), i64 k] [i64 k] := by
  refine PureFn_of_Go Try.func74 rfl (by decide) mo (by decide +kernel) ?_
  simp only [Try.ntmps74, Try.results74, push_cast, Nat.reduceAdd, Nat.reduceSub, Nat.reduceMul, Nat.reduceLeDiff, Nat.reduceEqDiff, Nat.reduceLT, Int.reduceLT, Int.reduceLE, Int.reduceEq, Int.reduceNeg, Int.reduceToNat]
  refine Go_loop (α := Unit) (fun _ => ⟨tp 35 [(0, .x (.one (.sh 3 []))), (1, int k), (5, int 0)], 0, [], []⟩) (fun _ => 0) () ?_ ?_
  · exact Weak.same (by simp only [push_cast, Nat.reduceAdd, Nat.reduceSub, Nat.reduceMul, Nat.reduceLeDiff, Nat.reduceEqDiff, Nat.reduceLT, Int.reduceLT, Int.reduceLE, Int.reduceEq, Int.reduceNeg, Int.reduceToNat, Int.ofNat_zero])
  · rintro _ X hX
    simp only [Try.ntmps74, Try.results74, push_cast, Nat.reduceAdd, Nat.reduceSub, Nat.reduceMul, Nat.reduceLeDiff, Nat.reduceEqDiff, Nat.reduceLT, Int.reduceLT, Int.reduceLE, Int.reduceEq, Int.reduceNeg, Int.reduceToNat]
def Msg.encF (f g : C) (m : Msg) : List C := [.v (.int .i64 m.kind), .v (.int .i64 m.from_), .v (.int .i64 m.to_), .v (.int .i64 m.term), .v (.int .i64 m.index), .v (.int .i64 m.logTerm), .v (.int .i64 m.commit),
  .v (.bool m.ok), f, g, .v (.string m.data), .v (.bool m.last)]
theorem markMessageE (m : Msg) (l : List Ent) (hl : l.length ≤ 1048576) (e : Nat) (he : e = 1 + 3 * l.length) :
    IoFn2 Try.prog 28 .sl 3 (ents l) [.agg (m.encF (.rs ioR [] 3 0 l.length) (.sh 1 [])), i64 1] (ents (marksE 1 l.length)) [i64 e] := by
  have hlen : (ents (marksE 1 l.length)).length = (ents l).length := by rw [ents_length, ents_length, marksE_length]
  refine IoFn2_of_Go Try.func28 rfl (by decide) mo (by decide +kernel) (ioOk_sl entV (fun _ => rfl) l) (ioOk_sl entV (fun _ => rfl) (marksE 1 l.length)) hlen ?_
  have km := markEntryS_ok l hl 1 (by decide) (by decide) e he
  rw [show ((1 : Nat) : Int) = 1 from rfl] at km
  simp only [Try.ntmps28, Try.results28, push_cast, Nat.reduceAdd, Nat.reduceSub, Nat.reduceMul, Nat.reduceLeDiff, Nat.reduceEqDiff, Nat.reduceLT, Int.reduceLT, Int.reduceLE, Int.reduceEq, Int.reduceNeg, Int.reduceToNat, Msg.encF]
  refine GoL_io (0, 1) .sl 3 (ents l) rfl rfl (by rw [ents_length]; rfl) rfl (.inr rfl) rfl km rfl rfl ?_
  simp only [Try.ntmps28, Try.results28, push_cast, Nat.reduceAdd, Nat.reduceSub, Nat.reduceMul, Nat.reduceLeDiff, Nat.reduceEqDiff, Nat.reduceLT, Int.reduceLT, Int.reduceLE, Int.reduceEq, Int.reduceNeg, Int.reduceToNat]
  refine GoL_call rfl rfl (markIntS_emp e) rfl rfl ?_
  simp only [Try.ntmps28, Try.results28, push_cast, Nat.reduceAdd, Nat.reduceSub, Nat.reduceMul, Nat.reduceLeDiff, Nat.reduceEqDiff, Nat.reduceLT, Int.reduceLT, Int.reduceLE, Int.reduceEq, Int.reduceNeg, Int.reduceToNat]
theorem markMessageC (m : Msg) (l : List Int) (hl : l.length ≤ 1048576) (e : Nat) (he : e = 1 + l.length) :
    IoFn2 Try.prog 28 .sl 1 (ints l) [.agg (m.encF (.sh 3 []) (.rs ioR [] 1 0 l.length)), i64 1] (ints (iotaL 1 l.length)) [i64 e] := by
  have hlen : (ints (iotaL 1 l.length)).length = (ints l).length := by rw [ints_length, ints_length, iotaL_length]
  refine IoFn2_of_Go Try.func28 rfl (by decide) mo (by decide +kernel) (ioOk_sl (fun x => [Value.int .i64 x]) (fun _ => rfl) l) (ioOk_sl (fun x => [Value.int .i64 x]) (fun _ => rfl) (iotaL 1 l.length)) hlen ?_
  have km := markIntS_ok l (by omega) 1 (by decide) e he
  rw [show ((1 : Nat) : Int) = 1 from rfl] at km
  simp only [Try.ntmps28, Try.results28, push_cast, Nat.reduceAdd, Nat.reduceSub, Nat.reduceMul, Nat.reduceLeDiff, Nat.reduceEqDiff, Nat.reduceLT, Int.reduceLT, Int.reduceLE, Int.reduceEq, Int.reduceNeg, Int.reduceToNat, Msg.encF]
  refine GoL_call rfl rfl (markEntryS_emp 1) rfl rfl ?_
  simp only [Try.ntmps28, Try.results28, push_cast, Nat.reduceAdd, Nat.reduceSub, Nat.reduceMul, Nat.reduceLeDiff, Nat.reduceEqDiff, Nat.reduceLT, Int.reduceLT, Int.reduceLE, Int.reduceEq, Int.reduceNeg, Int.reduceToNat]
  refine GoL_io (0, 1) .sl 1 (ints l) rfl rfl (by rw [ints_length]; rfl) rfl (.inr rfl) rfl km rfl rfl ?_
  simp only [Try.ntmps28, Try.results28, push_cast, Nat.reduceAdd, Nat.reduceSub, Nat.reduceMul, Nat.reduceLeDiff, Nat.reduceEqDiff, Nat.reduceLT, Int.reduceLT, Int.reduceLE, Int.reduceEq, Int.reduceNeg, Int.reduceToNat]
theorem heldMessageE (m : Msg) (n : Nat) (hn : n ≤ 1048576) (e : Nat) (he : e = 1 + 3 * n) :
    PureFn Try.prog 29 [.agg (m.encF (.sh 3 (vR (ents (marksE 1 n)))) (.sh 1 [])), i64 1] [i64 e] := by
  refine PureFn_of_Go Try.func29 rfl (by decide) mo (by decide +kernel) ?_
  have k1 := heldEntryS_ok 1 n hn (by decide) (by decide) e he
  rw [show ((1 : Nat) : Int) = 1 from rfl] at k1
  have k2 := heldIntS_ok e 0 (by decide) (by omega) e rfl
  rw [show vR (ints (iotaL e 0)) = [] from rfl] at k2
  have h0 : ¬ ((e : Int) < 0) := by omega
  simp only [Try.ntmps29, Try.results29, push_cast, Nat.reduceAdd, Nat.reduceSub, Nat.reduceMul, Nat.reduceLeDiff, Nat.reduceEqDiff, Nat.reduceLT, Int.reduceLT, Int.reduceLE, Int.reduceEq, Int.reduceNeg, Int.reduceToNat, Msg.encF]
  refine GoL_call rfl rfl k1 rfl rfl ?_
  simp only [Try.ntmps29, Try.results29, push_cast, Nat.reduceAdd, Nat.reduceSub, Nat.reduceMul, Nat.reduceLeDiff, Nat.reduceEqDiff, Nat.reduceLT, Int.reduceLT, Int.reduceLE, Int.reduceEq, Int.reduceNeg, Int.reduceToNat, h0]
  refine GoL_call rfl rfl k2 rfl rfl ?_
  simp only [Try.ntmps29, Try.results29, push_cast, Nat.reduceAdd, Nat.reduceSub, Nat.reduceMul, Nat.reduceLeDiff, Nat.reduceEqDiff, Nat.reduceLT, Int.reduceLT, Int.reduceLE, Int.reduceEq, Int.reduceNeg, Int.reduceToNat, h0]
theorem heldMessageC (m : Msg) (n : Nat) (hn : n ≤ 1048576) (e : Nat) (he : e = 1 + n) :
    PureFn Try.prog 29 [.agg (m.encF (.sh 3 []) (.sh 1 (vR (ints (iotaL 1 n))))), i64 1] [i64 e] := by
  refine PureFn_of_Go Try.func29 rfl (by decide) mo (by decide +kernel) ?_
  have k1 := heldEntryS_ok 1 0 (by decide) (by decide) (by decide) 1 rfl
  rw [show ((1 : Nat) : Int) = 1 from rfl, show vR (ents (marksE 1 0)) = [] from rfl] at k1
  have k2 := heldIntS_ok 1 n (by omega) (by decide) e he
  rw [show ((1 : Nat) : Int) = 1 from rfl] at k2
  have h0 : ¬ ((e : Int) < 0) := by omega
  simp only [Try.ntmps29, Try.results29, push_cast, Nat.reduceAdd, Nat.reduceSub, Nat.reduceMul, Nat.reduceLeDiff, Nat.reduceEqDiff, Nat.reduceLT, Int.reduceLT, Int.reduceLE, Int.reduceEq, Int.reduceNeg, Int.reduceToNat, Msg.encF]
  refine GoL_call rfl rfl k1 rfl rfl ?_
  simp only [Try.ntmps29, Try.results29, push_cast, Nat.reduceAdd, Nat.reduceSub, Nat.reduceMul, Nat.reduceLeDiff, Nat.reduceEqDiff, Nat.reduceLT, Int.reduceLT, Int.reduceLE, Int.reduceEq, Int.reduceNeg, Int.reduceToNat, h0]
  refine GoL_call rfl rfl k2 rfl rfl ?_
  simp only [Try.ntmps29, Try.results29, push_cast, Nat.reduceAdd, Nat.reduceSub, Nat.reduceMul, Nat.reduceLeDiff, Nat.reduceEqDiff, Nat.reduceLT, Int.reduceLT, Int.reduceLE, Int.reduceEq, Int.reduceNeg, Int.reduceToNat, h0]
theorem mSR_form (t : ByteArray) : ∃ (m : Msg) (y : Bool), m.es.length ≤ 4 ∧ m.conf.length ≤ 4 ∧ (m.es = [] ∨ m.conf = []) ∧ mSR t = [.agg (m.enc (.own 3) (.own 1)), bo y] := by
  cases h : sGood t with
  | false => exact ⟨mZ, false, Nat.zero_le _, Nat.zero_le _, .inl rfl, mSR_false h⟩
  | true =>
    refine ⟨mS t, true, ?_, ?_, ?_, mSR_true h⟩
    all_goals
      simp only [sGood, Bool.and_eq_true] at h
      obtain ⟨_, h4, hc, _, _, _, _, _, he⟩ := moB_spec h.2.1.2
    · exact h4
    · rcases hc with hc | hc
      · omega
      · exact confB_len hc
    · rcases he with he | he
      · exact .inl (List.eq_nil_of_length_eq_zero he)
      · exact .inr (List.eq_nil_of_length_eq_zero he)
set_option maxHeartbeats 2000000 in
theorem lawDecode_ok (s : ByteArray) (hs : s.size ≤ 140737488355328) : PureFn Try.prog 7 [st s] [bo true] := by
  refine PureFn_of_Go Try.func7 rfl (by decide) mo (by decide +kernel) ?_
  have k1 := decodeS_ok s hs
  have k2 := decodeI_ok s hs
  by_cases c0 : (1048576 : Int) < (s.size : Int)
  · simp only [Try.ntmps7, Try.results7, push_cast, Nat.reduceAdd, Nat.reduceSub, Nat.reduceMul, Nat.reduceLeDiff, Nat.reduceEqDiff, Nat.reduceLT, Int.reduceLT, Int.reduceLE, Int.reduceEq, Int.reduceNeg, Int.reduceToNat, c0]
  obtain ⟨m, y, h1, h2, h3, hR⟩ := mSR_form s
  rw [hR] at k1 k2
  have kq := eqMessage_ok m (by omega) (by omega)
  have h1' := h1
  have h2' := h2
  obtain ⟨kind, from_, to_, term, index, logTerm, commit, ok, es, conf, data, last⟩ := m
  simp only at h1 h2 h3
  simp only [Msg.enc] at k1 k2 kq
  rcases h3 with h3 | h3
  · subst h3
    obtain ⟨e, he⟩ : ∃ e, e = 1 + conf.length := ⟨_, rfl⟩
    have km := markMessageC ⟨kind, from_, to_, term, index, logTerm, commit, ok, [], conf, data, last⟩ conf (by omega) e he
    have kh := heldMessageC ⟨kind, from_, to_, term, index, logTerm, commit, ok, [], conf, data, last⟩ conf.length (by omega) e he
    simp only [Msg.encF] at km kh
    have h0 : ¬ ((e : Int) < 0) := by omega
    have ht := ints_take (iotaL 1 conf.length)
    rw [iotaL_length] at ht
    simp only [ents_nil] at k1 k2 kq
    simp only [Try.ntmps7, Try.results7, push_cast, Nat.reduceAdd, Nat.reduceSub, Nat.reduceMul, Nat.reduceLeDiff, Nat.reduceEqDiff, Nat.reduceLT, Int.reduceLT, Int.reduceLE, Int.reduceEq, Int.reduceNeg, Int.reduceToNat, c0]
    refine GoL_call rfl rfl k1 (by simp only [push_cast, Nat.reduceAdd, Nat.reduceSub, Nat.reduceMul, Nat.reduceLeDiff, Nat.reduceEqDiff, Nat.reduceLT, Int.reduceLT, Int.reduceLE, Int.reduceEq, Int.reduceNeg, Int.reduceToNat]) rfl ?_
    simp only [Try.ntmps7, Try.results7, push_cast, Nat.reduceAdd, Nat.reduceSub, Nat.reduceMul, Nat.reduceLeDiff, Nat.reduceEqDiff, Nat.reduceLT, Int.reduceLT, Int.reduceLE, Int.reduceEq, Int.reduceNeg, Int.reduceToNat, ints_length]
    refine GoL_call rfl rfl k2 (by simp only [push_cast, Nat.reduceAdd, Nat.reduceSub, Nat.reduceMul, Nat.reduceLeDiff, Nat.reduceEqDiff, Nat.reduceLT, Int.reduceLT, Int.reduceLE, Int.reduceEq, Int.reduceNeg, Int.reduceToNat]) rfl ?_
    simp only [Try.ntmps7, Try.results7, push_cast, Nat.reduceAdd, Nat.reduceSub, Nat.reduceMul, Nat.reduceLeDiff, Nat.reduceEqDiff, Nat.reduceLT, Int.reduceLT, Int.reduceLE, Int.reduceEq, Int.reduceNeg, Int.reduceToNat, ints_length]
    refine GoL_call rfl (by simp only [push_cast, Nat.reduceAdd, Nat.reduceSub, Nat.reduceMul, Nat.reduceLeDiff, Nat.reduceEqDiff, Nat.reduceLT, Int.reduceLT, Int.reduceLE, Int.reduceEq, Int.reduceNeg, Int.reduceToNat, ints_take]) kq rfl rfl ?_
    simp only [Try.ntmps7, Try.results7, push_cast, Nat.reduceAdd, Nat.reduceSub, Nat.reduceMul, Nat.reduceLeDiff, Nat.reduceEqDiff, Nat.reduceLT, Int.reduceLT, Int.reduceLE, Int.reduceEq, Int.reduceNeg, Int.reduceToNat]
    refine GoL_io2 (0, 1353) .sl 1 (ints conf) rfl rfl (.inr rfl) rfl km rfl rfl ?_
    simp only [Try.ntmps7, Try.results7, push_cast, Nat.reduceAdd, Nat.reduceSub, Nat.reduceMul, Nat.reduceLeDiff, Nat.reduceEqDiff, Nat.reduceLT, Int.reduceLT, Int.reduceLE, Int.reduceEq, Int.reduceNeg, Int.reduceToNat, ints_length]
    refine GoL_call rfl (by simp only [push_cast, Nat.reduceAdd, Nat.reduceSub, Nat.reduceMul, Nat.reduceLeDiff, Nat.reduceEqDiff, Nat.reduceLT, Int.reduceLT, Int.reduceLE, Int.reduceEq, Int.reduceNeg, Int.reduceToNat, ht]) kh rfl rfl ?_
    simp only [Try.ntmps7, Try.results7, push_cast, Nat.reduceAdd, Nat.reduceSub, Nat.reduceMul, Nat.reduceLeDiff, Nat.reduceEqDiff, Nat.reduceLT, Int.reduceLT, Int.reduceLE, Int.reduceEq, Int.reduceNeg, Int.reduceToNat, ints_length, h0]
    refine GoL_call rfl rfl k2 (by simp only [push_cast, Nat.reduceAdd, Nat.reduceSub, Nat.reduceMul, Nat.reduceLeDiff, Nat.reduceEqDiff, Nat.reduceLT, Int.reduceLT, Int.reduceLE, Int.reduceEq, Int.reduceNeg, Int.reduceToNat]) rfl ?_
    simp only [Try.ntmps7, Try.results7, push_cast, Nat.reduceAdd, Nat.reduceSub, Nat.reduceMul, Nat.reduceLeDiff, Nat.reduceEqDiff, Nat.reduceLT, Int.reduceLT, Int.reduceLE, Int.reduceEq, Int.reduceNeg, Int.reduceToNat, ints_length]
    refine GoL_call rfl (by simp only [push_cast, Nat.reduceAdd, Nat.reduceSub, Nat.reduceMul, Nat.reduceLeDiff, Nat.reduceEqDiff, Nat.reduceLT, Int.reduceLT, Int.reduceLE, Int.reduceEq, Int.reduceNeg, Int.reduceToNat, ints_take]) kq rfl rfl ?_
    simp only [Try.ntmps7, Try.results7, push_cast, Nat.reduceAdd, Nat.reduceSub, Nat.reduceMul, Nat.reduceLeDiff, Nat.reduceEqDiff, Nat.reduceLT, Int.reduceLT, Int.reduceLE, Int.reduceEq, Int.reduceNeg, Int.reduceToNat]
    refine GoL_call rfl (by simp only [push_cast, Nat.reduceAdd, Nat.reduceSub, Nat.reduceMul, Nat.reduceLeDiff, Nat.reduceEqDiff, Nat.reduceLT, Int.reduceLT, Int.reduceLE, Int.reduceEq, Int.reduceNeg, Int.reduceToNat, ht]) kh rfl rfl ?_
    simp only [Try.ntmps7, Try.results7, push_cast, Nat.reduceAdd, Nat.reduceSub, Nat.reduceMul, Nat.reduceLeDiff, Nat.reduceEqDiff, Nat.reduceLT, Int.reduceLT, Int.reduceLE, Int.reduceEq, Int.reduceNeg, Int.reduceToNat, ints_length, h0]
  · subst h3
    obtain ⟨e, he⟩ : ∃ e, e = 1 + 3 * es.length := ⟨_, rfl⟩
    have km := markMessageE ⟨kind, from_, to_, term, index, logTerm, commit, ok, es, [], data, last⟩ es (by omega) e he
    have kh := heldMessageE ⟨kind, from_, to_, term, index, logTerm, commit, ok, es, [], data, last⟩ es.length (by omega) e he
    simp only [Msg.encF] at km kh
    have h0 : ¬ ((e : Int) < 0) := by omega
    have ht := ents_take (marksE 1 es.length)
    rw [marksE_length] at ht
    simp only [ints_nil] at k1 k2 kq
    simp only [Try.ntmps7, Try.results7, push_cast, Nat.reduceAdd, Nat.reduceSub, Nat.reduceMul, Nat.reduceLeDiff, Nat.reduceEqDiff, Nat.reduceLT, Int.reduceLT, Int.reduceLE, Int.reduceEq, Int.reduceNeg, Int.reduceToNat, c0]
    refine GoL_call rfl rfl k1 (by simp only [push_cast, Nat.reduceAdd, Nat.reduceSub, Nat.reduceMul, Nat.reduceLeDiff, Nat.reduceEqDiff, Nat.reduceLT, Int.reduceLT, Int.reduceLE, Int.reduceEq, Int.reduceNeg, Int.reduceToNat]) rfl ?_
    simp only [Try.ntmps7, Try.results7, push_cast, Nat.reduceAdd, Nat.reduceSub, Nat.reduceMul, Nat.reduceLeDiff, Nat.reduceEqDiff, Nat.reduceLT, Int.reduceLT, Int.reduceLE, Int.reduceEq, Int.reduceNeg, Int.reduceToNat, ents_length]
    refine GoL_call rfl rfl k2 (by simp only [push_cast, Nat.reduceAdd, Nat.reduceSub, Nat.reduceMul, Nat.reduceLeDiff, Nat.reduceEqDiff, Nat.reduceLT, Int.reduceLT, Int.reduceLE, Int.reduceEq, Int.reduceNeg, Int.reduceToNat]) rfl ?_
    simp only [Try.ntmps7, Try.results7, push_cast, Nat.reduceAdd, Nat.reduceSub, Nat.reduceMul, Nat.reduceLeDiff, Nat.reduceEqDiff, Nat.reduceLT, Int.reduceLT, Int.reduceLE, Int.reduceEq, Int.reduceNeg, Int.reduceToNat, ents_length]
    refine GoL_call rfl (by simp only [push_cast, Nat.reduceAdd, Nat.reduceSub, Nat.reduceMul, Nat.reduceLeDiff, Nat.reduceEqDiff, Nat.reduceLT, Int.reduceLT, Int.reduceLE, Int.reduceEq, Int.reduceNeg, Int.reduceToNat, ents_take]) kq rfl rfl ?_
    simp only [Try.ntmps7, Try.results7, push_cast, Nat.reduceAdd, Nat.reduceSub, Nat.reduceMul, Nat.reduceLeDiff, Nat.reduceEqDiff, Nat.reduceLT, Int.reduceLT, Int.reduceLE, Int.reduceEq, Int.reduceNeg, Int.reduceToNat]
    refine GoL_io2 (0, 1352) .sl 3 (ents es) rfl rfl (.inr rfl) rfl km rfl rfl ?_
    simp only [Try.ntmps7, Try.results7, push_cast, Nat.reduceAdd, Nat.reduceSub, Nat.reduceMul, Nat.reduceLeDiff, Nat.reduceEqDiff, Nat.reduceLT, Int.reduceLT, Int.reduceLE, Int.reduceEq, Int.reduceNeg, Int.reduceToNat, ents_length]
    refine GoL_call rfl (by simp only [push_cast, Nat.reduceAdd, Nat.reduceSub, Nat.reduceMul, Nat.reduceLeDiff, Nat.reduceEqDiff, Nat.reduceLT, Int.reduceLT, Int.reduceLE, Int.reduceEq, Int.reduceNeg, Int.reduceToNat, ht]) kh rfl rfl ?_
    simp only [Try.ntmps7, Try.results7, push_cast, Nat.reduceAdd, Nat.reduceSub, Nat.reduceMul, Nat.reduceLeDiff, Nat.reduceEqDiff, Nat.reduceLT, Int.reduceLT, Int.reduceLE, Int.reduceEq, Int.reduceNeg, Int.reduceToNat, ents_length, h0]
    refine GoL_call rfl rfl k2 (by simp only [push_cast, Nat.reduceAdd, Nat.reduceSub, Nat.reduceMul, Nat.reduceLeDiff, Nat.reduceEqDiff, Nat.reduceLT, Int.reduceLT, Int.reduceLE, Int.reduceEq, Int.reduceNeg, Int.reduceToNat]) rfl ?_
    simp only [Try.ntmps7, Try.results7, push_cast, Nat.reduceAdd, Nat.reduceSub, Nat.reduceMul, Nat.reduceLeDiff, Nat.reduceEqDiff, Nat.reduceLT, Int.reduceLT, Int.reduceLE, Int.reduceEq, Int.reduceNeg, Int.reduceToNat, ents_length]
    refine GoL_call rfl (by simp only [push_cast, Nat.reduceAdd, Nat.reduceSub, Nat.reduceMul, Nat.reduceLeDiff, Nat.reduceEqDiff, Nat.reduceLT, Int.reduceLT, Int.reduceLE, Int.reduceEq, Int.reduceNeg, Int.reduceToNat, ents_take]) kq rfl rfl ?_
    simp only [Try.ntmps7, Try.results7, push_cast, Nat.reduceAdd, Nat.reduceSub, Nat.reduceMul, Nat.reduceLeDiff, Nat.reduceEqDiff, Nat.reduceLT, Int.reduceLT, Int.reduceLE, Int.reduceEq, Int.reduceNeg, Int.reduceToNat]
    refine GoL_call rfl (by simp only [push_cast, Nat.reduceAdd, Nat.reduceSub, Nat.reduceMul, Nat.reduceLeDiff, Nat.reduceEqDiff, Nat.reduceLT, Int.reduceLT, Int.reduceLE, Int.reduceEq, Int.reduceNeg, Int.reduceToNat, ht]) kh rfl rfl ?_
    simp only [Try.ntmps7, Try.results7, push_cast, Nat.reduceAdd, Nat.reduceSub, Nat.reduceMul, Nat.reduceLeDiff, Nat.reduceEqDiff, Nat.reduceLT, Int.reduceLT, Int.reduceLE, Int.reduceEq, Int.reduceNeg, Int.reduceToNat, ents_length, h0]
theorem lawDecode (xs : List X) (h : HasXs [.str] xs) : PureFn Try.prog 7 xs [.one (.v (.bool true))] := by
  obtain ⟨x, _, rfl, ⟨c, rfl, hc⟩, rfl⟩ := h
  simp only [HasKt] at hc
  obtain ⟨s, hs, hb⟩ := hc
  cases hs
  exact lawDecode_ok s (Nat.le_trans hb (by decide))
end Go.Proofs.Ytadbfhgeekpdgaa
