/- Encode; the scanner's count. -/
import Derived.Test.YtadbfhgeekpdgaaW26
namespace Go.Proofs.Ytadbfhgeekpdgaa
open Go.RowKit Go.Rx
set_option linter.unusedSimpArgs false
set_option maxRecDepth 100000

theorem l18Flag_ok (y : Bool) : PureFn Try.prog 116 [bo y] [st (flB y)] := by
  refine PureFn_of_Go Try.func116 rfl (by decide) mo (by decide +kernel) ?_
  cases y with
  | true => simp only [Try.ntmps116, Try.results116, push_cast, Nat.reduceAdd, Nat.reduceSub, Nat.reduceMul, Nat.reduceLeDiff, Nat.reduceEqDiff, Nat.reduceLT, Int.reduceLT, Int.reduceLE, Int.reduceEq, Int.reduceNeg, Int.reduceToNat, flB]
  | false => simp only [Try.ntmps116, Try.results116, push_cast, Nat.reduceAdd, Nat.reduceSub, Nat.reduceMul, Nat.reduceLeDiff, Nat.reduceEqDiff, Nat.reduceLT, Int.reduceLT, Int.reduceLE, Int.reduceEq, Int.reduceNeg, Int.reduceToNat, flB]
theorem count_ok (s : ByteArray) (hs : s.size ≤ 140737488355328) (a : Nat) (b : Bool) : IoFn Try.prog 71 .box 3 [sc s a b] [i64 4] [sc s (numA s a b) (cnB s a b)] [i64 (cnN s a b)] := by
  refine IoFn_of_Go Try.func71 rfl (by decide) mo (by decide +kernel) (ioOk_box rfl) (ioOk_box rfl) rfl rfl ?_
  have k := number_ok s hs a b
  simp only [Try.ntmps71, Try.results71, push_cast, Nat.reduceAdd, Nat.reduceSub, Nat.reduceMul, Nat.reduceLeDiff, Nat.reduceEqDiff, Nat.reduceLT, Int.reduceLT, Int.reduceLE, Int.reduceEq, Int.reduceNeg, Int.reduceToNat, sc]
  refine GoL_io (0, 1) .box 3 [sc s a b] rfl rfl rfl rfl (.inl rfl) rfl k rfl rfl ?_
  obtain ⟨A, hA⟩ : ∃ A, A = numA s a b := ⟨_, rfl⟩
  obtain ⟨B, hB⟩ : ∃ B, B = numB s a b := ⟨_, rfl⟩
  unfold cnB cnN
  obtain ⟨N, hN⟩ : ∃ N, N = numN s a b := ⟨_, rfl⟩
  rw [← hA, ← hB, ← hN]
  by_cases c : (4 : Int) < (N : Int)
  · have c2 : 4 < N := by omega
    simp only [Try.ntmps71, Try.results71, push_cast, Nat.reduceAdd, Nat.reduceSub, Nat.reduceMul, Nat.reduceLeDiff, Nat.reduceEqDiff, Nat.reduceLT, Int.reduceLT, Int.reduceLE, Int.reduceEq, Int.reduceNeg, Int.reduceToNat, sc, c, c2, if_true, Int.ofNat_zero]
  · have c2 : ¬ 4 < N := by omega
    simp only [Try.ntmps71, Try.results71, push_cast, Nat.reduceAdd, Nat.reduceSub, Nat.reduceMul, Nat.reduceLeDiff, Nat.reduceEqDiff, Nat.reduceLT, Int.reduceLT, Int.reduceLE, Int.reduceEq, Int.reduceNeg, Int.reduceToNat, sc, c, c2, if_false]

def encX (m : Msg) : List X := if moB m then [st (encB m), bo true] else [st ⟨#[]⟩, bo false]
theorem encX_true {m : Msg} (h : moB m = true) : encX m = [st (encB m), bo true] := by simp only [encX, h, if_true]
theorem encX_false {m : Msg} (h : moB m = false) : encX m = [st ⟨#[]⟩, bo false] := by simp only [encX, h, Bool.false_eq_true, if_false]
theorem ctX_eq (l : List Int) : ctX l = [st (ctT l), bo (confB l)] := by unfold ctX ctT; cases confB l <;> rfl
theorem ctT_size (l : List Int) : (ctT l).size ≤ 4 := by
  unfold ctT
  cases h : confB l with
  | true => rw [if_pos rfl, octB_size]; exact confB_len h
  | false => exact Nat.zero_le _
theorem etX_true {i t k : Nat} {d : ByteArray} (h : etOk i t k d = true) : etX i t k d = [st (etB i t k d), bo true] := by simp only [etX, h, if_true]
set_option maxHeartbeats 2000000 in
theorem encode_ok (m : Msg) (hm : m.Ok) : PureFn Try.prog 70 [.agg (m.enc (.sh 3) (.sh 1))] (encX m) := by
  refine PureFn_of_Go Try.func70 rfl (by decide) mo (by decide +kernel) ?_
  have ko := messageOkS_ok m hm
  cases hmo : moB m with
  | false =>
    rw [encX_false hmo]
    rw [hmo] at ko
    simp only [Msg.enc] at ko
    simp only [Try.ntmps70, Try.results70, push_cast, Nat.reduceAdd, Nat.reduceSub, Nat.reduceMul, Nat.reduceLeDiff, Nat.reduceEqDiff, Nat.reduceLT, Int.reduceLT, Int.reduceLE, Int.reduceEq, Int.reduceNeg, Int.reduceToNat, Msg.enc]
    refine GoL_call rfl rfl ko rfl rfl ?_
    simp only [Try.ntmps70, Try.results70, push_cast, Nat.reduceAdd, Nat.reduceSub, Nat.reduceMul, Nat.reduceLeDiff, Nat.reduceEqDiff, Nat.reduceLT, Int.reduceLT, Int.reduceLE, Int.reduceEq, Int.reduceNeg, Int.reduceToNat]
  | true =>
  rw [encX_true hmo]
  rw [hmo] at ko
  obtain ⟨hen, h4, _, hdl, ht, hl, hi, hc, _⟩ := moB_spec hmo
  obtain ⟨_, _, hcl, _⟩ := hm
  obtain ⟨kind, from_, to_, term, index, logTerm, commit, ok, es, conf, data, last⟩ := m
  simp only at hen h4 hdl ht hl hi hc hcl
  obtain ⟨T, rfl⟩ := Int.eq_ofNat_of_zero_le ht.1
  obtain ⟨L, rfl⟩ := Int.eq_ofNat_of_zero_le hl.1
  obtain ⟨I, rfl⟩ := Int.eq_ofNat_of_zero_le hi.1
  obtain ⟨G, rfl⟩ := Int.eq_ofNat_of_zero_le hc.1
  simp only [Msg.enc] at ko
  have w1 := oct8_wrap kind
  have w2 := oct8_wrap from_
  have w3 := oct8_wrap to_
  obtain ⟨F, hF⟩ : ∃ F, F = encB ⟨kind, from_, to_, T, I, L, G, ok, es, conf, data, last⟩ := ⟨_, rfl⟩
  unfold encB hdB at hF
  simp only [Int.toNat_natCast] at hF
  rw [show encB ⟨kind, from_, to_, T, I, L, G, ok, es, conf, data, last⟩ = F from by rw [hF]; rfl]
  obtain ⟨c1, e1⟩ : ∃ c, c = oct8 kind := ⟨_, rfl⟩
  obtain ⟨c2, e2⟩ : ∃ c, c = oct8 from_ := ⟨_, rfl⟩
  obtain ⟨c3, e3⟩ : ∃ c, c = oct8 to_ := ⟨_, rfl⟩
  rw [← e1] at w1 hF
  rw [← e2] at w2 hF
  rw [← e3] at w3 hF
  have hf := str_natsOf [c1, c2, c3]
  simp only [natsOf, List.map_cons, List.map_nil] at hf
  obtain ⟨P0, hP0⟩ : ∃ P : ByteArray, P = ⟨[c1, c2, c3].toArray⟩ := ⟨_, rfl⟩
  have p0 : P0.size = 3 := by rw [hP0]; rfl
  rw [← hP0] at hf hF
  have s1 := varB_size T
  have s2 := varB_size I
  have s3 := varB_size L
  have s4 := varB_size G
  have s5 : (flB ok).size = 1 := by cases ok <;> rfl
  have s6 : (flB last).size = 1 := by cases last <;> rfl
  have s7 := varB_size es.length
  obtain ⟨P1, hP1⟩ : ∃ P, P = P0 ++ varB T := ⟨_, rfl⟩
  obtain ⟨P2, hP2⟩ : ∃ P, P = P1 ++ varB I := ⟨_, rfl⟩
  obtain ⟨P3, hP3⟩ : ∃ P, P = P2 ++ varB L := ⟨_, rfl⟩
  obtain ⟨P4, hP4⟩ : ∃ P, P = P3 ++ varB G := ⟨_, rfl⟩
  obtain ⟨P5, hP5⟩ : ∃ P, P = P4 ++ flB ok := ⟨_, rfl⟩
  obtain ⟨P6, hP6⟩ : ∃ P, P = P5 ++ flB last := ⟨_, rfl⟩
  obtain ⟨P7, hP7⟩ : ∃ P, P = P6 ++ varB es.length := ⟨_, rfl⟩
  rw [← hP1, ← hP2, ← hP3, ← hP4, ← hP5, ← hP6, ← hP7] at hF
  have z1 : P1.size = P0.size + (varB T).size := by rw [hP1, ByteArray.size_append]
  have z2 : P2.size = P1.size + (varB I).size := by rw [hP2, ByteArray.size_append]
  have z3 : P3.size = P2.size + (varB L).size := by rw [hP3, ByteArray.size_append]
  have z4 : P4.size = P3.size + (varB G).size := by rw [hP4, ByteArray.size_append]
  have z5 : P5.size = P4.size + (flB ok).size := by rw [hP5, ByteArray.size_append]
  have z6 : P6.size = P5.size + (flB last).size := by rw [hP6, ByteArray.size_append]
  have z7 : P7.size = P6.size + (varB es.length).size := by rw [hP7, ByteArray.size_append]
  have r1 : P0.size + (varB T).size ≤ 9223372036854775807 := by omega
  have r2 : P1.size + (varB I).size ≤ 9223372036854775807 := by omega
  have r3 : P2.size + (varB L).size ≤ 9223372036854775807 := by omega
  have r4 : P3.size + (varB G).size ≤ 9223372036854775807 := by omega
  have r5 : P4.size + (flB ok).size ≤ 9223372036854775807 := by omega
  have r6 : P5.size + (flB last).size ≤ 9223372036854775807 := by omega
  have r7 : P6.size + (varB es.length).size ≤ 9223372036854775807 := by omega
  have z8 : P7.size ≤ 3000000 := by omega
  simp only [Try.ntmps70, Try.results70, push_cast, Nat.reduceAdd, Nat.reduceSub, Nat.reduceMul, Nat.reduceLeDiff, Nat.reduceEqDiff, Nat.reduceLT, Int.reduceLT, Int.reduceLE, Int.reduceEq, Int.reduceNeg, Int.reduceToNat, Msg.enc]
  refine GoL_call rfl rfl ko rfl rfl ?_
  simp only [Try.ntmps70, Try.results70, push_cast, Nat.reduceAdd, Nat.reduceSub, Nat.reduceMul, Nat.reduceLeDiff, Nat.reduceEqDiff, Nat.reduceLT, Int.reduceLT, Int.reduceLE, Int.reduceEq, Int.reduceNeg, Int.reduceToNat, w1, w2, w3, hf]
  refine GoD_call rfl rfl (l01Var_ok T (by omega)) rfl rfl ?_
  simp only [Try.ntmps70, Try.results70, push_cast, Nat.reduceAdd, Nat.reduceSub, Nat.reduceMul, Nat.reduceLeDiff, Nat.reduceEqDiff, Nat.reduceLT, Int.reduceLT, Int.reduceLE, Int.reduceEq, Int.reduceNeg, Int.reduceToNat, w1, w2, w3, hf, r1, ← hP1]
  refine GoD_call rfl rfl (l01Var_ok I (by omega)) rfl rfl ?_
  simp only [Try.ntmps70, Try.results70, push_cast, Nat.reduceAdd, Nat.reduceSub, Nat.reduceMul, Nat.reduceLeDiff, Nat.reduceEqDiff, Nat.reduceLT, Int.reduceLT, Int.reduceLE, Int.reduceEq, Int.reduceNeg, Int.reduceToNat, w1, w2, w3, hf, r2, ← hP2]
  refine GoD_call rfl rfl (l01Var_ok L (by omega)) rfl rfl ?_
  simp only [Try.ntmps70, Try.results70, push_cast, Nat.reduceAdd, Nat.reduceSub, Nat.reduceMul, Nat.reduceLeDiff, Nat.reduceEqDiff, Nat.reduceLT, Int.reduceLT, Int.reduceLE, Int.reduceEq, Int.reduceNeg, Int.reduceToNat, w1, w2, w3, hf, r3, ← hP3]
  refine GoD_call rfl rfl (l01Var_ok G (by omega)) rfl rfl ?_
  simp only [Try.ntmps70, Try.results70, push_cast, Nat.reduceAdd, Nat.reduceSub, Nat.reduceMul, Nat.reduceLeDiff, Nat.reduceEqDiff, Nat.reduceLT, Int.reduceLT, Int.reduceLE, Int.reduceEq, Int.reduceNeg, Int.reduceToNat, w1, w2, w3, hf, r4, ← hP4]
  refine GoD_call rfl rfl (l18Flag_ok ok) rfl rfl ?_
  simp only [Try.ntmps70, Try.results70, push_cast, Nat.reduceAdd, Nat.reduceSub, Nat.reduceMul, Nat.reduceLeDiff, Nat.reduceEqDiff, Nat.reduceLT, Int.reduceLT, Int.reduceLE, Int.reduceEq, Int.reduceNeg, Int.reduceToNat, w1, w2, w3, hf, r5, ← hP5]
  refine GoD_call rfl rfl (l18Flag_ok last) rfl rfl ?_
  simp only [Try.ntmps70, Try.results70, push_cast, Nat.reduceAdd, Nat.reduceSub, Nat.reduceMul, Nat.reduceLeDiff, Nat.reduceEqDiff, Nat.reduceLT, Int.reduceLT, Int.reduceLE, Int.reduceEq, Int.reduceNeg, Int.reduceToNat, w1, w2, w3, hf, r6, ← hP6, ents_length]
  refine GoD_call rfl rfl (l01Var_ok es.length (by omega)) rfl rfl ?_
  simp only [Try.ntmps70, Try.results70, push_cast, Nat.reduceAdd, Nat.reduceSub, Nat.reduceMul, Nat.reduceLeDiff, Nat.reduceEqDiff, Nat.reduceLT, Int.reduceLT, Int.reduceLE, Int.reduceEq, Int.reduceNeg, Int.reduceToNat, w1, w2, w3, hf, r7, ← hP7, ents_length]
  refine Go_loop (α := {p : Nat × ByteArray // p.1 ≤ es.length ∧ esB p.2 (es.drop p.1) = esB P7 es ∧ p.2.size ≤ 3000000 + 3000 * p.1})
    (fun p => ⟨tp 87 [(1, .x (.one (.pt (0, 64) [] 12 0 0))), (4, .x (st p.1.2)), (5, int p.1.1)], 0,
      [((0, 64), ⟨.box, 12, [[.v (.int .i64 kind), .v (.int .i64 from_), .v (.int .i64 to_), .v (.int .i64 T), .v (.int .i64 I), .v (.int .i64 L), .v (.int .i64 G), .v (.bool ok), .sh 3 (vR (ents es)), .sh 1 (vR (ints conf)), .v (.string data), .v (.bool last)]]⟩)], []⟩)
    (fun p => es.length - p.1.1) ⟨(0, P7), by simp only; omega, rfl, by simp only; omega⟩ ?_ ?_
  · exact Weak.drop (by simp only [push_cast, Nat.reduceAdd, Nat.reduceSub, Nat.reduceMul, Nat.reduceLeDiff, Nat.reduceEqDiff, Nat.reduceLT, Int.reduceLT, Int.reduceLE, Int.reduceEq, Int.reduceNeg, Int.reduceToNat, Int.ofNat_zero]) (by simp only [push_cast, Nat.reduceAdd, Nat.reduceSub, Nat.reduceMul, Nat.reduceLeDiff, Nat.reduceEqDiff, Nat.reduceLT, Int.reduceLT, Int.reduceLE, Int.reduceEq, Int.reduceNeg, Int.reduceToNat, Int.ofNat_zero]) (by simp only [push_cast, Nat.reduceAdd, Nat.reduceSub, Nat.reduceMul, Nat.reduceLeDiff, Nat.reduceEqDiff, Nat.reduceLT, Int.reduceLT, Int.reduceLE, Int.reduceEq, Int.reduceNeg, Int.reduceToNat, Int.ofNat_zero])
  · rintro ⟨⟨i, s⟩, hi', hinv, hsz⟩ X hX
    simp only at hi' hinv hsz
    by_cases hlt : (i : Int) < (es.length : Int)
    · have hi' : i < es.length := by omega
      have ws := wsucc hi' (by omega)
      have hg := ents_getD es hi'
      have hmem := getD_mem' es i hi'
      rw [drop_cons es i hi'] at hinv
      obtain ⟨e, he⟩ : ∃ e, e = es.getD i default := ⟨_, rfl⟩
      rw [← he] at hg hmem hinv
      have hee := hen e hmem
      obtain ⟨g1, g2, g3, g4, g5⟩ := eoB_size hee
      have gs := etE_size hee
      obtain ⟨t0, k0, d0⟩ := e
      simp only at g1 g2 g3 g4 g5
      obtain ⟨t0, rfl⟩ := Int.eq_ofNat_of_zero_le g1
      obtain ⟨k0, rfl⟩ := Int.eq_ofNat_of_zero_le (show 0 ≤ k0 by omega)
      have ke := entryTextS_ok 1 t0 k0 (by decide) (by omega) d0 (by omega)
      rw [etX_true (by rw [etOk, show eoB (t0 : Int) (k0 : Int) d0 = true from hee]; decide)] at ke
      simp only [entC] at ke
      rw [show ((1 : Nat) : Int) = 1 from rfl] at ke
      rw [esB, show etE ⟨(t0 : Int), (k0 : Int), d0⟩ = etB 1 t0 k0 d0 from rfl] at hinv
      rw [show etE ⟨(t0 : Int), (k0 : Int), d0⟩ = etB 1 t0 k0 d0 from rfl] at gs
      obtain ⟨E, hE⟩ : ∃ E, E = etB 1 t0 k0 d0 := ⟨_, rfl⟩
      rw [← hE] at ke hinv gs
      have gl := shortB_le E
      have hroom : s.size + (shortB E).size ≤ 9223372036854775807 := by omega
      obtain ⟨i', hi1⟩ : ∃ i', i' = i + 1 := ⟨_, rfl⟩
      rw [← hi1] at ws hinv
      simp only [push_cast, Nat.reduceAdd, Nat.reduceSub, Nat.reduceMul, Nat.reduceLeDiff, Nat.reduceEqDiff, Nat.reduceLT, Int.reduceLT, Int.reduceLE, Int.reduceEq, Int.reduceNeg, Int.reduceToNat, hlt, ents_length, hi', hg, entV, vR_getD]
      refine GoL_call rfl rfl ke rfl rfl ?_
      simp only [push_cast, Nat.reduceAdd, Nat.reduceSub, Nat.reduceMul, Nat.reduceLeDiff, Nat.reduceEqDiff, Nat.reduceLT, Int.reduceLT, Int.reduceLE, Int.reduceEq, Int.reduceNeg, Int.reduceToNat]
      refine GoL_call rfl rfl (l05Short_ok E (by omega)) rfl rfl ?_
      simp only [push_cast, Nat.reduceAdd, Nat.reduceSub, Nat.reduceMul, Nat.reduceLeDiff, Nat.reduceEqDiff, Nat.reduceLT, Int.reduceLT, Int.reduceLE, Int.reduceEq, Int.reduceNeg, Int.reduceToNat, hroom, ws]
      refine ⟨_, ?_, hX ⟨(i', s ++ shortB E), by simp only; omega, hinv, by simp only [ByteArray.size_append]; omega⟩ (by simp only; omega)⟩
      exact Weak.drop (by simp only [push_cast, Nat.reduceAdd, Nat.reduceSub, Nat.reduceMul, Nat.reduceLeDiff, Nat.reduceEqDiff, Nat.reduceLT, Int.reduceLT, Int.reduceLE, Int.reduceEq, Int.reduceNeg, Int.reduceToNat]) (by simp only [push_cast, Nat.reduceAdd, Nat.reduceSub, Nat.reduceMul, Nat.reduceLeDiff, Nat.reduceEqDiff, Nat.reduceLT, Int.reduceLT, Int.reduceLE, Int.reduceEq, Int.reduceNeg, Int.reduceToNat]) (by simp only [push_cast, Nat.reduceAdd, Nat.reduceSub, Nat.reduceMul, Nat.reduceLeDiff, Nat.reduceEqDiff, Nat.reduceLT, Int.reduceLT, Int.reduceLE, Int.reduceEq, Int.reduceNeg, Int.reduceToNat])
    · have hie : i = es.length := by omega
      rw [hie, List.drop_length, esB] at hinv
      have kc := confTextS_ok conf hcl
      rw [ctX_eq] at kc
      rw [← hinv] at hF
      have v1 := ctT_size conf
      obtain ⟨U, hU⟩ : ∃ U, U = ctT conf := ⟨_, rfl⟩
      rw [← hU] at kc v1 hF
      have v2 := shortB_le U
      have v3 := shortB_le data
      have q1 : s.size + (shortB U).size ≤ 9223372036854775807 := by omega
      have q2 : (s ++ shortB U).size + (shortB data).size ≤ 9223372036854775807 := by rw [ByteArray.size_append]; omega
      simp only [Try.ntmps70, Try.results70, push_cast, Nat.reduceAdd, Nat.reduceSub, Nat.reduceMul, Nat.reduceLeDiff, Nat.reduceEqDiff, Nat.reduceLT, Int.reduceLT, Int.reduceLE, Int.reduceEq, Int.reduceNeg, Int.reduceToNat, hlt, ents_length]
      refine GoL_call rfl rfl kc rfl rfl ?_
      simp only [Try.ntmps70, Try.results70, push_cast, Nat.reduceAdd, Nat.reduceSub, Nat.reduceMul, Nat.reduceLeDiff, Nat.reduceEqDiff, Nat.reduceLT, Int.reduceLT, Int.reduceLE, Int.reduceEq, Int.reduceNeg, Int.reduceToNat]
      refine GoD_call rfl rfl (l05Short_ok U (by omega)) rfl rfl ?_
      simp only [Try.ntmps70, Try.results70, push_cast, Nat.reduceAdd, Nat.reduceSub, Nat.reduceMul, Nat.reduceLeDiff, Nat.reduceEqDiff, Nat.reduceLT, Int.reduceLT, Int.reduceLE, Int.reduceEq, Int.reduceNeg, Int.reduceToNat, q1]
      refine GoD_call rfl rfl (l05Short_ok data (by omega)) rfl rfl ?_
      simp only [Try.ntmps70, Try.results70, push_cast, Nat.reduceAdd, Nat.reduceSub, Nat.reduceMul, Nat.reduceLeDiff, Nat.reduceEqDiff, Nat.reduceLT, Int.reduceLT, Int.reduceLE, Int.reduceEq, Int.reduceNeg, Int.reduceToNat, q1, q2, hF]
end Go.Proofs.Ytadbfhgeekpdgaa
