/- ReadSnap: the code; its law. -/
import Derived.Test.YtennhlaibefacaaDoorW21
namespace Go.Proofs.YtennhlaibefacaaDoor
open Go.RowKit Go.Rx
set_option linter.unusedSimpArgs false
set_option maxRecDepth 100000

theorem sR_true {s : ByteArray} (h : sOk s = true) : sR s = [.agg ((zX (uT s) (!uB s)).enc (.own 1)), bo true] := by simp only [sR, h, if_true]
theorem sR_false {s : ByteArray} (h : sOk s = false) : sR s = snZ := by simp only [sR, h, Bool.false_eq_true, if_false]
theorem iR_true {s : ByteArray} (h : iOk s = true) : iR s = [.agg ((yX (uIn s) false).enc (.own 1)), bo true] := by simp only [iR, h, if_true]
theorem iR_false {s : ByteArray} (h : iOk s = false) : iR s = snZ := by simp only [iR, h, Bool.false_eq_true, if_false]
theorem uX_eq (s : ByteArray) : uX s = [st (uT s), bo (uB s)] := by
  unfold uX uT; cases uB s <;> rfl
theorem uT_size (s : ByteArray) : (uT s).size ≤ s.size := by
  unfold uT; cases uB s with
  | true => simp only [if_true]; rw [uIn_size]; omega
  | false => exact Nat.zero_le _
theorem rcX_eq (c : ByteArray) : rcX c = [.one (.own 1 (vR (ints (zConf c)))), bo (rcB c)] := by
  unfold rcX zConf; cases rcB c <;> rfl
theorem zConf_len (c : ByteArray) : (zConf c).length ≤ c.size := by
  unfold zConf
  split
  · rw [natsL_length]; exact Nat.le_refl _
  · exact Nat.zero_le _
theorem readSnapS_ok (s : ByteArray) (hs : s.size ≤ 140737488355328) : PureFn Tryd.prog 22 [st s] (sR s) := by
  refine PureFn_of_Go Tryd.func22 rfl (by decide) mo (by decide +kernel) ?_
  have ku := unsealedS_ok s hs
  rw [uX_eq] at ku
  have htl := Nat.le_trans (uT_size s) hs
  have hsO : sOk s = ((!zB4 (uT s) (!uB s) && snF (zX (uT s) (!uB s))) && decide (seB (snI (zX (uT s) (!uB s))) = s)) := rfl
  have hT : ∀ _ : sOk s = true, sR s = [.agg ((zX (uT s) (!uB s)).enc (.own 1)), bo true] := fun h => sR_true h
  obtain ⟨t, ht⟩ : ∃ t, t = uT s := ⟨_, rfl⟩
  obtain ⟨b, hb⟩ : ∃ b, b = (!uB s) := ⟨_, rfl⟩
  rw [← ht] at ku htl hsO hT
  rw [← hb] at hsO hT
  have k1 := l05Var_ok t htl 0 (Nat.zero_le _) b
  have k2 := l05Var_ok t htl (zA1 t b) (zA1_le t b) (zB1 t b)
  have k3 := l05ReadShort_ok t htl (zA2 t b) (zA2_le t b) (zB2 t b)
  have hcl : (zC t b).size ≤ 140737488355328 := Nat.le_trans (takeT_size _ _ _ _) htl
  have k4 := readConfS_ok (zC t b) hcl
  rw [rcX_eq] at k4
  have k5 := l05ReadShort_ok t htl (zA3 t b) (zA3_le t b) (zB3 t b)
  have k6 := snapTextS_ok (zX t b) (Nat.le_trans (zConf_len _) hcl)
  simp only [Tryd.ntmps22, Tryd.results22, push_cast, seval]
  refine GoL_call rfl rfl ku rfl rfl ?_
  simp only [Tryd.ntmps22, Tryd.results22, push_cast, seval, ← hb]
  refine GoL_io (0, 1216) .box 3 [sc t 0 b] rfl rfl rfl rfl (.inl rfl) rfl k1 rfl rfl ?_
  rw [show numA t 0 b = zA1 t b from rfl, show numB t 0 b = zB1 t b from rfl, show numN t 0 b = zI t b from rfl]
  simp only [Tryd.ntmps22, Tryd.results22, push_cast, seval, sc]
  refine GoL_io (0, 1216) .box 3 [sc t (zA1 t b) (zB1 t b)] rfl rfl rfl rfl (.inl rfl) rfl k2 rfl rfl ?_
  rw [show numA t (zA1 t b) (zB1 t b) = zA2 t b from rfl, show numB t (zA1 t b) (zB1 t b) = zB2 t b from rfl, show numN t (zA1 t b) (zB1 t b) = zT t b from rfl]
  simp only [Tryd.ntmps22, Tryd.results22, push_cast, seval, sc]
  refine GoL_io (0, 1216) .box 3 [sc t (zA2 t b) (zB2 t b)] rfl rfl rfl rfl (.inl rfl) rfl k3 rfl rfl ?_
  rw [show l5A t (zA2 t b) (zB2 t b) = zA3 t b from rfl, show l5B t (zA2 t b) (zB2 t b) = zB3 t b from rfl, show l5T t (zA2 t b) (zB2 t b) = zC t b from rfl]
  simp only [Tryd.ntmps22, Tryd.results22, push_cast, seval, sc]
  refine GoL_call rfl rfl k4 (by simp only [push_cast, seval]) rfl ?_
  simp only [Tryd.ntmps22, Tryd.results22, push_cast, seval, ints_length]
  refine GoL_io (0, 1216) .box 3 [sc t (zA3 t b) (zB3 t b)] rfl rfl rfl rfl (.inl rfl) rfl k5 rfl rfl ?_
  rw [show l5A t (zA3 t b) (zB3 t b) = zA4 t b from rfl, show l5B t (zA3 t b) (zB3 t b) = zB4 t b from rfl, show l5T t (zA3 t b) (zB3 t b) = zD t b from rfl]
  simp only [Tryd.ntmps22, Tryd.results22, push_cast, seval, sc]
  cases c2 : snF (zX t b) with
  | false =>
    rw [snX_false c2] at k6
    rw [sR_false (by rw [hsO, c2, Bool.and_false, Bool.false_and])]
    simp only [Snp.enc, zX] at k6
    refine GoL_call rfl (by simp only [push_cast, seval, ints_take]) k6 rfl rfl ?_
    cases c1 : zB4 t b with
    | true => simp only [Tryd.ntmps22, Tryd.results22, push_cast, seval, sc, snZ]
    | false => simp only [Tryd.ntmps22, Tryd.results22, push_cast, seval, sc, snZ]
  | true =>
    rw [snX_true c2] at k6
    obtain ⟨S, hS⟩ : ∃ S, S = seB (snI (zX t b)) := ⟨_, rfl⟩
    rw [← hS] at k6 hsO
    simp only [Snp.enc, zX] at k6
    refine GoL_call rfl (by simp only [push_cast, seval, ints_take]) k6 rfl rfl ?_
    cases c1 : zB4 t b with
    | true =>
      rw [sR_false (by rw [hsO, c1]; rfl)]
      simp only [Tryd.ntmps22, Tryd.results22, push_cast, seval, sc, snZ]
    | false =>
      cases c3 : decide (S = s) with
      | true =>
        rw [hT (by rw [hsO, c1, c2, c3]; rfl)]
        simp only [Tryd.ntmps22, Tryd.results22, push_cast, seval, sc, decide_not, c3, Snp.enc, zX, ints_length]
      | false =>
        rw [sR_false (by rw [hsO, c1, c2, c3]; rfl)]
        simp only [Tryd.ntmps22, Tryd.results22, push_cast, seval, sc, decide_not, c3, snZ]
set_option maxHeartbeats 4000000 in
theorem readSnapI_ok (s : ByteArray) (hs : s.size ≤ 140737488355328) : PureFn Tryd.prog 26 [st s] (sR s) := by
  rw [← iR_eq]
  refine PureFn_of_Go Tryd.func26 rfl (by decide) mo (by decide +kernel) ?_
  have ku := unsealedI_ok s hs
  simp only [Tryd.ntmps26, Tryd.results26, push_cast, seval]
  cases c0 : uB s with
  | false =>
    rw [uX_false c0] at ku
    rw [iR_false (by rw [iOk, c0]; rfl)]
    refine GoL_call rfl rfl ku rfl rfl ?_
    simp only [Tryd.ntmps26, Tryd.results26, push_cast, seval, snZ]
  | true =>
  rw [uX_true c0] at ku
  refine GoL_call rfl rfl ku rfl rfl ?_
  cases c1 : decide ((20000 : Int) < (s.size : Int)) with
  | true =>
    rw [iR_false (by rw [iOk, c0, c1]; rfl)]
    simp only [Tryd.ntmps26, Tryd.results26, push_cast, seval, c1, snZ]
  | false =>
  have hiO : iOk s = (((!yB4 (uIn s) false && decide ((yA4 (uIn s) false : Int) = ((uIn s).size : Int))) && !decide ((4 : Int) < ((yC (uIn s) false).size : Int))) && snF (yX (uIn s) false)) := by
    rw [iOk, c0, c1]; rfl
  have hiT : ∀ _ : iOk s = true, iR s = [.agg ((yX (uIn s) false).enc (.own 1)), bo true] := fun h => iR_true h
  have htl : (uIn s).size ≤ 140737488355328 := by rw [uIn_size]; omega
  obtain ⟨t, ht⟩ : ∃ t, t = uIn s := ⟨_, rfl⟩
  rw [← ht] at htl hiO hiT
  have k1 := number_ok t htl 0 false
  have k2 := number_ok t htl (zA1 t false) (zB1 t false)
  have k3 := short_ok t htl (zA2 t false) (zA2_le t false) (zB2 t false)
  have k4 := short_ok t htl (yA3 t false) (yA3_le t false) (yB3 t false)
  have k5 := done_ok t (yA4 t false) (yB4 t false)
  have hcl : (yC t false).size ≤ 140737488355328 := Nat.le_trans (takeT_size _ _ _ _) htl
  have k7 := snapTextI_ok (yX t false) (by show (natsL (yC t false)).length ≤ _; rw [natsL_length]; exact hcl)
  simp only [Tryd.ntmps26, Tryd.results26, push_cast, seval, c1, ← ht]
  refine GoL_io (0, 384) .box 3 [sc t 0 false] rfl rfl rfl rfl (.inl rfl) rfl k1 rfl rfl ?_
  rw [show numA t 0 false = zA1 t false from rfl, show numB t 0 false = zB1 t false from rfl, show numN t 0 false = zI t false from rfl]
  simp only [Tryd.ntmps26, Tryd.results26, push_cast, seval, sc]
  refine GoL_io (0, 384) .box 3 [sc t (zA1 t false) (zB1 t false)] rfl rfl rfl rfl (.inl rfl) rfl k2 rfl rfl ?_
  rw [show numA t (zA1 t false) (zB1 t false) = zA2 t false from rfl, show numB t (zA1 t false) (zB1 t false) = zB2 t false from rfl, show numN t (zA1 t false) (zB1 t false) = zT t false from rfl]
  simp only [Tryd.ntmps26, Tryd.results26, push_cast, seval, sc]
  refine GoL_io (0, 384) .box 3 [sc t (zA2 t false) (zB2 t false)] rfl rfl rfl rfl (.inl rfl) rfl k3 rfl rfl ?_
  rw [show shA t (zA2 t false) (zB2 t false) = yA3 t false from rfl, show shBB t (zA2 t false) (zB2 t false) = yB3 t false from rfl, show shT t (zA2 t false) (zB2 t false) = yC t false from rfl]
  simp only [Tryd.ntmps26, Tryd.results26, push_cast, seval, sc]
  refine GoL_io (0, 384) .box 3 [sc t (yA3 t false) (yB3 t false)] rfl rfl rfl rfl (.inl rfl) rfl k4 rfl rfl ?_
  rw [show shA t (yA3 t false) (yB3 t false) = yA4 t false from rfl, show shBB t (yA3 t false) (yB3 t false) = yB4 t false from rfl, show shT t (yA3 t false) (yB3 t false) = yD t false from rfl]
  simp only [Tryd.ntmps26, Tryd.results26, push_cast, seval, sc]
  refine GoL_io (0, 384) .box 3 [sc t (yA4 t false) (yB4 t false)] rfl rfl rfl rfl (.inl rfl) rfl k5 rfl rfl ?_
  cases c2 : (!yB4 t false && decide ((yA4 t false : Int) = (t.size : Int))) with
  | false =>
    rw [iR_false (by rw [hiO, c2]; rfl)]
    simp only [Tryd.ntmps26, Tryd.results26, push_cast, seval, sc, snZ]
  | true =>
  cases c3 : decide ((4 : Int) < ((yC t false).size : Int)) with
  | true =>
    rw [iR_false (by rw [hiO, c2, c3]; rfl)]
    simp only [Tryd.ntmps26, Tryd.results26, push_cast, seval, sc, c3, snZ]
  | false =>
  have k6 := numbers_ok (yC t false) (by simp only [decide_eq_false_iff_not] at c3; omega)
  simp only [Tryd.ntmps26, Tryd.results26, push_cast, seval, sc, c3]
  refine GoL_call rfl rfl k6 (by simp only [push_cast, seval]) rfl ?_
  simp only [Tryd.ntmps26, Tryd.results26, push_cast, seval, ints_length]
  cases c4 : snF (yX t false) with
  | false =>
    rw [snX_false c4] at k7
    rw [iR_false (by rw [hiO, c2, c3, c4]; rfl)]
    simp only [Snp.enc, yX] at k7
    refine GoL_call rfl (by simp only [push_cast, seval, ints_take]) k7 rfl rfl ?_
    simp only [Tryd.ntmps26, Tryd.results26, push_cast, seval, snZ]
  | true =>
    rw [snX_true c4] at k7
    rw [hiT (by rw [hiO, c2, c3, c4]; rfl)]
    obtain ⟨S, hS⟩ : ∃ S, S = seB (snI (yX t false)) := ⟨_, rfl⟩
    rw [← hS] at k7
    simp only [Snp.enc, yX] at k7
    refine GoL_call rfl (by simp only [push_cast, seval, ints_take]) k7 rfl rfl ?_
    simp only [Tryd.ntmps26, Tryd.results26, push_cast, seval, Snp.enc, yX, ints_length]

/-! ### the law -/
theorem eqIntS_nil : PureFn Tryd.prog 27 [.one (.v (.slice none 0 0)), .one (.v (.slice none 0 0))] [bo true] := by
  refine PureFn_of_Go Tryd.func27 rfl (by decide) mo (by decide +kernel) ?_
  simp only [Tryd.ntmps27, Tryd.results27, push_cast, seval]
  refine Go_loop (α := Unit) (fun _ => ⟨tp 26 [(0, .x (.one (.v (.slice none 0 0)))), (1, .x (.one (.v (.slice none 0 0)))), (5, int 0)], 0, [], []⟩) (fun _ => 0) () ?_ ?_
  · exact Weak.same (by simp only [push_cast, seval])
  · rintro _ X hX
    simp only [Tryd.ntmps27, Tryd.results27, push_cast, seval]
theorem eqSnap_ok (x : Snp) (h : x.conf.length ≤ 1048576) : PureFn Tryd.prog 9 [.agg (x.enc (.sh 1)), .agg (x.enc (.sh 1))] [bo true] := by
  refine PureFn_of_Go Tryd.func9 rfl (by decide) mo (by decide +kernel) ?_
  have k := eqIntS_ok x.conf h
  simp only [Tryd.ntmps9, Tryd.results9, push_cast, seval, Snp.enc]
  refine GoL_call rfl rfl k rfl rfl ?_
  simp only [Tryd.ntmps9, Tryd.results9, push_cast, seval]
theorem eqSnap_nil (i t : Int) (s : ByteArray) : PureFn Tryd.prog 9 [.agg [.v (.int .i64 i), .v (.int .i64 t), .v (.slice none 0 0), .v (.string s)], .agg [.v (.int .i64 i), .v (.int .i64 t), .v (.slice none 0 0), .v (.string s)]] [bo true] := by
  refine PureFn_of_Go Tryd.func9 rfl (by decide) mo (by decide +kernel) ?_
  simp only [Tryd.ntmps9, Tryd.results9, push_cast, seval]
  refine GoL_call rfl rfl eqIntS_nil rfl rfl ?_
  simp only [Tryd.ntmps9, Tryd.results9, push_cast, seval]
def iotaL (k n : Nat) : List Int := (List.range n).map fun j => ((k + j : Nat) : Int)
theorem iotaL_length (k n : Nat) : (iotaL k n).length = n := by simp [iotaL]
theorem iotaL_getD (k : Nat) {n i : Nat} (h : i < n) : at_ (iotaL k n) i = ((k + i : Nat) : Int) := by
  simp [at_, iotaL, List.getD_eq_getElem?_getD, List.getElem?_map, h]
theorem markIntS_ok (l : List Int) (hl : l.length ≤ 1073741824) (k : Nat) (hk2 : k ≤ 1073741824) (e : Nat) (he : e = k + l.length) :
    IoFn Tryd.prog 30 .sl 1 (ints l) [i64 k] (ints (iotaL k l.length)) [i64 e] := by
  have hm : ints (iotaL k l.length) = mix (fun j => [.int .i64 ((k + j : Nat) : Int)]) (ints l) l.length := by
    have := mix_all (fun j => [.int .i64 ((k + j : Nat) : Int)]) (ints l)
    rw [ints_length] at this
    rw [this, ints, iotaL, List.map_map]; rfl
  have hlen : (ints (iotaL k l.length)).length = (ints l).length := by rw [ints_length, ints_length, iotaL_length]
  refine IoFn_of_Go Tryd.func30 rfl (by decide) mo (by decide +kernel) (ioOk_sl (fun x => [Value.int .i64 x]) (fun _ => rfl) l) (ioOk_sl (fun x => [Value.int .i64 x]) (fun _ => rfl) (iotaL k l.length)) rfl hlen ?_
  rw [hm]
  simp only [Tryd.ntmps30, Tryd.results30, push_cast, seval, ints_length]
  refine Go_loop (α := {i : Nat // i ≤ l.length})
    (fun i => ⟨tp 19 [(0, .x (.one (.rs (0, 1) [] 1 0 l.length))), (1, int (k + i.1 : Nat)), (5, int i.1)], 1, [], [((0, 1), ⟨.sl, 1, vR (mix (fun j => [.int .i64 ((k + j : Nat) : Int)]) (ints l) i.1)⟩)]⟩) (fun i => l.length - i.1) ⟨0, by omega⟩ ?_ ?_
  · rw [mix_zero]
    exact Weak.same (by simp only [push_cast, seval, Int.ofNat_zero, Int.add_zero, Nat.add_zero])
  · rintro ⟨i, hi⟩ X hX
    obtain ⟨m, hmk⟩ : ∃ m, m = k + i := ⟨_, rfl⟩
    simp only
    rw [← hmk]
    by_cases hlt : (i : Int) < (l.length : Int)
    · have hi' : i < l.length := by omega
      have ws := wsucc hi' (by omega)
      have ws2 : IntKind.i64.wrap ((m : Int) + 1) = ((m + 1 : Nat) : Int) := wN (by omega) (by omega)
      obtain ⟨i', hi1⟩ : ∃ i', i' = i + 1 := ⟨_, rfl⟩
      obtain ⟨m', hm1⟩ : ∃ m', m' = m + 1 := ⟨_, rfl⟩
      rw [← hi1] at ws
      rw [← hm1] at ws2
      have his : i < (ints l).length := by rw [ints_length]; exact hi'
      have hmix := mix_length (fun j => [Value.int .i64 ((k + j : Nat) : Int)]) (ints l) (Nat.le_of_lt his)
      rw [ints_length] at hmix
      have hg := vR_mix_getD (fun j => [.int .i64 ((k + j : Nat) : Int)]) (ints l) his
      rw [ints_getD l hi'] at hg
      have hset := mix_set (fun j => [.int .i64 ((k + j : Nat) : Int)]) (ints l) his
      rw [← hi1, ← hmk] at hset
      simp only [List.map_cons, List.map_nil] at hg hset
      obtain ⟨F, hF⟩ : ∃ F : Nat → List Value, F = fun j => [.int .i64 ((k + j : Nat) : Int)] := ⟨_, rfl⟩
      rw [← hF] at hmix hg hset hX ⊢
      simp only [push_cast, seval, hlt, hi', hmix, hg, hset, ws, ws2]
      refine ⟨_, ?_, hX ⟨i', by omega⟩ (by simp only; omega)⟩
      have hmm : m' = k + i' := by omega
      simp only [← hmm]
      exact Weak.same (by simp only [push_cast, seval])
    · have hii : i = l.length := by omega
      have hfin : e = m := by rw [he, hmk, hii]
      subst hfin
      simp only [hii] at hlt ⊢
      simp only [Tryd.ntmps30, Tryd.results30, push_cast, seval, hlt]
theorem markSnap_ok (i t : Int) (s : ByteArray) (l : List Int) (hl : l.length ≤ 1073741824) (k : Nat) (hk2 : k ≤ 1073741824) (e : Nat) (he : e = k + l.length) :
    IoFn2 Tryd.prog 12 .sl 1 (ints l) [.agg [.v (.int .i64 i), .v (.int .i64 t), .rs ioR [] 1 0 l.length, .v (.string s)], i64 k] (ints (iotaL k l.length)) [i64 e] := by
  have hlen : (ints (iotaL k l.length)).length = (ints l).length := by rw [ints_length, ints_length, iotaL_length]
  refine IoFn2_of_Go Tryd.func12 rfl (by decide) mo (by decide +kernel) (ioOk_sl (fun x => [Value.int .i64 x]) (fun _ => rfl) l) (ioOk_sl (fun x => [Value.int .i64 x]) (fun _ => rfl) (iotaL k l.length)) hlen ?_
  have km := markIntS_ok l hl k hk2 e he
  simp only [Tryd.ntmps12, Tryd.results12, push_cast, seval]
  refine GoL_io (0, 1) .sl 1 (ints l) rfl rfl (by rw [ints_length]; rfl) rfl (.inr rfl) rfl km rfl rfl ?_
  simp only [Tryd.ntmps12, Tryd.results12, push_cast, seval]
theorem heldIntS_ok (k n : Nat) (hn : n ≤ 1073741824) (hk2 : k ≤ 1073741824) (e : Nat) (he : e = k + n) :
    PureFn Tryd.prog 31 [.one (.sh 1 (vR (ints (iotaL k n)))), i64 k] [i64 e] := by
  refine PureFn_of_Go Tryd.func31 rfl (by decide) mo (by decide +kernel) ?_
  simp only [Tryd.ntmps31, Tryd.results31, push_cast, seval, ints_length, iotaL_length]
  refine Go_loop (α := {i : Nat // i ≤ n})
    (fun i => ⟨tp 21 [(0, .x (.one (.sh 1 (vR (ints (iotaL k n)))))), (1, int (k + i.1 : Nat)), (5, int i.1)], 0, [], []⟩) (fun i => n - i.1) ⟨0, by omega⟩ ?_ ?_
  · exact Weak.same (by simp only [push_cast, seval, Int.ofNat_zero, Int.add_zero, Nat.add_zero])
  · rintro ⟨i, hi⟩ X hX
    obtain ⟨m, hmk⟩ : ∃ m, m = k + i := ⟨_, rfl⟩
    simp only
    rw [← hmk]
    by_cases hlt : (i : Int) < (n : Int)
    · have hi' : i < n := by omega
      have ws := wsucc hi' (by omega)
      have ws2 : IntKind.i64.wrap ((m : Int) + 1) = ((m + 1 : Nat) : Int) := wN (by omega) (by omega)
      obtain ⟨i', hi1⟩ : ∃ i', i' = i + 1 := ⟨_, rfl⟩
      obtain ⟨m', hm1⟩ : ∃ m', m' = m + 1 := ⟨_, rfl⟩
      rw [← hi1] at ws
      rw [← hm1] at ws2
      have hg := ints_getD (iotaL k n) (i := i) (by rw [iotaL_length]; exact hi')
      rw [show (iotaL k n).getD i default = at_ (iotaL k n) i from rfl, iotaL_getD k hi', ← hmk] at hg
      simp only [push_cast, seval, ints_length, iotaL_length, hlt, hi', vR_getD, hg, ws, ws2]
      refine ⟨_, ?_, hX ⟨i', by omega⟩ (by simp only; omega)⟩
      have hmm : m' = k + i' := by omega
      simp only [← hmm]
      exact Weak.same (by simp only [push_cast, seval])
    · have hii : i = n := by omega
      have hfin : e = m := by rw [he, hmk, hii]
      subst hfin
      simp only [Tryd.ntmps31, Tryd.results31, push_cast, seval, ints_length, iotaL_length, hlt]
theorem heldSnap_ok (i t : Int) (s : ByteArray) (k n : Nat) (hn : n ≤ 1073741824) (hk2 : k ≤ 1073741824) (e : Nat) (he : e = k + n) :
    PureFn Tryd.prog 13 [.agg [.v (.int .i64 i), .v (.int .i64 t), .sh 1 (vR (ints (iotaL k n))), .v (.string s)], i64 k] [i64 e] := by
  refine PureFn_of_Go Tryd.func13 rfl (by decide) mo (by decide +kernel) ?_
  have kh := heldIntS_ok k n hn hk2 e he
  have h0 : ¬ ((e : Int) < 0) := by omega
  simp only [Tryd.ntmps13, Tryd.results13, push_cast, seval]
  refine GoL_call rfl rfl kh rfl rfl ?_
  simp only [Tryd.ntmps13, Tryd.results13, push_cast, seval, h0]
theorem markIntS_nil (k : Int) : PureFn Tryd.prog 30 [.one (.v (.slice none 0 0)), i64 k] [i64 k] := by
  refine PureFn_of_Go Tryd.func30 rfl (by decide) mo (by decide +kernel) ?_
  simp only [Tryd.ntmps30, Tryd.results30, push_cast, seval]
  refine Go_loop (α := Unit) (fun _ => ⟨tp 19 [(0, .x (.one (.v (.slice none 0 0)))), (1, int k), (5, int 0)], 0, [], []⟩) (fun _ => 0) () ?_ ?_
  · exact Weak.same (by simp only [push_cast, seval])
  · rintro _ X hX
    simp only [Tryd.ntmps30, Tryd.results30, push_cast, seval]
theorem heldIntS_nil (k : Int) : PureFn Tryd.prog 31 [.one (.v (.slice none 0 0)), i64 k] [i64 k] := by
  refine PureFn_of_Go Tryd.func31 rfl (by decide) mo (by decide +kernel) ?_
  simp only [Tryd.ntmps31, Tryd.results31, push_cast, seval]
  refine Go_loop (α := Unit) (fun _ => ⟨tp 21 [(0, .x (.one (.v (.slice none 0 0)))), (1, int k), (5, int 0)], 0, [], []⟩) (fun _ => 0) () ?_ ?_
  · exact Weak.same (by simp only [push_cast, seval])
  · rintro _ X hX
    simp only [Tryd.ntmps31, Tryd.results31, push_cast, seval]
theorem markSnap_nil (i t k : Int) (s : ByteArray) : PureFn Tryd.prog 12 [.agg [.v (.int .i64 i), .v (.int .i64 t), .v (.slice none 0 0), .v (.string s)], i64 k] [i64 k] := by
  refine PureFn_of_Go Tryd.func12 rfl (by decide) mo (by decide +kernel) ?_
  simp only [Tryd.ntmps12, Tryd.results12, push_cast, seval]
  refine GoL_call rfl rfl (markIntS_nil k) rfl rfl ?_
  simp only [Tryd.ntmps12, Tryd.results12, push_cast, seval]
theorem heldSnap_nil (i t k : Int) (s : ByteArray) (hk : 0 ≤ k) : PureFn Tryd.prog 13 [.agg [.v (.int .i64 i), .v (.int .i64 t), .v (.slice none 0 0), .v (.string s)], i64 k] [i64 k] := by
  refine PureFn_of_Go Tryd.func13 rfl (by decide) mo (by decide +kernel) ?_
  have h0 : ¬ (k < 0) := by omega
  simp only [Tryd.ntmps13, Tryd.results13, push_cast, seval]
  refine GoL_call rfl rfl (heldIntS_nil k) rfl rfl ?_
  simp only [Tryd.ntmps13, Tryd.results13, push_cast, seval, h0]
theorem sR_form (s : ByteArray) : (∃ x : Snp, x.conf.length ≤ 4 ∧ sR s = [.agg (x.enc (.own 1)), bo true]) ∨ sR s = snZ := by
  cases h : sOk s with
  | true =>
    refine .inl ⟨_, ?_, sR_true h⟩
    simp only [sOk, Bool.and_eq_true] at h
    exact confB_len (sOk_conf h.1.2).1
  | false => exact .inr (sR_false h)
end Go.Proofs.YtennhlaibefacaaDoor

