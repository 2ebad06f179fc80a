/- Snapshots' texts: by their code. -/
import Derived.Test.YtennhlaibefacaaDoorW19
namespace Go.Proofs.YtennhlaibefacaaDoor
open Go.RowKit Go.Rx
set_option linter.unusedSimpArgs false
set_option maxRecDepth 100000

theorem varB_le (n : Nat) : (varB n).size ≤ n + 1 := varB_size n
theorem shortB_le (t : ByteArray) : (shortB t).size ≤ 2 * t.size + 1 := by
  unfold shortB; rw [ByteArray.size_append]; have := varB_size t.size; omega
theorem shortText_ok (t : ByteArray) (ht : t.size ≤ 4000000000) : PureFn Tryd.prog 80 [st t] [st (shortB t)] := by
  refine PureFn_of_Go Tryd.func80 rfl (by decide) mo (by decide +kernel) ?_
  simp only [Tryd.ntmps80, Tryd.results80, push_cast, seval]
  refine GoL_call rfl rfl (varText_ok t.size (by omega)) rfl rfl ?_
  have h1 := varB_size t.size
  have h2 : (varB t.size).size + t.size ≤ 9223372036854775807 := by omega
  simp only [Tryd.ntmps80, Tryd.results80, push_cast, seval, h2, shortB]
theorem l05Short_ok (t : ByteArray) (ht : t.size ≤ 4000000000) : PureFn Tryd.prog 69 [st t] [st (shortB t)] := by
  refine PureFn_of_Go Tryd.func69 rfl (by decide) mo (by decide +kernel) ?_
  simp only [Tryd.ntmps69, Tryd.results69, push_cast, seval]
  refine GoL_call rfl rfl (l01Var_ok t.size (by omega)) rfl rfl ?_
  have h1 := varB_size t.size
  have h2 : (varB t.size).size + t.size ≤ 9223372036854775807 := by omega
  simp only [Tryd.ntmps69, Tryd.results69, push_cast, seval, h2, shortB]
def ctX (l : List Int) : List X := if confB l then [st (octB l), bo true] else [st ⟨#[]⟩, bo false]
theorem confB_len {l : List Int} (h : confB l = true) : l.length ≤ 4 := by
  simp only [confB, Bool.and_eq_true, decide_eq_true_eq] at h; exact rise_len h.2
theorem confTextS_ok (l : List Int) (hl : l.length ≤ 140737488355328) : PureFn Tryd.prog 67 [.one (.sh 1 (vR (ints l)))] (ctX l) := by
  refine PureFn_of_Go Tryd.func67 rfl (by decide) mo (by decide +kernel) ?_
  have kc := confOkS_ok l hl
  unfold ctX
  cases c : confB l with
  | false =>
    rw [c] at kc
    simp only [Tryd.ntmps67, Tryd.results67, push_cast, seval]
    refine GoL_call rfl rfl kc rfl rfl ?_
    simp only [Tryd.ntmps67, Tryd.results67, push_cast, seval, Bool.false_eq_true]
  | true =>
  rw [c] at kc
  have hl4 := confB_len c
  simp only [Tryd.ntmps67, Tryd.results67, push_cast, seval]
  refine GoL_call rfl rfl kc rfl rfl ?_
  obtain ⟨F, hF⟩ : ∃ F, F = l.map oct8 := ⟨_, rfl⟩
  have hFl : F.length = l.length := by rw [hF, List.length_map]
  have hfin : (⟨F.toArray⟩ : ByteArray) = octB l := by rw [hF]; rfl
  simp only [Tryd.ntmps67, Tryd.results67, push_cast, seval, ints_length]
  refine Go_loop (α := {i : Nat // i ≤ l.length})
    (fun i => ⟨tp 26 [(0, .x (.one (.sh 1 (vR (ints l))))), (4, .x (.one (.rs (0, 1472) [] 1 0 i.1))), (5, int i.1)], 0, [((0, 1472), ⟨.sl, 1, byR (F.take i.1)⟩)], []⟩) (fun i => l.length - i.1) ⟨0, by omega⟩ ?_ ?_
  · refine Weak.trans (Weak.rename (0, 576) (0, 1472) rfl rfl (by decide) rfl) ?_
    simp only [push_cast, seval, List.take_zero, byR_nil]
    exact Weak.same (by simp only [push_cast, seval, Int.ofNat_zero, byR_nil])
  · rintro ⟨i, hi⟩ X hX
    have hll : (byR (F.take i)).length = i := by rw [byR_length, List.length_take, hFl]; omega
    by_cases hlt : (i : Int) < (l.length : Int)
    · have hi' : i < l.length := by omega
      have ws := wsucc hi' (by omega)
      have hg := ints_getD l hi'
      rw [show l.getD i default = at_ l i from rfl] at hg
      have hw := oct8_wrap (at_ l i)
      have a0 : i + 1 ≤ 4294967296 := by omega
      have a1 := max_len a0
      have a2 := room_le (b := 1) a0 (by decide)
      have s1 := byR_snoc (F.take i) (oct8 (at_ l i))
      have e1 : F.take i ++ [oct8 (at_ l i)] = F.take (i + 1) := by rw [hF, oct_take l hi']
      rw [e1] at s1
      obtain ⟨y, hy⟩ : ∃ y, y = oct8 (at_ l i) := ⟨_, rfl⟩
      rw [← hy] at hw s1
      obtain ⟨x, hx⟩ : ∃ x, x = at_ l i := ⟨_, rfl⟩
      rw [← hx] at hg hw
      obtain ⟨i', hi1⟩ : ∃ i', i' = i + 1 := ⟨_, rfl⟩
      rw [← hi1] at ws s1
      simp only [push_cast, seval, ints_length, hlt, hi', vR_getD, hg, hw, hll, a1, a2, s1, ws]
      refine ⟨_, ?_, hX ⟨i', by omega⟩ (by simp only; omega)⟩
      exact Weak.drop (by simp only [push_cast, seval, hi1]) (by simp only [push_cast, seval, hi1]) (by simp only [push_cast, seval, hi1])
    · have hie : i = l.length := by omega
      have hft : F.take i = F := List.take_of_length_le (by rw [hFl, hie]; exact Nat.le_refl _)
      rw [hft] at hll
      have ht := byR_take F
      rw [byR_length] at hll
      rw [hll] at ht
      simp only [hft]
      simp only [Tryd.ntmps67, Tryd.results67, push_cast, seval, ints_length, hlt, hll, ht, byR_length, hfin]

/-! ### snapshots -/
structure Snp where
  idx : Int
  term : Int
  conf : List Int
  body : ByteArray
def Snp.enc (f : List (List C) → C) (x : Snp) : List C := [.v (.int .i64 x.idx), .v (.int .i64 x.term), f (vR (ints x.conf)), .v (.string x.body)]
def snB (x : Snp) : Bool := ((inR x.idx 0 1000000 && inR x.term 0 100000) && confB x.conf) && !decide ((20000 : Int) < (x.body.size : Int))
def snI (x : Snp) : ByteArray := ((varB x.idx.toNat ++ varB x.term.toNat) ++ shortB (octB x.conf)) ++ shortB x.body
def snF (x : Snp) : Bool := snB x && !decide ((20000 : Int) < ((snI x).size : Int) + 4)
def snX (x : Snp) : List X := if snF x then [st (seB (snI x)), bo true] else [st ⟨#[]⟩, bo false]
theorem snX_true {x : Snp} (h : snF x = true) : snX x = [st (seB (snI x)), bo true] := by simp only [snX, h, if_true]
theorem snX_false {x : Snp} (h : snF x = false) : snX x = [st ⟨#[]⟩, bo false] := by simp only [snX, h, Bool.false_eq_true, if_false]
theorem inR_nat {n b : Int} (h : inR n 0 b = true) : ∃ m : Nat, n = (m : Int) ∧ (m : Int) ≤ b := by
  obtain ⟨h1, h2⟩ := inR_spec.1 h
  obtain ⟨m, rfl⟩ := Int.eq_ofNat_of_zero_le h1
  exact ⟨m, rfl, h2⟩
theorem snapTextI_ok (x : Snp) (hc : x.conf.length ≤ 140737488355328) : PureFn Tryd.prog 57 [.agg (x.enc (.sh 1))] (snX x) := by
  refine PureFn_of_Go Tryd.func57 rfl (by decide) mo (by decide +kernel) ?_
  obtain ⟨idx, term, conf, body⟩ := x
  have k1 := isIndex_ok idx
  have k2 := isTerm_ok term
  have k3 := confOkI_ok conf hc
  simp only [Tryd.ntmps57, Tryd.results57, push_cast, seval, Snp.enc]
  refine GoL_call rfl rfl k1 rfl rfl ?_
  cases c1 : inR idx 0 1000000 with
  | false => rw [snX_false (by rw [snF, snB, c1]; rfl)]; simp only [Tryd.ntmps57, Tryd.results57, push_cast, seval]
  | true =>
  simp only [Tryd.ntmps57, Tryd.results57, push_cast, seval]
  refine GoL_call rfl rfl k2 rfl rfl ?_
  cases c2 : inR term 0 100000 with
  | false => rw [snX_false (by rw [snF, snB, c1, c2]; rfl)]; simp only [Tryd.ntmps57, Tryd.results57, push_cast, seval]
  | true =>
  simp only [Tryd.ntmps57, Tryd.results57, push_cast, seval]
  refine GoL_call rfl rfl k3 rfl rfl ?_
  cases c3 : confB conf with
  | false => rw [snX_false (by rw [snF, snB, c1, c2, c3]; rfl)]; simp only [Tryd.ntmps57, Tryd.results57, push_cast, seval]
  | true =>
  cases c4 : decide ((20000 : Int) < (body.size : Int)) with
  | true => rw [snX_false (by rw [snF, snB, c1, c2, c3, c4]; rfl)]; simp only [Tryd.ntmps57, Tryd.results57, push_cast, seval, c4]
  | false =>
  obtain ⟨i, rfl, hi⟩ := inR_nat c1
  obtain ⟨t, rfl, ht⟩ := inR_nat c2
  have hl4 := confB_len c3
  have hb : body.size ≤ 20000 := by simp only [decide_eq_false_iff_not] at c4; omega
  have ho := octB_size conf
  have s1 := varB_size i
  have s2 := varB_size t
  have s3 := shortB_le (octB conf)
  have s4 := shortB_le body
  have r1 : (varB i).size + (varB t).size ≤ 9223372036854775807 := by omega
  have r2 : (varB i ++ varB t).size + (shortB (octB conf)).size ≤ 9223372036854775807 := by simp only [ByteArray.size_append]; omega
  have r3 : ((varB i ++ varB t) ++ shortB (octB conf)).size + (shortB body).size ≤ 9223372036854775807 := by simp only [ByteArray.size_append]; omega
  have kS := sealedI_ok (((varB i ++ varB t) ++ shortB (octB conf)) ++ shortB body) (by simp only [ByteArray.size_append]; omega)
  have hF : snF ⟨(i : Int), (t : Int), conf, body⟩ = !decide ((20000 : Int) < ((((varB i ++ varB t) ++ shortB (octB conf)) ++ shortB body).size : Int) + 4) := by
    rw [snF, snB, c1, c2, c3, c4]; rfl
  have hI : snI ⟨(i : Int), (t : Int), conf, body⟩ = ((varB i ++ varB t) ++ shortB (octB conf)) ++ shortB body := rfl
  simp only [Tryd.ntmps57, Tryd.results57, push_cast, seval, c4]
  refine GoD_call rfl rfl (varText_ok i (by omega)) rfl rfl ?_
  simp only [Tryd.ntmps57, Tryd.results57, push_cast, seval]
  refine GoD_call rfl rfl (varText_ok t (by omega)) rfl rfl ?_
  simp only [Tryd.ntmps57, Tryd.results57, push_cast, seval, r1]
  refine GoD_call rfl rfl (octets_ok conf (by omega)) rfl rfl ?_
  simp only [Tryd.ntmps57, Tryd.results57, push_cast, seval]
  refine GoD_call rfl rfl (shortText_ok (octB conf) (by omega)) rfl rfl ?_
  simp only [Tryd.ntmps57, Tryd.results57, push_cast, seval, r2]
  refine GoD_call rfl rfl (shortText_ok body (by omega)) rfl rfl ?_
  simp only [Tryd.ntmps57, Tryd.results57, push_cast, seval, r3]
  obtain ⟨T, hT⟩ : ∃ T, T = ((varB i ++ varB t) ++ shortB (octB conf)) ++ shortB body := ⟨_, rfl⟩
  rw [← hT] at kS hF hI ⊢
  have hsz := seB_size T
  unfold seX at kS
  cases d : decide ((20000 : Int) < (T.size : Int)) with
  | true =>
    have d2 : decide ((20000 : Int) < (T.size : Int) + 4) = true := by simp only [decide_eq_true_eq] at d ⊢; omega
    rw [snX_false (by rw [hF, d2]; rfl)]
    simp only [d, if_true] at kS
    refine GoD_call rfl rfl kS rfl rfl ?_
    simp only [Tryd.ntmps57, Tryd.results57, push_cast, seval]
  | false =>
    simp only [d, Bool.false_eq_true, if_false] at kS
    refine GoD_call rfl rfl kS rfl rfl ?_
    cases d2 : decide ((20000 : Int) < (T.size : Int) + 4) with
    | true =>
      have d3 : decide ((20000 : Int) < ((seB T).size : Int)) = true := by simp only [decide_eq_true_eq] at d2 ⊢; omega
      rw [snX_false (by rw [hF, d2]; rfl)]
      simp only [Tryd.ntmps57, Tryd.results57, push_cast, seval, d3]
    | false =>
      have d3 : decide ((20000 : Int) < ((seB T).size : Int)) = false := by simp only [decide_eq_false_iff_not] at d2 ⊢; omega
      rw [snX_true (by rw [hF, d2]; rfl), hI]
      simp only [Tryd.ntmps57, Tryd.results57, push_cast, seval, d3]
theorem snapTextS_ok (x : Snp) (hc : x.conf.length ≤ 140737488355328) : PureFn Tryd.prog 46 [.agg (x.enc (.sh 1))] (snX x) := by
  refine PureFn_of_Go Tryd.func46 rfl (by decide) mo (by decide +kernel) ?_
  obtain ⟨idx, term, conf, body⟩ := x
  have k1 := l01In_ok idx 0 1000000
  have k2 := l01In_ok term 0 100000
  have k3 := confTextS_ok conf hc
  rw [show (decide (0 ≤ idx) && decide (idx ≤ 1000000)) = inR idx 0 1000000 from rfl] at k1
  rw [show (decide (0 ≤ term) && decide (term ≤ 100000)) = inR term 0 100000 from rfl] at k2
  unfold ctX at k3
  simp only [Tryd.ntmps46, Tryd.results46, push_cast, seval, Snp.enc]
  cases c3 : confB conf with
  | false =>
    rw [snX_false (by rw [snF, snB, c3, Bool.and_false, Bool.false_and, Bool.false_and])]
    rw [c3] at k3
    simp only [Bool.false_eq_true, if_false] at k3
    refine GoL_call rfl rfl k3 rfl rfl ?_
    simp only [Tryd.ntmps46, Tryd.results46, push_cast, seval]
  | true =>
  rw [c3] at k3
  simp only [if_true] at k3
  refine GoL_call rfl rfl k3 rfl rfl ?_
  simp only [Tryd.ntmps46, Tryd.results46, push_cast, seval]
  refine GoL_call rfl rfl k1 rfl rfl ?_
  cases c1 : inR idx 0 1000000 with
  | false => rw [snX_false (by rw [snF, snB, c1]; rfl)]; simp only [Tryd.ntmps46, Tryd.results46, push_cast, seval]
  | true =>
  simp only [Tryd.ntmps46, Tryd.results46, push_cast, seval]
  refine GoL_call rfl rfl k2 rfl rfl ?_
  cases c2 : inR term 0 100000 with
  | false => rw [snX_false (by rw [snF, snB, c1, c2]; rfl)]; simp only [Tryd.ntmps46, Tryd.results46, push_cast, seval]
  | true =>
  cases c4 : decide ((20000 : Int) < (body.size : Int)) with
  | true => rw [snX_false (by rw [snF, snB, c1, c2, c3, c4]; rfl)]; simp only [Tryd.ntmps46, Tryd.results46, push_cast, seval, c4]
  | false =>
  obtain ⟨i, rfl, hi⟩ := inR_nat c1
  obtain ⟨t, rfl, ht⟩ := inR_nat c2
  have hl4 := confB_len c3
  have hb : body.size ≤ 20000 := by simp only [decide_eq_false_iff_not] at c4; omega
  have ho := octB_size conf
  have s1 := varB_size i
  have s2 := varB_size t
  have s3 := shortB_le (octB conf)
  have s4 := shortB_le body
  have r1 : (varB i).size + (varB t).size ≤ 9223372036854775807 := by omega
  have r2 : (varB i ++ varB t).size + (shortB (octB conf)).size ≤ 9223372036854775807 := by simp only [ByteArray.size_append]; omega
  have r3 : ((varB i ++ varB t) ++ shortB (octB conf)).size + (shortB body).size ≤ 9223372036854775807 := by simp only [ByteArray.size_append]; omega
  have kl : (((varB i ++ varB t) ++ shortB (octB conf)) ++ shortB body).size ≤ 1000000000 := by simp only [ByteArray.size_append]; omega
  have hF : snF ⟨(i : Int), (t : Int), conf, body⟩ = !decide ((20000 : Int) < ((((varB i ++ varB t) ++ shortB (octB conf)) ++ shortB body).size : Int) + 4) := by
    rw [snF, snB, c1, c2, c3, c4]; rfl
  have hI : snI ⟨(i : Int), (t : Int), conf, body⟩ = ((varB i ++ varB t) ++ shortB (octB conf)) ++ shortB body := rfl
  simp only [Tryd.ntmps46, Tryd.results46, push_cast, seval, c4]
  refine GoD_call rfl rfl (l01Var_ok i (by omega)) rfl rfl ?_
  simp only [Tryd.ntmps46, Tryd.results46, push_cast, seval]
  refine GoD_call rfl rfl (l01Var_ok t (by omega)) rfl rfl ?_
  simp only [Tryd.ntmps46, Tryd.results46, push_cast, seval, r1]
  refine GoD_call rfl rfl (l05Short_ok (octB conf) (by omega)) rfl rfl ?_
  simp only [Tryd.ntmps46, Tryd.results46, push_cast, seval, r2]
  refine GoD_call rfl rfl (l05Short_ok body (by omega)) rfl rfl ?_
  obtain ⟨T, hT⟩ : ∃ T, T = ((varB i ++ varB t) ++ shortB (octB conf)) ++ shortB body := ⟨_, rfl⟩
  rw [← hT] at kl hF hI
  have w := w64 (n := (T.size : Int) + 4) (by omega) (by omega)
  have kS := sealedS_ok T (by omega)
  unfold seX at kS
  cases d2 : decide ((20000 : Int) < (T.size : Int) + 4) with
  | true =>
    rw [snX_false (by rw [hF, d2]; rfl)]
    simp only [Tryd.ntmps46, Tryd.results46, push_cast, seval, r3, ← hT, w, d2]
  | false =>
    rw [snX_true (by rw [hF, d2]; rfl), hI]
    have d : decide ((20000 : Int) < (T.size : Int)) = false := by simp only [decide_eq_false_iff_not] at d2 ⊢; omega
    simp only [d, Bool.false_eq_true, if_false] at kS
    simp only [Tryd.ntmps46, Tryd.results46, push_cast, seval, r3, ← hT, w, d2]
    refine GoL_call rfl rfl kS rfl rfl ?_
    simp only [Tryd.ntmps46, Tryd.results46, push_cast, seval]
end Go.Proofs.YtennhlaibefacaaDoor

