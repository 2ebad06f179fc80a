/- Leaders: sizes, conversions, equality. -/
import Derived.Test.YtcdjpfikpliagaaV4
namespace Go.Proofs.Ytcdjpfikpliagaa
open Go.RowKit Go.Rx
set_option linter.unusedSimpArgs false
set_option maxRecDepth 100000

/-! ### rows whose cells are any -/
def mixC (f : Nat → List C) (Z : List (List C)) (i : Nat) : List (List C) := (List.range i).map f ++ Z.drop i
theorem mixC_zero (f : Nat → List C) (Z : List (List C)) : mixC f Z 0 = Z := by simp [mixC]
theorem mixC_all (f : Nat → List C) (Z : List (List C)) : mixC f Z Z.length = (List.range Z.length).map f := by simp [mixC]
theorem mixC_length (f : Nat → List C) (Z : List (List C)) {i : Nat} (h : i ≤ Z.length) : (mixC f Z i).length = Z.length := by simp [mixC]; omega
theorem mixC_getD (f : Nat → List C) (Z : List (List C)) {i : Nat} : (mixC f Z i).getD i [] = Z.getD i [] := by
  unfold mixC
  rw [List.getD_eq_getElem?_getD, List.getElem?_append_right (by simp), List.length_map, List.length_range, Nat.sub_self, List.getElem?_drop, Nat.add_zero, ← List.getD_eq_getElem?_getD]
theorem mixC_set (f : Nat → List C) (Z : List (List C)) {i : Nat} (h : i < Z.length) : (mixC f Z i).set i (f i) = mixC f Z (i + 1) := by
  unfold mixC
  rw [List.set_append, if_neg (by simp), List.length_map, List.length_range, Nat.sub_self, List.drop_eq_getElem_cons h, List.set_cons_zero, List.range_succ, List.map_append]
  simp

/-! ### leaders -/
structure Ld where
  node : Int
  term : Int
  start : Int
  sterm : Int
  es : List Ent
  deriving Inhabited
def ldC (f : List (List C) → C) (a : Ld) : List C := [.v (.int .i64 a.node), .v (.int .i64 a.term), .v (.int .i64 a.start), .v (.int .i64 a.sterm), f (vR (ents a.es))]
def lgC (f : List (List C) → C) (a : Ld) : List C := [.v (.int .i64 a.start), .v (.int .i64 a.sterm), f (vR (ents a.es))]
def ldR (f : List (List C) → C) (l : List Ld) : List (List C) := l.map (ldC f)
theorem ldR_length (f : List (List C) → C) (l : List Ld) : (ldR f l).length = l.length := by simp [ldR]
theorem ldR_getD (f : List (List C) → C) (l : List Ld) {i : Nat} (h : i < l.length) : (ldR f l).getD i [] = ldC f (l.getD i default) := by
  simp [ldR, List.getD_eq_getElem?_getD, List.getElem?_map, List.getElem?_eq_getElem h]
theorem ldR_take (f : List (List C) → C) (l : List Ld) : List.take l.length (ldR f l) = ldR f l := List.take_of_length_le (by rw [ldR_length]; exact Nat.le_refl _)
theorem ldR_nr (l : List Ld) : nrRR (ldR (.own 3) l) = true := by
  induction l with
  | nil => rfl
  | cons a l ih =>
    show (nrR (ldC (.own 3) a) && nrRR (ldR (.own 3) l)) = true
    rw [ih, Bool.and_true]
    simp [ldC, nrR, nr, vR_nr]
theorem ldR_po (l : List Ld) : poRR (ldR (.own 3) l) = true := by
  induction l with
  | nil => rfl
  | cons a l ih =>
    show (poR (ldC (.own 3) a) && poRR (ldR (.own 3) l)) = true
    rw [ih, Bool.and_true]
    simp [ldC, poR, po, vR_po]
theorem ldR_ts (l : List Ld) : toShRR (ldR (.own 3) l) = ldR (.sh 3) l := by
  induction l with
  | nil => rfl
  | cons a l ih =>
    show toShR (ldC (.own 3) a) :: toShRR (ldR (.own 3) l) = ldC (.sh 3) a :: ldR (.sh 3) l
    rw [ih]
    simp [ldC, toShR, toSh, vR_ts]
def SmallE (l : List Ent) : Prop := l.length ≤ 140737488355328 ∧ ∀ e ∈ l, e.data.size ≤ 140737488355328
def SmallL (l : List Ld) : Prop := l.length ≤ 140737488355328 ∧ ∀ a ∈ l, SmallE a.es

/-! ### sizes -/
def szEl : Int → List Ent → Int
  | n, [] => n
  | n, e :: l => if n - e.data.size < 0 then -1 else szEl (n - e.data.size) l
def szES (n : Int) (l : List Ent) : Int := if n - l.length < 0 then -1 else szEl (n - l.length) l
theorem szEl_bound : ∀ (l : List Ent) (n : Int), -1 ≤ n → -1 ≤ szEl n l ∧ szEl n l ≤ n
  | [], n, h => ⟨h, Int.le_refl _⟩
  | e :: l, n, h => by
    unfold szEl
    split
    · omega
    · rename_i c
      have := szEl_bound l (n - e.data.size) (by omega)
      omega
theorem szES_bound (n : Int) (l : List Ent) (h : 0 ≤ n) : -1 ≤ szES n l ∧ szES n l ≤ n ∧ (0 ≤ szES n l → l.length ≤ n) := by
  unfold szES
  split
  · exact ⟨by omega, by omega, fun h => by omega⟩
  · have := szEl_bound l (n - l.length) (by omega)
    exact ⟨by omega, by omega, fun _ => by omega⟩
theorem szEntryS_ok (l : List Ent) (hl : SmallE l) (n : Int) (h0 : 0 ≤ n) (h1 : n ≤ 1048576) : PureFn Try.prog 36 [.one (.sh 3 (vR (ents l))), i64 n] [i64 (szES n l)] := by
  obtain ⟨hl1, hl2⟩ := hl
  have w1 := w64 (n := n - l.length) (by omega) (by omega)
  refine PureFn_of_Go Try.func36 rfl (by decide) mo (by decide +kernel) ?_
  unfold szES
  by_cases c1 : n - l.length < 0
  · rw [if_pos c1]
    simp only [Try.ntmps36, Try.results36, push_cast, Nat.reduceAdd, Nat.reduceSub, Nat.reduceMul, Nat.reduceLeDiff, Nat.reduceEqDiff, Nat.reduceLT, Int.reduceLT, Int.reduceLE, Int.reduceEq, Int.reduceNeg, Int.reduceToNat, ents_length, w1, c1]
  · rw [if_neg c1]
    obtain ⟨n1, hn1⟩ : ∃ n1, n1 = n - l.length := ⟨_, rfl⟩
    rw [← hn1] at w1 c1 ⊢
    obtain ⟨r, hr⟩ : ∃ r, r = szEl n1 l := ⟨_, rfl⟩
    rw [← hr]
    simp only [Try.ntmps36, Try.results36, push_cast, Nat.reduceAdd, Nat.reduceSub, Nat.reduceMul, Nat.reduceLeDiff, Nat.reduceEqDiff, Nat.reduceLT, Int.reduceLT, Int.reduceLE, Int.reduceEq, Int.reduceNeg, Int.reduceToNat, ents_length, ← hn1, w1, c1]
    refine Go_loop (α := {p : Nat × Int // p.1 ≤ l.length ∧ 0 ≤ p.2 ∧ p.2 ≤ 1048576 ∧ szEl p.2 (l.drop p.1) = r})
      (fun p => ⟨tp 27 [(0, .x (.one (.sh 3 (vR (ents l))))), (1, int p.1.2), (5, int p.1.1)], 0, [], []⟩) (fun p => l.length - p.1.1) ⟨(0, n1), by simp only; omega, by simp only; omega, by simp only; omega, hr.symm⟩ ?_ ?_
    · exact Weak.same (by simp only [push_cast, Nat.reduceAdd, Nat.reduceSub, Nat.reduceMul, Nat.reduceLeDiff, Nat.reduceEqDiff, Nat.reduceLT, Int.reduceLT, Int.reduceLE, Int.reduceEq, Int.reduceNeg, Int.reduceToNat, Int.ofNat_zero])
    · rintro ⟨⟨i, m⟩, hi, hm0, hm1, hinv⟩ X hX
      simp only at hi hm0 hm1 hinv
      by_cases hlt : (i : Int) < (l.length : Int)
      · have hi' : i < l.length := by omega
        have ws := wsucc hi' (by omega)
        have hg := ents_getD l hi'
        have hmem := getD_mem' l i hi'
        rw [drop_cons l i hi'] at hinv
        obtain ⟨a, ha⟩ : ∃ a, a = l.getD i default := ⟨_, rfl⟩
        rw [← ha] at hg hmem hinv
        have k := szEntry_ok a (hl2 a hmem) m hm0 hm1
        simp only [entC] at k
        obtain ⟨i', hi1⟩ : ∃ i', i' = i + 1 := ⟨_, rfl⟩
        rw [← hi1] at ws hinv
        by_cases c : m - a.data.size < 0
        · rw [if_pos c] at k
          rw [szEl, if_pos c] at hinv
          subst hinv
          simp only [push_cast, Nat.reduceAdd, Nat.reduceSub, Nat.reduceMul, Nat.reduceLeDiff, Nat.reduceEqDiff, Nat.reduceLT, Int.reduceLT, Int.reduceLE, Int.reduceEq, Int.reduceNeg, Int.reduceToNat, hlt, ents_length, hi', hg, entV, vR_getD]
          refine GoL_call rfl rfl k rfl rfl ?_
          simp only [Try.ntmps36, Try.results36, push_cast, Nat.reduceAdd, Nat.reduceSub, Nat.reduceMul, Nat.reduceLeDiff, Nat.reduceEqDiff, Nat.reduceLT, Int.reduceLT, Int.reduceLE, Int.reduceEq, Int.reduceNeg, Int.reduceToNat]
        · rw [if_neg c] at k
          rw [szEl, if_neg c] at hinv
          obtain ⟨m', hm'⟩ : ∃ m', m' = m - a.data.size := ⟨_, rfl⟩
          rw [← hm'] at k hinv c
          simp only [push_cast, Nat.reduceAdd, Nat.reduceSub, Nat.reduceMul, Nat.reduceLeDiff, Nat.reduceEqDiff, Nat.reduceLT, Int.reduceLT, Int.reduceLE, Int.reduceEq, Int.reduceNeg, Int.reduceToNat, hlt, ents_length, hi', hg, entV, vR_getD]
          refine GoL_call rfl rfl k rfl rfl ?_
          simp only [push_cast, Nat.reduceAdd, Nat.reduceSub, Nat.reduceMul, Nat.reduceLeDiff, Nat.reduceEqDiff, Nat.reduceLT, Int.reduceLT, Int.reduceLE, Int.reduceEq, Int.reduceNeg, Int.reduceToNat, c, ws]
          refine ⟨_, ?_, hX ⟨(i', m'), by simp only; omega, by simp only; omega, by simp only; omega, hinv⟩ (by simp only; omega)⟩
          exact Weak.drop (by simp only [push_cast, Nat.reduceAdd, Nat.reduceSub, Nat.reduceMul, Nat.reduceLeDiff, Nat.reduceEqDiff, Nat.reduceLT, Int.reduceLT, Int.reduceLE, Int.reduceEq, Int.reduceNeg, Int.reduceToNat]) (by simp only [push_cast, Nat.reduceAdd, Nat.reduceSub, Nat.reduceMul, Nat.reduceLeDiff, Nat.reduceEqDiff, Nat.reduceLT, Int.reduceLT, Int.reduceLE, Int.reduceEq, Int.reduceNeg, Int.reduceToNat]) (by simp only [push_cast, Nat.reduceAdd, Nat.reduceSub, Nat.reduceMul, Nat.reduceLeDiff, Nat.reduceEqDiff, Nat.reduceLT, Int.reduceLT, Int.reduceLE, Int.reduceEq, Int.reduceNeg, Int.reduceToNat])
      · have hie : i = l.length := by omega
        rw [hie, List.drop_length, szEl] at hinv
        subst hinv
        simp only [Try.ntmps36, Try.results36, push_cast, Nat.reduceAdd, Nat.reduceSub, Nat.reduceMul, Nat.reduceLeDiff, Nat.reduceEqDiff, Nat.reduceLT, Int.reduceLT, Int.reduceLE, Int.reduceEq, Int.reduceNeg, Int.reduceToNat, hlt, ents_length]
theorem szLog_ok (a : Ld) (hl : SmallE a.es) (n : Int) (h0 : 0 ≤ n) (h1 : n ≤ 1048576) : PureFn Try.prog 33 [.agg (lgC (.sh 3) a), i64 n] [i64 (szES n a.es)] := by
  refine PureFn_of_Go Try.func33 rfl (by decide) mo (by decide +kernel) ?_
  have k := szEntryS_ok a.es hl n h0 h1
  have hb := szES_bound n a.es h0
  obtain ⟨r, hr⟩ : ∃ r, r = szES n a.es := ⟨_, rfl⟩
  rw [← hr] at k hb ⊢
  simp only [Try.ntmps33, Try.results33, push_cast, Nat.reduceAdd, Nat.reduceSub, Nat.reduceMul, Nat.reduceLeDiff, Nat.reduceEqDiff, Nat.reduceLT, Int.reduceLT, Int.reduceLE, Int.reduceEq, Int.reduceNeg, Int.reduceToNat, lgC]
  refine GoL_call rfl rfl k rfl rfl ?_
  by_cases c : r < 0
  · have : r = -1 := by omega
    subst this
    simp only [Try.ntmps33, Try.results33, push_cast, Nat.reduceAdd, Nat.reduceSub, Nat.reduceMul, Nat.reduceLeDiff, Nat.reduceEqDiff, Nat.reduceLT, Int.reduceLT, Int.reduceLE, Int.reduceEq, Int.reduceNeg, Int.reduceToNat]
  · simp only [Try.ntmps33, Try.results33, push_cast, Nat.reduceAdd, Nat.reduceSub, Nat.reduceMul, Nat.reduceLeDiff, Nat.reduceEqDiff, Nat.reduceLT, Int.reduceLT, Int.reduceLE, Int.reduceEq, Int.reduceNeg, Int.reduceToNat, c]
theorem szLeader_ok (a : Ld) (hl : SmallE a.es) (n : Int) (h0 : 0 ≤ n) (h1 : n ≤ 1048576) : PureFn Try.prog 26 [.agg (ldC (.sh 3) a), i64 n] [i64 (szES n a.es)] := by
  refine PureFn_of_Go Try.func26 rfl (by decide) mo (by decide +kernel) ?_
  have k := szLog_ok a hl n h0 h1
  have hb := szES_bound n a.es h0
  simp only [lgC] at k
  obtain ⟨r, hr⟩ : ∃ r, r = szES n a.es := ⟨_, rfl⟩
  rw [← hr] at k hb ⊢
  simp only [Try.ntmps26, Try.results26, push_cast, Nat.reduceAdd, Nat.reduceSub, Nat.reduceMul, Nat.reduceLeDiff, Nat.reduceEqDiff, Nat.reduceLT, Int.reduceLT, Int.reduceLE, Int.reduceEq, Int.reduceNeg, Int.reduceToNat, ldC]
  refine GoL_call rfl rfl k rfl rfl ?_
  by_cases c : r < 0
  · have : r = -1 := by omega
    subst this
    simp only [Try.ntmps26, Try.results26, push_cast, Nat.reduceAdd, Nat.reduceSub, Nat.reduceMul, Nat.reduceLeDiff, Nat.reduceEqDiff, Nat.reduceLT, Int.reduceLT, Int.reduceLE, Int.reduceEq, Int.reduceNeg, Int.reduceToNat]
  · simp only [Try.ntmps26, Try.results26, push_cast, Nat.reduceAdd, Nat.reduceSub, Nat.reduceMul, Nat.reduceLeDiff, Nat.reduceEqDiff, Nat.reduceLT, Int.reduceLT, Int.reduceLE, Int.reduceEq, Int.reduceNeg, Int.reduceToNat, c]
def szLl : Int → List Ld → Int
  | n, [] => n
  | n, a :: l => if szES n a.es < 0 then -1 else szLl (szES n a.es) l
theorem szLl_bound : ∀ (l : List Ld) (n : Int), 0 ≤ n → -1 ≤ szLl n l ∧ szLl n l ≤ n ∧ (0 ≤ szLl n l → ∀ a ∈ l, a.es.length ≤ n)
  | [], n, h => ⟨by show -1 ≤ n; omega, Int.le_refl _, fun _ a ha => by cases ha⟩
  | a :: l, n, h => by
    have hb := szES_bound n a.es h
    unfold szLl
    split
    · exact ⟨by omega, by omega, fun h => by omega⟩
    · rename_i c
      have := szLl_bound l (szES n a.es) (by omega)
      refine ⟨by omega, by omega, fun h2 x hx => ?_⟩
      rcases List.mem_cons.1 hx with rfl | hx
      · exact hb.2.2 (by omega)
      · have := this.2.2 h2 x hx; omega
theorem szLeaderS_ok (l : List Ld) (hl : SmallL l) (n : Int) (h0 : 0 ≤ n) (h1 : n ≤ 1048576) :
    ∃ r, -1 ≤ r ∧ (0 ≤ r → l.length ≤ 1048576 ∧ ∀ a ∈ l, a.es.length ≤ 1048576) ∧ PureFn Try.prog 11 [.one (.sh 5 (ldR (.sh 3) l)), i64 n] [i64 r] := by
  obtain ⟨hl1, hl2⟩ := hl
  have w1 := w64 (n := n - l.length) (by omega) (by omega)
  by_cases c1 : n - l.length < 0
  · refine ⟨-1, by omega, fun h => by omega, ?_⟩
    refine PureFn_of_Go Try.func11 rfl (by decide) mo (by decide +kernel) ?_
    simp only [Try.ntmps11, Try.results11, push_cast, Nat.reduceAdd, Nat.reduceSub, Nat.reduceMul, Nat.reduceLeDiff, Nat.reduceEqDiff, Nat.reduceLT, Int.reduceLT, Int.reduceLE, Int.reduceEq, Int.reduceNeg, Int.reduceToNat, ldR_length, w1, c1]
  · obtain ⟨n1, hn1⟩ : ∃ n1, n1 = n - l.length := ⟨_, rfl⟩
    rw [← hn1] at w1 c1
    obtain ⟨r, hr⟩ : ∃ r, r = szLl n1 l := ⟨_, rfl⟩
    have hb := szLl_bound l n1 (by omega)
    rw [← hr] at hb
    refine ⟨r, hb.1, fun h => ⟨by omega, fun a ha => by have := hb.2.2 h a ha; omega⟩, ?_⟩
    refine PureFn_of_Go Try.func11 rfl (by decide) mo (by decide +kernel) ?_
    simp only [Try.ntmps11, Try.results11, push_cast, Nat.reduceAdd, Nat.reduceSub, Nat.reduceMul, Nat.reduceLeDiff, Nat.reduceEqDiff, Nat.reduceLT, Int.reduceLT, Int.reduceLE, Int.reduceEq, Int.reduceNeg, Int.reduceToNat, ldR_length, ← hn1, w1, c1]
    refine Go_loop (α := {p : Nat × Int // p.1 ≤ l.length ∧ 0 ≤ p.2 ∧ p.2 ≤ 1048576 ∧ szLl p.2 (l.drop p.1) = r})
      (fun p => ⟨tp 27 [(0, .x (.one (.sh 5 (ldR (.sh 3) l)))), (1, int p.1.2), (5, int p.1.1)], 0, [], []⟩) (fun p => l.length - p.1.1) ⟨(0, n1), by simp only; omega, by simp only; omega, by simp only; omega, hr.symm⟩ ?_ ?_
    · exact Weak.same (by simp only [push_cast, Nat.reduceAdd, Nat.reduceSub, Nat.reduceMul, Nat.reduceLeDiff, Nat.reduceEqDiff, Nat.reduceLT, Int.reduceLT, Int.reduceLE, Int.reduceEq, Int.reduceNeg, Int.reduceToNat, Int.ofNat_zero])
    · rintro ⟨⟨i, m⟩, hi, hm0, hm1, hinv⟩ X hX
      simp only at hi hm0 hm1 hinv
      by_cases hlt : (i : Int) < (l.length : Int)
      · have hi' : i < l.length := by omega
        have ws := wsucc hi' (by omega)
        have hg := ldR_getD (.sh 3) l hi'
        have hmem := getD_mem' l i hi'
        rw [drop_cons l i hi'] at hinv
        obtain ⟨a, ha⟩ : ∃ a, a = l.getD i default := ⟨_, rfl⟩
        rw [← ha] at hg hmem hinv
        have k := szLeader_ok a (hl2 a hmem) m hm0 hm1
        have hb2 := szES_bound m a.es hm0
        simp only [ldC] at k
        obtain ⟨i', hi1⟩ : ∃ i', i' = i + 1 := ⟨_, rfl⟩
        rw [← hi1] at ws hinv
        rw [szLl] at hinv
        obtain ⟨m', hm'⟩ : ∃ m', m' = szES m a.es := ⟨_, rfl⟩
        rw [← hm'] at k hinv hb2
        by_cases c : m' < 0
        · rw [if_pos c] at hinv
          subst hinv
          have : m' = -1 := by omega
          subst this
          simp only [push_cast, Nat.reduceAdd, Nat.reduceSub, Nat.reduceMul, Nat.reduceLeDiff, Nat.reduceEqDiff, Nat.reduceLT, Int.reduceLT, Int.reduceLE, Int.reduceEq, Int.reduceNeg, Int.reduceToNat, hlt, ldR_length, hi', hg, ldC]
          refine GoL_call rfl rfl k rfl rfl ?_
          simp only [Try.ntmps11, Try.results11, push_cast, Nat.reduceAdd, Nat.reduceSub, Nat.reduceMul, Nat.reduceLeDiff, Nat.reduceEqDiff, Nat.reduceLT, Int.reduceLT, Int.reduceLE, Int.reduceEq, Int.reduceNeg, Int.reduceToNat]
        · rw [if_neg c] at hinv
          simp only [push_cast, Nat.reduceAdd, Nat.reduceSub, Nat.reduceMul, Nat.reduceLeDiff, Nat.reduceEqDiff, Nat.reduceLT, Int.reduceLT, Int.reduceLE, Int.reduceEq, Int.reduceNeg, Int.reduceToNat, hlt, ldR_length, hi', hg, ldC]
          refine GoL_call rfl rfl k rfl rfl ?_
          simp only [push_cast, Nat.reduceAdd, Nat.reduceSub, Nat.reduceMul, Nat.reduceLeDiff, Nat.reduceEqDiff, Nat.reduceLT, Int.reduceLT, Int.reduceLE, Int.reduceEq, Int.reduceNeg, Int.reduceToNat, c, ws]
          refine ⟨_, ?_, hX ⟨(i', m'), by simp only; omega, by simp only; omega, by simp only; omega, hinv⟩ (by simp only; omega)⟩
          exact Weak.drop (by simp only [push_cast, Nat.reduceAdd, Nat.reduceSub, Nat.reduceMul, Nat.reduceLeDiff, Nat.reduceEqDiff, Nat.reduceLT, Int.reduceLT, Int.reduceLE, Int.reduceEq, Int.reduceNeg, Int.reduceToNat]) (by simp only [push_cast, Nat.reduceAdd, Nat.reduceSub, Nat.reduceMul, Nat.reduceLeDiff, Nat.reduceEqDiff, Nat.reduceLT, Int.reduceLT, Int.reduceLE, Int.reduceEq, Int.reduceNeg, Int.reduceToNat]) (by simp only [push_cast, Nat.reduceAdd, Nat.reduceSub, Nat.reduceMul, Nat.reduceLeDiff, Nat.reduceEqDiff, Nat.reduceLT, Int.reduceLT, Int.reduceLE, Int.reduceEq, Int.reduceNeg, Int.reduceToNat])
      · have hie : i = l.length := by omega
        rw [hie, List.drop_length, szLl] at hinv
        subst hinv
        simp only [Try.ntmps11, Try.results11, push_cast, Nat.reduceAdd, Nat.reduceSub, Nat.reduceMul, Nat.reduceLeDiff, Nat.reduceEqDiff, Nat.reduceLT, Int.reduceLT, Int.reduceLE, Int.reduceEq, Int.reduceNeg, Int.reduceToNat, hlt, ldR_length]

/-! ### conversions -/
def enZ (n : Nat) : List (List Value) := List.replicate n [.int .i64 0, .int .i64 0, .string ⟨#[]⟩]
theorem enZ_vR (n : Nat) : List.replicate n [C.v (.int .i64 0), .v (.int .i64 0), .v (.string ⟨#[]⟩)] = vR (enZ n) := by simp [vR, enZ]
theorem enZ_length (n : Nat) : (enZ n).length = n := by simp [enZ]
theorem enZ_getD {n i : Nat} (h : i < n) : ((enZ n).getD i []).map C.v = [.v (.int .i64 0), .v (.int .i64 0), .v (.string ⟨#[]⟩)] := by
  simp [enZ, List.getD_eq_getElem?_getD, List.getElem?_replicate, h]
def enF (l : List Ent) (i : Nat) : List Value := entV (l.getD i default)
theorem enF_all (l : List Ent) : (List.range l.length).map (enF l) = ents l := by
  apply List.ext_getElem
  · simp [ents]
  · intro i h1 h2
    simp at h1
    simp [ents, enF, List.getD_eq_getElem?_getD, List.getElem?_eq_getElem h1]
theorem toEntryS_ok (l : List Ent) (hl : l.length ≤ 1048576) : PureFn Try.prog 37 [.one (.sh 3 (vR (ents l)))] [.one (.own 3 (vR (ents l)))] := by
  refine PureFn_of_Go Try.func37 rfl (by decide) mo (by decide +kernel) ?_
  have b1 : l.length * 32 ≤ 281474976710656 := by omega
  have b2 : l.length ≤ 9223372036854775807 := by omega
  have b3 : 32 * l.length ≤ 281474976710656 := by omega
  simp only [Try.ntmps37, Try.results37, push_cast, Nat.reduceAdd, Nat.reduceSub, Nat.reduceMul, Nat.reduceLeDiff, Nat.reduceEqDiff, Nat.reduceLT, Int.reduceLT, Int.reduceLE, Int.reduceEq, Int.reduceNeg, Int.reduceToNat, ents_length, b1, b2, b3]
  refine Go_loop (α := {i : Nat // i ≤ l.length})
    (fun i => ⟨tp 23 [(0, .x (.one (.sh 3 (vR (ents l))))), (3, .x (.one (.rs (0, 448) [] 3 0 l.length))), (4, int i.1)], 0, [((0, 448), ⟨.sl, 3, vR (mix (enF l) (enZ l.length) i.1)⟩)], []⟩) (fun i => l.length - i.1) ⟨0, by omega⟩ ?_ ?_
  · simp only [mix_zero, ← enZ_vR]
    exact Weak.same (by simp only [push_cast, Nat.reduceAdd, Nat.reduceSub, Nat.reduceMul, Nat.reduceLeDiff, Nat.reduceEqDiff, Nat.reduceLT, Int.reduceLT, Int.reduceLE, Int.reduceEq, Int.reduceNeg, Int.reduceToNat, Int.ofNat_zero])
  · rintro ⟨i, hi⟩ X hX
    have hml := mix_length (enF l) (enZ l.length) (i := i) (by rw [enZ_length]; exact hi)
    rw [enZ_length] at hml
    by_cases hlt : (i : Int) < (l.length : Int)
    · have hi' : i < l.length := by omega
      have ws := wsucc hi' (by omega)
      have hg := ents_getD l hi'
      have s1 := mix_set (enF l) (enZ l.length) (i := i) (by rw [enZ_length]; exact hi')
      have g1 := vR_mix_getD (enF l) (enZ l.length) (i := i) (by rw [enZ_length]; exact hi')
      rw [enZ_getD hi'] at g1
      simp only [enF] at s1
      obtain ⟨a, ha⟩ : ∃ a, a = l.getD i default := ⟨_, rfl⟩
      rw [← ha] at hg s1
      have k := toEntry_ok a
      simp only [entC] at k
      simp only [entV, List.map_cons, List.map_nil] at s1
      obtain ⟨i', hi1⟩ : ∃ i', i' = i + 1 := ⟨_, rfl⟩
      rw [← hi1] at ws s1
      obtain ⟨R, hR⟩ : ∃ R, R = vR (mix (enF l) (enZ l.length) i) := ⟨_, rfl⟩
      have hRl : R.length = l.length := by rw [hR, vR_length, hml]
      have s1' : R.set i [C.v (.int .i64 a.term), .v (.int .i64 a.kind), .v (.string a.data)] = vR (mix (enF l) (enZ l.length) i') := by rw [hR]; exact s1
      rw [← hR] at g1
      simp only [← hR]
      simp only [push_cast, Nat.reduceAdd, Nat.reduceSub, Nat.reduceMul, Nat.reduceLeDiff, Nat.reduceEqDiff, Nat.reduceLT, Int.reduceLT, Int.reduceLE, Int.reduceEq, Int.reduceNeg, Int.reduceToNat, hlt, ents_length, hi', hg, entV, vR_getD]
      refine GoL_call rfl rfl k rfl rfl ?_
      simp only [push_cast, Nat.reduceAdd, Nat.reduceSub, Nat.reduceMul, Nat.reduceLeDiff, Nat.reduceEqDiff, Nat.reduceLT, Int.reduceLT, Int.reduceLE, Int.reduceEq, Int.reduceNeg, Int.reduceToNat, hlt, hi', hRl, g1, s1', ws]
      refine ⟨_, ?_, hX ⟨i', by omega⟩ (by simp only; omega)⟩
      exact Weak.drop (by simp only [push_cast, Nat.reduceAdd, Nat.reduceSub, Nat.reduceMul, Nat.reduceLeDiff, Nat.reduceEqDiff, Nat.reduceLT, Int.reduceLT, Int.reduceLE, Int.reduceEq, Int.reduceNeg, Int.reduceToNat]) (by simp only [push_cast, Nat.reduceAdd, Nat.reduceSub, Nat.reduceMul, Nat.reduceLeDiff, Nat.reduceEqDiff, Nat.reduceLT, Int.reduceLT, Int.reduceLE, Int.reduceEq, Int.reduceNeg, Int.reduceToNat]) (by simp only [push_cast, Nat.reduceAdd, Nat.reduceSub, Nat.reduceMul, Nat.reduceLeDiff, Nat.reduceEqDiff, Nat.reduceLT, Int.reduceLT, Int.reduceLE, Int.reduceEq, Int.reduceNeg, Int.reduceToNat])
    · have hie : i = l.length := by omega
      have hall : mix (enF l) (enZ l.length) l.length = ents l := by
        have := mix_all (enF l) (enZ l.length)
        rw [enZ_length] at this
        rw [this, enF_all]
      simp only [hie, hall] at hlt ⊢
      simp only [Try.ntmps37, Try.results37, push_cast, Nat.reduceAdd, Nat.reduceSub, Nat.reduceMul, Nat.reduceLeDiff, Nat.reduceEqDiff, Nat.reduceLT, Int.reduceLT, Int.reduceLE, Int.reduceEq, Int.reduceNeg, Int.reduceToNat, hlt, ents_length]
theorem toLog_ok (a : Ld) (hl : a.es.length ≤ 1048576) : PureFn Try.prog 34 [.agg (lgC (.sh 3) a)] [.agg (lgC (.own 3) a)] := by
  refine PureFn_of_Go Try.func34 rfl (by decide) mo (by decide +kernel) ?_
  have k := toEntryS_ok a.es hl
  simp only [Try.ntmps34, Try.results34, push_cast, Nat.reduceAdd, Nat.reduceSub, Nat.reduceMul, Nat.reduceLeDiff, Nat.reduceEqDiff, Nat.reduceLT, Int.reduceLT, Int.reduceLE, Int.reduceEq, Int.reduceNeg, Int.reduceToNat, lgC]
  refine GoL_call rfl rfl k (by simp only [push_cast, Nat.reduceAdd, Nat.reduceSub, Nat.reduceMul, Nat.reduceLeDiff, Nat.reduceEqDiff, Nat.reduceLT, Int.reduceLT, Int.reduceLE, Int.reduceEq, Int.reduceNeg, Int.reduceToNat]) rfl ?_
  simp only [Try.ntmps34, Try.results34, push_cast, Nat.reduceAdd, Nat.reduceSub, Nat.reduceMul, Nat.reduceLeDiff, Nat.reduceEqDiff, Nat.reduceLT, Int.reduceLT, Int.reduceLE, Int.reduceEq, Int.reduceNeg, Int.reduceToNat, lgC, ents_length]
theorem toLeader_ok (a : Ld) (hl : a.es.length ≤ 1048576) : PureFn Try.prog 27 [.agg (ldC (.sh 3) a)] [.agg (ldC (.own 3) a)] := by
  refine PureFn_of_Go Try.func27 rfl (by decide) mo (by decide +kernel) ?_
  have k := toLog_ok a hl
  simp only [lgC] at k
  simp only [Try.ntmps27, Try.results27, push_cast, Nat.reduceAdd, Nat.reduceSub, Nat.reduceMul, Nat.reduceLeDiff, Nat.reduceEqDiff, Nat.reduceLT, Int.reduceLT, Int.reduceLE, Int.reduceEq, Int.reduceNeg, Int.reduceToNat, ldC]
  refine GoL_call rfl rfl k (by simp only [push_cast, Nat.reduceAdd, Nat.reduceSub, Nat.reduceMul, Nat.reduceLeDiff, Nat.reduceEqDiff, Nat.reduceLT, Int.reduceLT, Int.reduceLE, Int.reduceEq, Int.reduceNeg, Int.reduceToNat]) rfl ?_
  simp only [Try.ntmps27, Try.results27, push_cast, Nat.reduceAdd, Nat.reduceSub, Nat.reduceMul, Nat.reduceLeDiff, Nat.reduceEqDiff, Nat.reduceLT, Int.reduceLT, Int.reduceLE, Int.reduceEq, Int.reduceNeg, Int.reduceToNat, ldC, ents_length]
def ldZ (n : Nat) : List (List C) := List.replicate n [.v (.int .i64 0), .v (.int .i64 0), .v (.int .i64 0), .v (.int .i64 0), .v (.slice none 0 0)]
theorem ldZ_length (n : Nat) : (ldZ n).length = n := by simp [ldZ]
theorem ldZ_getD {n i : Nat} (h : i < n) : (ldZ n).getD i [] = [.v (.int .i64 0), .v (.int .i64 0), .v (.int .i64 0), .v (.int .i64 0), .v (.slice none 0 0)] := by
  simp [ldZ, List.getD_eq_getElem?_getD, List.getElem?_replicate, h]
def ldF (l : List Ld) (i : Nat) : List C := ldC (.own 3) (l.getD i default)
theorem ldF_all (l : List Ld) : (List.range l.length).map (ldF l) = ldR (.own 3) l := by
  apply List.ext_getElem
  · simp [ldR]
  · intro i h1 h2
    simp at h1
    simp [ldR, ldF, List.getD_eq_getElem?_getD, List.getElem?_eq_getElem h1]
set_option maxHeartbeats 1000000 in
theorem toLeaderS_ok (l : List Ld) (hl : l.length ≤ 1048576) (he : ∀ a ∈ l, a.es.length ≤ 1048576) : PureFn Try.prog 13 [.one (.sh 5 (ldR (.sh 3) l))] [.one (.own 5 (ldR (.own 3) l))] := by
  refine PureFn_of_Go Try.func13 rfl (by decide) mo (by decide +kernel) ?_
  have b1 : l.length * 56 ≤ 281474976710656 := by omega
  have b2 : l.length ≤ 9223372036854775807 := by omega
  have b3 : 56 * l.length ≤ 281474976710656 := by omega
  simp only [Try.ntmps13, Try.results13, push_cast, Nat.reduceAdd, Nat.reduceSub, Nat.reduceMul, Nat.reduceLeDiff, Nat.reduceEqDiff, Nat.reduceLT, Int.reduceLT, Int.reduceLE, Int.reduceEq, Int.reduceNeg, Int.reduceToNat, ldR_length, b1, b2, b3]
  refine Go_loop (α := {i : Nat // i ≤ l.length})
    (fun i => ⟨tp 23 [(0, .x (.one (.sh 5 (ldR (.sh 3) l)))), (3, .x (.one (.rs (0, 448) [] 5 0 l.length))), (4, int i.1)], 0, [((0, 448), ⟨.sl, 5, mixC (ldF l) (ldZ l.length) i.1⟩)], []⟩) (fun i => l.length - i.1) ⟨0, by omega⟩ ?_ ?_
  · simp only [mixC_zero, ldZ]
    exact Weak.same (by simp only [push_cast, Nat.reduceAdd, Nat.reduceSub, Nat.reduceMul, Nat.reduceLeDiff, Nat.reduceEqDiff, Nat.reduceLT, Int.reduceLT, Int.reduceLE, Int.reduceEq, Int.reduceNeg, Int.reduceToNat, Int.ofNat_zero])
  · rintro ⟨i, hi⟩ X hX
    have hml := mixC_length (ldF l) (ldZ l.length) (i := i) (by rw [ldZ_length]; exact hi)
    rw [ldZ_length] at hml
    by_cases hlt : (i : Int) < (l.length : Int)
    · have hi' : i < l.length := by omega
      have ws := wsucc hi' (by omega)
      have hg := ldR_getD (.sh 3) l hi'
      have hmem := getD_mem' l i hi'
      have s1 := mixC_set (ldF l) (ldZ l.length) (i := i) (by rw [ldZ_length]; exact hi')
      have g1 := mixC_getD (ldF l) (ldZ l.length) (i := i)
      rw [ldZ_getD hi'] at g1
      simp only [ldF] at s1
      obtain ⟨a, ha⟩ : ∃ a, a = l.getD i default := ⟨_, rfl⟩
      rw [← ha] at hg s1 hmem
      have k := toLeader_ok a (he a hmem)
      simp only [ldC] at k s1
      obtain ⟨i', hi1⟩ : ∃ i', i' = i + 1 := ⟨_, rfl⟩
      rw [← hi1] at ws s1
      obtain ⟨R, hR⟩ : ∃ R, R = mixC (ldF l) (ldZ l.length) i := ⟨_, rfl⟩
      have hRl : R.length = l.length := by rw [hR, hml]
      have s1' : R.set i [C.v (.int .i64 a.node), .v (.int .i64 a.term), .v (.int .i64 a.start), .v (.int .i64 a.sterm), .own 3 (vR (ents a.es))] = mixC (ldF l) (ldZ l.length) i' := by rw [hR]; exact s1
      rw [← hR] at g1
      have hiR : i < R.length := by omega
      have g2 := row_set_get hiR [C.v (.int .i64 a.node), .v (.int .i64 a.term), .v (.int .i64 a.start), .v (.int .i64 a.sterm), .bad]
      simp only [← hR]
      simp only [push_cast, Nat.reduceAdd, Nat.reduceSub, Nat.reduceMul, Nat.reduceLeDiff, Nat.reduceEqDiff, Nat.reduceLT, Int.reduceLT, Int.reduceLE, Int.reduceEq, Int.reduceNeg, Int.reduceToNat, hlt, ldR_length, hi', hg, ldC]
      refine GoL_call rfl rfl k (by simp only [push_cast, Nat.reduceAdd, Nat.reduceSub, Nat.reduceMul, Nat.reduceLeDiff, Nat.reduceEqDiff, Nat.reduceLT, Int.reduceLT, Int.reduceLE, Int.reduceEq, Int.reduceNeg, Int.reduceToNat]) rfl ?_
      simp only [push_cast, Nat.reduceAdd, Nat.reduceSub, Nat.reduceMul, Nat.reduceLeDiff, Nat.reduceEqDiff, Nat.reduceLT, Int.reduceLT, Int.reduceLE, Int.reduceEq, Int.reduceNeg, Int.reduceToNat, hlt, hi', hRl, g1, g2, ents_length, List.set_set, s1', ws]
      refine ⟨_, ?_, hX ⟨i', by omega⟩ (by simp only; omega)⟩
      exact Weak.drop (by simp only [push_cast, Nat.reduceAdd, Nat.reduceSub, Nat.reduceMul, Nat.reduceLeDiff, Nat.reduceEqDiff, Nat.reduceLT, Int.reduceLT, Int.reduceLE, Int.reduceEq, Int.reduceNeg, Int.reduceToNat]) (by simp only [push_cast, Nat.reduceAdd, Nat.reduceSub, Nat.reduceMul, Nat.reduceLeDiff, Nat.reduceEqDiff, Nat.reduceLT, Int.reduceLT, Int.reduceLE, Int.reduceEq, Int.reduceNeg, Int.reduceToNat]) (by simp only [push_cast, Nat.reduceAdd, Nat.reduceSub, Nat.reduceMul, Nat.reduceLeDiff, Nat.reduceEqDiff, Nat.reduceLT, Int.reduceLT, Int.reduceLE, Int.reduceEq, Int.reduceNeg, Int.reduceToNat])
    · have hie : i = l.length := by omega
      have hall : mixC (ldF l) (ldZ l.length) l.length = ldR (.own 3) l := by
        have := mixC_all (ldF l) (ldZ l.length)
        rw [ldZ_length] at this
        rw [this, ldF_all]
      simp only [hie, hall] at hlt ⊢
      simp only [Try.ntmps13, Try.results13, push_cast, Nat.reduceAdd, Nat.reduceSub, Nat.reduceMul, Nat.reduceLeDiff, Nat.reduceEqDiff, Nat.reduceLT, Int.reduceLT, Int.reduceLE, Int.reduceEq, Int.reduceNeg, Int.reduceToNat, hlt, ldR_length, ldR_nr]
theorem eqLog_ok (a : Ld) (hl : a.es.length ≤ 1048576) : PureFn Try.prog 35 [.agg (lgC (.sh 3) a), .agg (lgC (.sh 3) a)] [bo true] := by
  refine PureFn_of_Go Try.func35 rfl (by decide) mo (by decide +kernel) ?_
  have k := eqEntryS_ok a.es hl
  simp only [Try.ntmps35, Try.results35, push_cast, Nat.reduceAdd, Nat.reduceSub, Nat.reduceMul, Nat.reduceLeDiff, Nat.reduceEqDiff, Nat.reduceLT, Int.reduceLT, Int.reduceLE, Int.reduceEq, Int.reduceNeg, Int.reduceToNat, lgC]
  refine GoL_call rfl rfl k rfl rfl ?_
  simp only [Try.ntmps35, Try.results35, push_cast, Nat.reduceAdd, Nat.reduceSub, Nat.reduceMul, Nat.reduceLeDiff, Nat.reduceEqDiff, Nat.reduceLT, Int.reduceLT, Int.reduceLE, Int.reduceEq, Int.reduceNeg, Int.reduceToNat]
theorem eqLeader_ok (a : Ld) (hl : a.es.length ≤ 1048576) : PureFn Try.prog 28 [.agg (ldC (.sh 3) a), .agg (ldC (.sh 3) a)] [bo true] := by
  refine PureFn_of_Go Try.func28 rfl (by decide) mo (by decide +kernel) ?_
  have k := eqLog_ok a hl
  simp only [lgC] at k
  simp only [Try.ntmps28, Try.results28, push_cast, Nat.reduceAdd, Nat.reduceSub, Nat.reduceMul, Nat.reduceLeDiff, Nat.reduceEqDiff, Nat.reduceLT, Int.reduceLT, Int.reduceLE, Int.reduceEq, Int.reduceNeg, Int.reduceToNat, ldC]
  refine GoL_call rfl rfl k rfl rfl ?_
  simp only [Try.ntmps28, Try.results28, push_cast, Nat.reduceAdd, Nat.reduceSub, Nat.reduceMul, Nat.reduceLeDiff, Nat.reduceEqDiff, Nat.reduceLT, Int.reduceLT, Int.reduceLE, Int.reduceEq, Int.reduceNeg, Int.reduceToNat]
theorem eqLeaderS_ok (l : List Ld) (hl : l.length ≤ 1048576) (hes : ∀ a ∈ l, a.es.length ≤ 1048576) : PureFn Try.prog 15 [.one (.sh 5 (ldR (.sh 3) l)), .one (.sh 5 (ldR (.sh 3) l))] [bo true] := by
  refine PureFn_of_Go Try.func15 rfl (by decide) mo (by decide +kernel) ?_
  simp only [Try.ntmps15, Try.results15, push_cast, Nat.reduceAdd, Nat.reduceSub, Nat.reduceMul, Nat.reduceLeDiff, Nat.reduceEqDiff, Nat.reduceLT, Int.reduceLT, Int.reduceLE, Int.reduceEq, Int.reduceNeg, Int.reduceToNat, ldR_length]
  refine Go_loop (α := {i : Nat // i ≤ l.length})
    (fun i => ⟨tp 27 [(0, .x (.one (.sh 5 (ldR (.sh 3) l)))), (1, .x (.one (.sh 5 (ldR (.sh 3) l)))), (5, int i.1)], 0, [], []⟩) (fun i => l.length - i.1) ⟨0, by omega⟩ ?_ ?_
  · exact Weak.same (by simp only [push_cast, Nat.reduceAdd, Nat.reduceSub, Nat.reduceMul, Nat.reduceLeDiff, Nat.reduceEqDiff, Nat.reduceLT, Int.reduceLT, Int.reduceLE, Int.reduceEq, Int.reduceNeg, Int.reduceToNat, Int.ofNat_zero])
  · rintro ⟨i, hi⟩ X hX
    by_cases hlt : (i : Int) < (l.length : Int)
    · have hi' : i < l.length := by omega
      have ws := wsucc hi' (by omega)
      have hg := ldR_getD (.sh 3) l hi'
      have hmem := getD_mem' l i hi'
      obtain ⟨a, ha⟩ : ∃ a, a = l.getD i default := ⟨_, rfl⟩
      rw [← ha] at hg hmem
      have k := eqLeader_ok a (hes a hmem)
      simp only [ldC] at k
      obtain ⟨i', hi1⟩ : ∃ i', i' = i + 1 := ⟨_, rfl⟩
      rw [← hi1] at ws
      simp only [push_cast, Nat.reduceAdd, Nat.reduceSub, Nat.reduceMul, Nat.reduceLeDiff, Nat.reduceEqDiff, Nat.reduceLT, Int.reduceLT, Int.reduceLE, Int.reduceEq, Int.reduceNeg, Int.reduceToNat, ldR_length, hlt, hi', hg, ldC]
      refine GoD_call rfl rfl k rfl rfl ?_
      simp only [push_cast, Nat.reduceAdd, Nat.reduceSub, Nat.reduceMul, Nat.reduceLeDiff, Nat.reduceEqDiff, Nat.reduceLT, Int.reduceLT, Int.reduceLE, Int.reduceEq, Int.reduceNeg, Int.reduceToNat, ws]
      refine ⟨_, ?_, hX ⟨i', by omega⟩ (by simp only; omega)⟩
      exact Weak.same (by simp only [push_cast, Nat.reduceAdd, Nat.reduceSub, Nat.reduceMul, Nat.reduceLeDiff, Nat.reduceEqDiff, Nat.reduceLT, Int.reduceLT, Int.reduceLE, Int.reduceEq, Int.reduceNeg, Int.reduceToNat])
    · simp only [Try.ntmps15, Try.results15, push_cast, Nat.reduceAdd, Nat.reduceSub, Nat.reduceMul, Nat.reduceLeDiff, Nat.reduceEqDiff, Nat.reduceLT, Int.reduceLT, Int.reduceLE, Int.reduceEq, Int.reduceNeg, Int.reduceToNat, ldR_length, hlt]
end Go.Proofs.Ytcdjpfikpliagaa
