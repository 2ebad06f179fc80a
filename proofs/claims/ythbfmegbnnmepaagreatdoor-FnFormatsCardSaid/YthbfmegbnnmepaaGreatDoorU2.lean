/- Texts K5 K6 K9 K10 K11 B1 O1 O2 O3 O4 O5 O6 O7 O8 O9 J8 O10 O11 P1 P2 P4 Q1 Q2 Q3 Q4 Q5 F2 Q6 Q7, merged. -/
import Derived.Test.YthbfmegbnnmepaaGreatDoorU1
import Derived.BigRegion
/- Right disks; the newest snapshot. -/
namespace Go.Proofs.YthbfmegbnnmepaaGreatDoor
open Go.RowKit Go.Rx
set_option linter.unusedSimpArgs false
set_option maxRecDepth 100000

def fOk (f : Fil) : Bool := (inR f.name.size 1 8 && decide ((f.text.size : Int) ≤ 20000)) && inR f.kept 0 f.text.size
def fAt (l : List Fil) (i : Nat) : Fil := l.getD i default
def stepsUp (l : List Fil) (i : Nat) : Bool := decide (i = 0) || ltB (fAt l (i - 1)).name (fAt l i).name
def dkTo (l : List Fil) (n : Nat) : Bool := (List.range n).all fun i => fOk (fAt l i) && stepsUp l i
def dkB (l : List Fil) : Bool := decide ((l.length : Int) ≤ 30) && dkTo l l.length
theorem dkTo_zero (l : List Fil) : dkTo l 0 = true := rfl
theorem dkTo_succ (l : List Fil) (i : Nat) : dkTo l (i + 1) = (dkTo l i && (fOk (fAt l i) && stepsUp l i)) := by
  simp [dkTo, List.range_succ, List.all_append]
theorem dkTo_false {l : List Fil} {i : Nat} (h : dkTo l (i + 1) = false) : ∀ {n}, i + 1 ≤ n → dkTo l n = false := by
  intro n hn
  cases h2 : dkTo l n with
  | false => rfl
  | true =>
    have : dkTo l (i + 1) = true := by
      unfold dkTo at h2 ⊢
      rw [List.all_eq_true] at h2 ⊢
      intro x hx
      exact h2 x (List.mem_range.2 (Nat.lt_of_lt_of_le (List.mem_range.1 hx) hn))
    rw [h] at this; cases this
theorem dk_spec {l : List Fil} (h : dkB l = true) : l.length ≤ 30 ∧ ∀ i, i < l.length → fOk (fAt l i) = true ∧ (0 < i → ltB (fAt l (i - 1)).name (fAt l i).name = true) := by
  simp only [dkB, dkTo, Bool.and_eq_true, decide_eq_true_eq, List.all_eq_true, List.mem_range] at h
  refine ⟨by omega, fun i hi => ?_⟩
  obtain ⟨h1, h2⟩ := h.2 i hi
  refine ⟨h1, fun h0 => ?_⟩
  simp only [stepsUp, Bool.or_eq_true, decide_eq_true_eq] at h2
  rcases h2 with h2 | h2
  · omega
  · exact h2
theorem dk_rise {l : List Fil} (h : dkB l = true) : ∀ (d i : Nat), i + d + 1 < l.length → ltB (fAt l i).name (fAt l (i + d + 1)).name = true
  | 0, i, hi => by have := ((dk_spec h).2 (i + 1) hi).2 (by omega); exact this
  | d + 1, i, hi => by
    have h1 := dk_rise h d i (by omega)
    have h2 := ((dk_spec h).2 (i + d + 1 + 1) (by omega)).2 (by omega)
    exact ltB_trans h1 h2
theorem dk_ne {l : List Fil} (h : dkB l = true) {i j : Nat} (hij : i < j) (hj : j < l.length) : (fAt l i).name ≠ (fAt l j).name := by
  obtain ⟨d, rfl⟩ : ∃ d, j = i + d + 1 := ⟨j - i - 1, by omega⟩
  exact ltB_ne (dk_rise h d i hj)

theorem fileOkI_ok (f : Fil) : PureFn Tryz.prog 114 [.agg (filC f)] [bo (fOk f)] := by
  refine PureFn_of_Go Tryz.func114 rfl (by decide) mo (by decide +kernel) ?_
  have k1 := inRange_ok (f.name.size : Int) 1 8
  have k2 := inRange_ok f.kept 0 (f.text.size : Int)
  rw [show (decide ((1 : Int) ≤ (f.name.size : Int)) && decide ((f.name.size : Int) ≤ 8)) = inR f.name.size 1 8 from rfl] at k1
  rw [show (decide ((0 : Int) ≤ f.kept) && decide (f.kept ≤ (f.text.size : Int))) = inR f.kept 0 f.text.size from rfl] at k2
  unfold fOk
  simp only [Tryz.ntmps114, Tryz.results114, push_cast, seval, filC]
  refine GoL_call rfl rfl k1 rfl rfl ?_
  cases c1 : inR f.name.size 1 8 with
  | false => simp only [Tryz.ntmps114, Tryz.results114, push_cast, seval, Bool.false_eq_true]
  | true =>
    by_cases c2 : (f.text.size : Int) ≤ 20000
    · simp only [Tryz.ntmps114, Tryz.results114, push_cast, seval, c2]
      refine GoL_call rfl rfl k2 rfl rfl ?_
      simp only [Tryz.ntmps114, Tryz.results114, push_cast, seval]
    · simp only [Tryz.ntmps114, Tryz.results114, push_cast, seval, c2]
theorem diskOkI_ok (l : List Fil) (h : filSm l) : PureFn Tryz.prog 63 [.agg [.sh 3 (vR (fils l))]] [bo (dkB l)] := by
  refine PureFn_of_Go Tryz.func63 rfl (by decide) mo (by decide +kernel) ?_
  obtain ⟨hl, hs⟩ := h
  simp only [Tryz.ntmps63, Tryz.results63, push_cast, seval, fils_length]
  refine Go_loop (α := {i : Nat // i ≤ l.length ∧ dkTo l i = true})
    (fun i => ⟨tp 37 [(1, .x (.one (.pt (0, 64) [] 1 0 0))), (2, .x (bo false)), (6, .x (.one (.sh 3 (vR (fils l))))), (7, int l.length), (8, int i.1)], 0, [((0, 64), ⟨.box, 1, [[.sh 3 (vR (fils l))]]⟩)], []⟩) (fun i => l.length - i.1) ⟨0, Nat.zero_le _, dkTo_zero l⟩ ?_ ?_
  · exact Weak.same (by simp only [push_cast, seval, Int.ofNat_zero])
  · rintro ⟨i, hi, hd⟩ X hX
    by_cases hlt : (i : Int) < (l.length : Int)
    · have hi' : i < l.length := by omega
      have hg := fils_getD l hi'
      have hmem := getD_mem' l i hi'
      have hdk := dkTo_succ l i
      rw [hd, Bool.true_and] at hdk
      have ws := wsucc hi' (by omega)
      obtain ⟨i', hi1⟩ : ∃ i', i' = i + 1 := ⟨_, rfl⟩
      have hbad : dkTo l i' = false → dkB l = false := fun e => by unfold dkB; rw [dkTo_false (i := i) (by rw [← hi1]; exact e) (by omega), Bool.and_false]
      rw [← hi1] at ws hdk
      rw [show fAt l i = l.getD i default from rfl] at hdk
      have hsu : stepsUp l i = (decide (i = 0) || ltB (l.getD (i - 1) default).name (l.getD i default).name) := rfl
      obtain ⟨f, hf⟩ : ∃ f, f = l.getD i default := ⟨_, rfl⟩
      rw [← hf] at hg hmem hdk hsu
      have k1 := fileOkI_ok f
      simp only [filC] at k1
      simp only [push_cast, seval, hlt, fils_length, hi', hg, filV, vR_getD]
      refine GoD_call rfl rfl k1 rfl rfl ?_
      cases c1 : fOk f with
      | false =>
        rw [c1, Bool.false_and] at hdk
        rw [hbad hdk]
        simp only [Tryz.ntmps63, Tryz.results63, push_cast, seval]
      | true =>
        rw [c1, Bool.true_and] at hdk
        by_cases h0 : (0 : Int) < (i : Int)
        · have w1 : IntKind.i64.wrap ((i : Int) - 1) = ((i - 1 : Nat) : Int) := wN (by omega) (by omega)
          have hg1 := fils_getD l (i := i - 1) (by omega)
          have hi1' : i - 1 < l.length := by omega
          rw [show decide (i = 0) = false by simp; omega, Bool.false_or] at hsu
          obtain ⟨p, hp⟩ : ∃ p, p = i - 1 := ⟨_, rfl⟩
          rw [← hp] at w1 hg1 hi1' hsu
          obtain ⟨f1, hf1⟩ : ∃ f1, f1 = l.getD p default := ⟨_, rfl⟩
          rw [← hf1] at hg1 hsu
          have hpl : (p : Int) < (l.length : Int) := by omega
          rw [hsu] at hdk
          cases c2 : ltB f1.name f.name with
          | false =>
            rw [c2] at hdk
            rw [hbad hdk]
            simp only [Tryz.ntmps63, Tryz.results63, push_cast, seval, h0, w1, fils_length, hpl, hi1', hg1, filV, vR_getD, c2]
          | true =>
            rw [c2] at hdk
            simp only [push_cast, seval, h0, w1, fils_length, hpl, hi1', hg1, filV, vR_getD, c2, ws]
            refine ⟨_, ?_, hX ⟨i', by omega, hdk⟩ (by simp only; omega)⟩
            exact Weak.drop (by simp only [push_cast, seval]) (by simp only [push_cast, seval]) (by simp only [push_cast, seval])
        · have hi0 : i = 0 := by omega
          rw [hsu, show decide (i = 0) = true by simp [hi0], Bool.true_or] at hdk
          simp only [push_cast, seval, h0, ws]
          refine ⟨_, ?_, hX ⟨i', by omega, hdk⟩ (by simp only; omega)⟩
          exact Weak.drop (by simp only [push_cast, seval]) (by simp only [push_cast, seval]) (by simp only [push_cast, seval])
    · obtain rfl : i = l.length := by omega
      rw [show dkB l = decide ((l.length : Int) ≤ 30) by unfold dkB; rw [hd, Bool.and_true]]
      simp only [Tryz.ntmps63, Tryz.results63, push_cast, seval, hlt, fils_length]
end Go.Proofs.YthbfmegbnnmepaaGreatDoor

/- The newest snapshot. -/
namespace Go.Proofs.YthbfmegbnnmepaaGreatDoor
open Go.RowKit Go.Rx
set_option linter.unusedSimpArgs false
set_option maxRecDepth 100000

def snOf (f : Fil) : Snp := zX (uT f.text) (!uB f.text)
def fIx (f : Fil) : Nat := nmN 115 f.name
def goodF (f : Fil) : Bool := nmB 115 1000000 f.name && (sOk f.text && decide ((snOf f).idx = (fIx f : Int)))
def stepN (b : Option Snp) (f : Fil) : Option Snp := if goodF f then (match b with
  | none => some (snOf f)
  | some x => if x.idx < (fIx f : Int) then some (snOf f) else some x) else b
def nsTo (l : List Fil) : Nat → Option Snp
  | 0 => none
  | i + 1 => stepN (nsTo l i) (fAt l i)
def nsO (l : List Fil) : Option Snp := if dkB l then nsTo l l.length else none
def snN : Snp := ⟨0, 0, [], ⟨#[]⟩⟩
def nsS (o : Option Snp) : Snp := o.getD snN
def nsX (o : Option Snp) : List X := [.agg ((nsS o).enc (.own 1)), bo o.isSome]
theorem good_name {f : Fil} (h : goodF f = true) : f.name = nmT 115 (fIx f) ∧ sOk f.text = true ∧ (snOf f).idx = (fIx f : Int) := by
  simp only [goodF, Bool.and_eq_true, decide_eq_true_eq] at h
  exact ⟨(nm_spec h.1).1, h.2.1, h.2.2⟩
/-- Whence the best one is. -/
def FromL (l : List Fil) (i : Nat) (o : Option Snp) : Prop := ∀ x, o = some x → ∃ k, k < i ∧ goodF (fAt l k) = true ∧ x.idx = (fIx (fAt l k) : Int)
theorem from_step {l : List Fil} {i : Nat} {o : Option Snp} (h : FromL l i o) : FromL l (i + 1) (stepN o (fAt l i)) := by
  intro x hx
  unfold stepN at hx
  split at hx
  · rename_i hg
    split at hx
    · cases hx
      exact ⟨i, by omega, hg, (good_name hg).2.2⟩
    · rename_i y
      split at hx
      · cases hx; exact ⟨i, by omega, hg, (good_name hg).2.2⟩
      · obtain ⟨k, h1, h2⟩ := h y rfl
        cases hx
        exact ⟨k, by omega, h2⟩
  · obtain ⟨k, h1, h2⟩ := h x hx
    exact ⟨k, by omega, h2⟩
theorem from_to (l : List Fil) : ∀ i, FromL l i (nsTo l i)
  | 0 => fun x h => by cases h
  | i + 1 => from_step (from_to l i)
theorem no_tie {l : List Fil} (hd : dkB l = true) {i : Nat} (hi : i < l.length) (hg : goodF (fAt l i) = true) {x : Snp} (hx : nsTo l i = some x) : x.idx ≠ (fIx (fAt l i) : Int) := by
  intro he
  obtain ⟨k, h1, h2, h3⟩ := from_to l i x hx
  refine dk_ne hd h1 hi ?_
  rw [(good_name h2).1, (good_name hg).1]
  congr 1
  omega
theorem step_bad {o : Option Snp} {f : Fil} (h : goodF f = false) : stepN o f = o := by unfold stepN; rw [h]; rfl
theorem step_low {x : Snp} {f : Fil} (h : (fIx f : Int) < x.idx) : stepN (some x) f = some x := by
  unfold stepN
  split
  · simp only; rw [if_neg (by omega)]
  · rfl
theorem step_good {o : Option Snp} {f : Fil} (h : goodF f = true) (h2 : ∀ x, o = some x → x.idx < (fIx f : Int)) : stepN o f = some (snOf f) := by
  unfold stepN
  rw [if_pos h]
  cases o with
  | none => rfl
  | some x => simp only; rw [if_pos (h2 x rfl)]
def bxS (x : Snp) (c : C) : List C := [.v (.int .i64 x.idx), .v (.int .i64 x.term), c, .v (.string x.body)]
set_option maxHeartbeats 1000000 in
theorem newestI_ok (l : List Fil) (h : filSm l) : PureFn Tryz.prog 23 [.agg [.sh 3 (vR (fils l))]] (nsX (nsO l)) := by
  refine PureFn_of_GoW Tryz.func23 rfl (by decide) mo (by decide +kernel) ?_
  have k0 := diskOkI_ok l h
  obtain ⟨hl, hs⟩ := h
  simp only [Tryz.ntmps23, Tryz.results23, push_cast, seval, fils_length]
  refine GoL_call rfl (by simp only [push_cast, seval, fils_length, fils_take]) k0 rfl rfl ?_
  cases hd : dkB l with
  | false =>
    rw [nsO, hd, if_neg Bool.false_ne_true]
    simp only [Tryz.ntmps23, Tryz.results23, push_cast, seval]
    refine ⟨_, Weak.nilCell (0, 129) (0, 128) 1 2 rfl rfl rfl rfl, ?_⟩
    simp only [Tryz.ntmps23, Tryz.results23, push_cast, seval, nsX, nsS, snN, Snp.enc, List.set, show vR (ints []) = [] from rfl, Option.getD_none]
  | true =>
    rw [nsO, hd, if_pos rfl]
    simp only [Tryz.ntmps23, Tryz.results23, push_cast, seval, fils_length]
    refine Go_loop (α := {i : Nat // i ≤ l.length})
      (fun i => ⟨tp 57 [(1, .x (.one (.pt (0, 64) [] 1 0 0))), (2, .x (.one (.pt (0, 128) [] 4 0 0))), (4, .x (.one (.pt (0, 256) [] 4 0 0))), (5, .x (bo (nsTo l i.1).isSome)), (17, .x (.one (.sh 3 (vR (fils l))))), (18, int l.length), (19, int i.1)], 0,
        [((0, 257), ⟨.sl, 1, vR (ints (nsS (nsTo l i.1)).conf)⟩), ((0, 256), ⟨.box, 4, [bxS (nsS (nsTo l i.1)) (.rs (0, 257) [] 1 0 (nsS (nsTo l i.1)).conf.length)]⟩), ((0, 128), ⟨.box, 4, [[.v (.int .i64 0), .v (.int .i64 0), .v (.slice none 0 0), .v (.string ⟨#[]⟩)]]⟩), ((0, 64), ⟨.box, 1, [[.sh 3 (vR (fils l))]]⟩)], []⟩) (fun i => l.length - i.1) ⟨0, Nat.zero_le _⟩ ?_ ?_
    · refine Weak.trans (Weak.nilCell (0, 257) (0, 256) 1 2 rfl rfl rfl rfl) ?_
      simp only [push_cast, seval, nsTo, nsS, snN, bxS, Int.ofNat_zero, List.set, Option.getD_none, show vR (ints []) = [] from rfl]
      exact Weak.same (by simp only [push_cast, seval])
    · rintro ⟨i, hi⟩ X hX
      simp only
      by_cases hlt : (i : Int) < (l.length : Int)
      · have hi' : i < l.length := by omega
        have hg := fils_getD l hi'
        have hmem := getD_mem' l i hi'
        have ws := wsucc hi' (by omega)
        have hst : nsTo l (i + 1) = stepN (nsTo l i) (l.getD i default) := rfl
        have htie := fun (hg : goodF (fAt l i) = true) (x : Snp) (hx : nsTo l i = some x) => no_tie hd hi' hg hx
        rw [show fAt l i = l.getD i default from rfl] at htie
        obtain ⟨i', hi1⟩ : ∃ i', i' = i + 1 := ⟨_, rfl⟩
        rw [← hi1] at ws hst
        obtain ⟨f, hf⟩ : ∃ f, f = l.getD i default := ⟨_, rfl⟩
        rw [← hf] at hg hmem hst htie
        obtain ⟨x, hx, k1⟩ := snapIndexI_ok f.name (hs f hmem).1
        simp only [push_cast, seval, hlt, fils_length, hi', hg, filV, vR_getD, bxS]
        refine GoL_call rfl rfl k1 rfl rfl ?_
        cases c1 : nmB 115 1000000 f.name with
        | false =>
          have hbad : goodF f = false := by simp [goodF, c1]
          simp only [push_cast, seval, ws]
          refine ⟨_, ?_, hX ⟨i', by omega⟩ (by simp only; omega)⟩
          rw [hst, step_bad hbad]
          exact Weak.drop (by simp only [push_cast, seval, bxS]) (by simp only [push_cast, seval, bxS]) (by simp only [push_cast, seval, bxS])
        | true =>
          have hx := hx c1
          rw [show (nmN 115 f.name : Int) = (fIx f : Int) from rfl] at hx
          subst hx
          cases hon : (nsTo l i).isSome with
          | false =>
            have hno : nsTo l i = none := by cases e : nsTo l i with | none => rfl | some y => rw [e] at hon; cases hon
            simp only [push_cast, seval]
            have kr := readSnapI_ok f.text (hs f hmem).2
            cases c2 : sOk f.text with
            | false =>
              have hbad : goodF f = false := by simp [goodF, c2]
              rw [sR_false c2, snZ] at kr
              refine GoL_call rfl rfl kr rfl rfl ?_
              simp only [push_cast, seval, ws]
              refine ⟨_, ?_, hX ⟨i', by omega⟩ (by simp only; omega)⟩
              rw [hst, step_bad hbad]
              exact Weak.drop (by simp only [push_cast, seval, bxS, hon]) (by simp only [push_cast, seval, bxS, hon]) (by simp only [push_cast, seval, bxS, hon])
            | true =>
              rw [sR_true c2, show (zX (uT f.text) (!uB f.text)) = snOf f from rfl, Snp.enc] at kr
              refine GoL_call rfl rfl kr (by simp only [push_cast, seval]) rfl ?_
              by_cases c3 : (snOf f).idx = (fIx f : Int)
              · have hgood : goodF f = true := by simp [goodF, c1, c2, c3]
                have hlow := step_good (o := nsTo l i) hgood (fun x h => by rw [hno] at h; cases h)
                simp only [push_cast, seval, c3, ws]
                refine ⟨_, ?_, hX ⟨i', by omega⟩ (by simp only; omega)⟩
                rw [hst, hlow]
                refine Weak.trans (σ' := ⟨tp 57 [(1, .x (.one (.pt (0, 64) [] 1 0 0))), (2, .x (.one (.pt (0, 128) [] 4 0 0))), (4, .x (.one (.pt (0, 256) [] 4 0 0))), (5, .x (bo true)), (17, .x (.one (.sh 3 (vR (fils l))))), (18, int l.length), (19, int i')], 0,
                  [((0, 2754), ⟨.sl, 1, vR (ints (snOf f).conf)⟩), ((0, 256), ⟨.box, 4, [bxS (snOf f) (.rs (0, 2754) [] 1 0 (snOf f).conf.length)]⟩), ((0, 128), ⟨.box, 4, [[.v (.int .i64 0), .v (.int .i64 0), .v (.slice none 0 0), .v (.string ⟨#[]⟩)]]⟩), ((0, 64), ⟨.box, 1, [[.sh 3 (vR (fils l))]]⟩)], []⟩) (Weak.drop (by simp only [push_cast, seval, bxS, ints_length, c3]) (by simp only [push_cast, seval, bxS, ints_length, c3]) (by simp only [push_cast, seval, bxS, ints_length, c3])) ?_
                refine Weak.trans (Weak.rename (0, 2754) (0, 257) rfl rfl (by decide) rfl) ?_
                simp only [push_cast, seval, bxS, ren_vR', nsS, Option.getD_some, Option.isSome_some]
                exact Weak.refl _
              · have hbad : goodF f = false := by simp [goodF, c3]
                simp only [push_cast, seval, c3, ws]
                refine ⟨_, ?_, hX ⟨i', by omega⟩ (by simp only; omega)⟩
                rw [hst, step_bad hbad]
                exact Weak.drop (by simp only [push_cast, seval, bxS, hon]) (by simp only [push_cast, seval, bxS, hon]) (by simp only [push_cast, seval, bxS, hon])
          | true =>
            obtain ⟨y, hy⟩ := Option.isSome_iff_exists.1 hon
            have hyS : nsS (nsTo l i) = y := by rw [hy]; rfl
            by_cases c0 : (fIx f : Int) < (nsS (nsTo l i)).idx
            · simp only [push_cast, seval, c0, ws]
              refine ⟨_, ?_, hX ⟨i', by omega⟩ (by simp only; omega)⟩
              rw [hst, show stepN (nsTo l i) f = nsTo l i by rw [hy]; exact step_low (by rw [← hyS]; exact c0)]
              exact Weak.drop (by simp only [push_cast, seval, bxS, hon]) (by simp only [push_cast, seval, bxS, hon]) (by simp only [push_cast, seval, bxS, hon])
            · simp only [push_cast, seval, c0]
              have kr := readSnapI_ok f.text (hs f hmem).2
              cases c2 : sOk f.text with
              | false =>
                have hbad : goodF f = false := by simp [goodF, c2]
                rw [sR_false c2, snZ] at kr
                refine GoL_call rfl rfl kr rfl rfl ?_
                simp only [push_cast, seval, ws]
                refine ⟨_, ?_, hX ⟨i', by omega⟩ (by simp only; omega)⟩
                rw [hst, step_bad hbad]
                exact Weak.drop (by simp only [push_cast, seval, bxS, hon]) (by simp only [push_cast, seval, bxS, hon]) (by simp only [push_cast, seval, bxS, hon])
              | true =>
                rw [sR_true c2, show (zX (uT f.text) (!uB f.text)) = snOf f from rfl, Snp.enc] at kr
                refine GoL_call rfl rfl kr (by simp only [push_cast, seval]) rfl ?_
                by_cases c3 : (snOf f).idx = (fIx f : Int)
                · have hgood : goodF f = true := by simp [goodF, c1, c2, c3]
                  have hlow := step_good (o := nsTo l i) hgood (fun x h => by have := htie hgood x h; rw [hy] at h; cases h; rw [hyS] at c0; omega)
                  simp only [push_cast, seval, c3, ws]
                  refine ⟨_, ?_, hX ⟨i', by omega⟩ (by simp only; omega)⟩
                  rw [hst, hlow]
                  refine Weak.trans (σ' := ⟨tp 57 [(1, .x (.one (.pt (0, 64) [] 1 0 0))), (2, .x (.one (.pt (0, 128) [] 4 0 0))), (4, .x (.one (.pt (0, 256) [] 4 0 0))), (5, .x (bo true)), (17, .x (.one (.sh 3 (vR (fils l))))), (18, int l.length), (19, int i')], 0,
                    [((0, 2754), ⟨.sl, 1, vR (ints (snOf f).conf)⟩), ((0, 256), ⟨.box, 4, [bxS (snOf f) (.rs (0, 2754) [] 1 0 (snOf f).conf.length)]⟩), ((0, 128), ⟨.box, 4, [[.v (.int .i64 0), .v (.int .i64 0), .v (.slice none 0 0), .v (.string ⟨#[]⟩)]]⟩), ((0, 64), ⟨.box, 1, [[.sh 3 (vR (fils l))]]⟩)], []⟩) (Weak.drop (by simp only [push_cast, seval, bxS, ints_length, c3]) (by simp only [push_cast, seval, bxS, ints_length, c3]) (by simp only [push_cast, seval, bxS, ints_length, c3])) ?_
                  refine Weak.trans (Weak.rename (0, 2754) (0, 257) rfl rfl (by decide) rfl) ?_
                  simp only [push_cast, seval, bxS, ren_vR', nsS, Option.getD_some, Option.isSome_some]
                  exact Weak.refl _
                · have hbad : goodF f = false := by simp [goodF, c3]
                  simp only [push_cast, seval, c3, ws]
                  refine ⟨_, ?_, hX ⟨i', by omega⟩ (by simp only; omega)⟩
                  rw [hst, step_bad hbad]
                  exact Weak.drop (by simp only [push_cast, seval, bxS, hon]) (by simp only [push_cast, seval, bxS, hon]) (by simp only [push_cast, seval, bxS, hon])
      · obtain rfl : i = l.length := by omega
        have ht := ints_take (nsS (nsTo l l.length)).conf
        simp only [Tryz.ntmps23, Tryz.results23, push_cast, seval, hlt, bxS]
        refine ⟨_, Weak.refl _, ?_⟩
        simp only [Tryz.ntmps23, Tryz.results23, push_cast, seval, nsX, Snp.enc, ints_length, ht]
end Go.Proofs.YthbfmegbnnmepaaGreatDoor

/- Old snapshots dropped: what both ways come to. -/
namespace Go.Proofs.YthbfmegbnnmepaaGreatDoor
open Go.RowKit Go.Rx
set_option linter.unusedSimpArgs false
set_option maxRecDepth 100000

def sPlus : ByteArray := ⟨#[115, 43]⟩
def actD (s : ByteArray) : Acd := ⟨4, s, ⟨#[]⟩, ⟨#[]⟩⟩
def dropS (n : Nat) (f : Fil) : Bool := nmB 115 1000000 f.name && decide (fIx f ≠ n)
def dropI (n : Nat) (f : Fil) : Bool := decide (f.name = sPlus) || dropS n f
def shI (l : List Fil) (n : Nat) : List Acd := (l.filter (dropI n)).map fun f => actD f.name
def shD (l : List Fil) (n : Nat) : List Acd := (l.filter (dropS n)).map fun f => actD f.name
def atR (s : ByteArray) : List Fil → Nat → Int
  | [], _ => -1
  | f :: r, i => if f.name = s then (i : Int) else atR s r (i + 1)
def newL (l : List Fil) : List Acd := if 0 ≤ atR sPlus l 0 then [actD sPlus] else []
def shS (l : List Fil) (n : Nat) : List Acd := newL l ++ shD l n
theorem atR_pos (s : ByteArray) : ∀ (l : List Fil) (i : Nat), 0 ≤ atR s l i ↔ ∃ f ∈ l, f.name = s
  | [], i => by simp [atR]
  | f :: r, i => by
    unfold atR
    split
    · rename_i h
      exact ⟨fun _ => ⟨f, List.mem_cons_self .., h⟩, fun _ => by omega⟩
    · rename_i h
      rw [atR_pos s r (i + 1)]
      constructor
      · rintro ⟨g, h1, h2⟩; exact ⟨g, List.mem_cons_of_mem _ h1, h2⟩
      · rintro ⟨g, h1, h2⟩
        rcases List.mem_cons.1 h1 with rfl | h1
        · exact absurd h2 h
        · exact ⟨g, h1, h2⟩
theorem decDigits_head (n : Nat) : ∃ d r, Lib.decDigits n = d :: r ∧ isD d = true := by
  have h := (dvL_dec n).2
  cases e : Lib.decDigits n with
  | nil =>
    exfalso
    rw [Lib.decDigits] at e
    split at e
    · cases e
    · simp at e
  | cons d r =>
    rw [e, List.all_cons, Bool.and_eq_true] at h
    exact ⟨d, r, rfl, h.1⟩
theorem plus_lt {s : ByteArray} (h : nmB 115 1000000 s = true) : ltB sPlus s = true := by
  obtain ⟨h1, _⟩ := nm_spec h
  obtain ⟨d, r, h2, h3⟩ := decDigits_head (nmN 115 s)
  rw [h1]
  unfold ltB nmT
  rw [app_list, decB_list, h2]
  show Op.bytesLess [115, 43] (115 :: d :: r) = true
  rw [isD_iff] at h3
  have : (43 : UInt8) < d := by rw [UInt8.lt_iff_toNat_lt]; show 43 < d.toNat; omega
  simp [Op.bytesLess, this]
def Up (l : List Fil) : Prop := l.Pairwise fun a b => ltB a.name b.name = true
theorem up_of {l : List Fil} (h : dkB l = true) : Up l := by
  unfold Up
  rw [List.pairwise_iff_getElem]
  intro i j hi hj hij
  obtain ⟨d, rfl⟩ : ∃ d, j = i + d + 1 := ⟨j - i - 1, by omega⟩
  have := dk_rise h d i hj
  simpa [fAt, List.getD_eq_getElem?_getD, List.getElem?_eq_getElem hi, List.getElem?_eq_getElem hj] using this
theorem no_plus {l : List Fil} (h : ∀ f ∈ l, f.name ≠ sPlus) (n : Nat) : shI l n = shD l n ∧ newL l = [] := by
  constructor
  · unfold shI shD
    congr 1
    refine List.filter_congr fun f hf => ?_
    simp [dropI, h f hf]
  · unfold newL
    rw [if_neg]
    intro h0
    obtain ⟨f, h1, h2⟩ := (atR_pos sPlus l 0).1 h0
    exact h f h1 h2
theorem sh_eq : ∀ (l : List Fil) (n : Nat), Up l → shI l n = shS l n
  | [], n, _ => rfl
  | f :: l, n, hu => by
    obtain ⟨h1, h2⟩ := List.pairwise_cons.1 hu
    by_cases hp : f.name = sPlus
    · have hno : ∀ g ∈ l, g.name ≠ sPlus := fun g hg e => by
        have := h1 g hg
        rw [hp, e, ltB_irrefl] at this; cases this
      have hnd : dropS n f = false := by
        cases e : nmB 115 1000000 f.name with
        | false => simp [dropS, e]
        | true => have := plus_lt e; rw [hp, ltB_irrefl] at this; cases this
      obtain ⟨k1, _⟩ := no_plus hno n
      have e1 : shI (f :: l) n = actD sPlus :: shI l n := by
        unfold shI
        rw [List.filter_cons_of_pos (by simp [dropI, hp]), List.map_cons, hp]
      have e2 : shD (f :: l) n = shD l n := by
        unfold shD
        rw [List.filter_cons_of_neg (by simp [hnd])]
      have e3 : newL (f :: l) = [actD sPlus] := by
        unfold newL
        rw [if_pos ((atR_pos sPlus (f :: l) 0).2 ⟨f, List.mem_cons_self .., hp⟩)]
      rw [shS, e1, e2, e3, k1]; rfl
    · by_cases hl : ∃ g ∈ l, g.name = sPlus
      · obtain ⟨g, hg, hgp⟩ := hl
        have hlt := h1 g hg
        rw [hgp] at hlt
        have hnd : dropS n f = false := by
          cases e : nmB 115 1000000 f.name with
          | false => simp [dropS, e]
          | true => have := ltB_trans (plus_lt e) hlt; rw [ltB_irrefl] at this; cases this
        have e1 : shI (f :: l) n = shI l n := by
          unfold shI
          rw [List.filter_cons_of_neg (by simp [dropI, hp, hnd])]
        have e2 : shD (f :: l) n = shD l n := by
          unfold shD
          rw [List.filter_cons_of_neg (by simp [hnd])]
        have e3 : newL (f :: l) = newL l := by
          unfold newL
          rw [if_pos ((atR_pos sPlus (f :: l) 0).2 ⟨g, List.mem_cons_of_mem _ hg, hgp⟩), if_pos ((atR_pos sPlus l 0).2 ⟨g, hg, hgp⟩)]
        rw [e1, shS, e2, e3]; exact sh_eq l n h2
      · have hno : ∀ g ∈ f :: l, g.name ≠ sPlus := fun g hg e => by
          rcases List.mem_cons.1 hg with rfl | hg
          · exact hp e
          · exact hl ⟨g, hg, e⟩
        obtain ⟨k1, k2⟩ := no_plus hno n
        rw [shS, k1, k2]; rfl
theorem take_snoc {l : List Fil} {i : Nat} (h : i < l.length) : l.take (i + 1) = l.take i ++ [l.getD i default] := by
  rw [List.take_succ_eq_append_getElem h, List.getD_eq_getElem?_getD, List.getElem?_eq_getElem h]; rfl
theorem shI_succ {l : List Fil} {i : Nat} (h : i < l.length) (n : Nat) : shI (l.take (i + 1)) n = shI (l.take i) n ++ (if dropI n (l.getD i default) then [actD (l.getD i default).name] else []) := by
  unfold shI
  rw [take_snoc h, List.filter_append, List.map_append]
  congr 1
  cases hd : dropI n (l.getD i default) with
  | true => rw [if_pos rfl, List.filter_cons_of_pos hd]; rfl
  | false => rw [if_neg Bool.false_ne_true, List.filter_cons_of_neg (by rw [hd]; exact Bool.false_ne_true)]; rfl
theorem shI_len (l : List Fil) (n : Nat) : (shI l n).length ≤ l.length := by
  unfold shI; rw [List.length_map]; exact List.length_filter_le _ _
theorem shD_len (l : List Fil) (n : Nat) : (shD l n).length ≤ l.length := by
  unfold shD; rw [List.length_map]; exact List.length_filter_le _ _
theorem newL_len (l : List Fil) : (newL l).length ≤ 1 := by
  unfold newL; split
  · exact Nat.le_refl _
  · exact Nat.zero_le _
/-- The index of the newest one. -/
theorem ns_idx {l : List Fil} {x : Snp} (h : nsO l = some x) : dkB l = true ∧ ∃ n : Nat, x.idx = (n : Int) ∧ n ≤ 1000000 := by
  unfold nsO at h
  split at h
  · rename_i hd
    refine ⟨hd, ?_⟩
    obtain ⟨k, _, h2, h3⟩ := from_to l _ x h
    have hn : nmB 115 1000000 (fAt l k).name = true := by
      simp only [goodF, Bool.and_eq_true] at h2; exact h2.1
    have := (nm_spec hn).2.1
    exact ⟨fIx (fAt l k), h3, by unfold fIx; omega⟩
  · cases h
def shO (l : List Fil) : List Acd := match nsO l with
  | some x => shS l x.idx.toNat
  | none => []
theorem shO_len (l : List Fil) : (shO l).length ≤ 40 := by
  unfold shO
  split
  · rename_i x h
    have h1 := (dk_spec (ns_idx h).1).1
    have h2 := newL_len l
    have h3 := shD_len l x.idx.toNat
    rw [shS, List.length_append]; omega
  · exact Nat.zero_le _
end Go.Proofs.YthbfmegbnnmepaaGreatDoor

/- ShedActs: the code. -/
namespace Go.Proofs.YthbfmegbnnmepaaGreatDoor
open Go.RowKit Go.Rx
set_option linter.unusedSimpArgs false
set_option maxRecDepth 100000

end Go.Proofs.YthbfmegbnnmepaaGreatDoor

/- ShedActs both ways. -/
namespace Go.Proofs.YthbfmegbnnmepaaGreatDoor
open Go.RowKit Go.Rx
set_option linter.unusedSimpArgs false
set_option maxRecDepth 100000

theorem acds_flat (l : List Acd) : (vR (acds l)).all flatRow = true := by
  rw [List.all_eq_true]
  intro r hr
  unfold vR acds at hr
  rw [List.map_map] at hr
  obtain ⟨a, _, rfl⟩ := List.mem_map.1 hr
  rfl
set_option maxHeartbeats 1000000 in
theorem shedI_ok (l : List Fil) (h : filSm l) : PureFn Tryz.prog 27 [.agg [.sh 3 (vR (fils l))]] [.one (.own 4 (vR (acds (shO l))))] := by
  refine PureFn_of_GoW Tryz.func27 rfl (by decide) mo (by decide +kernel) ?_
  have k1 := newestI_ok l h
  simp only [Tryz.ntmps27, Tryz.results27, push_cast, seval, fils_length]
  cases ho : nsO l with
  | none =>
    rw [ho, nsX, show nsS none = snN from rfl, snN] at k1
    simp only [Snp.enc, show vR (ints []) = [] from rfl, Option.isSome_none] at k1
    refine GoL_call rfl (by simp only [push_cast, seval, fils_length, fils_take]) k1 (by simp only [push_cast, seval]) rfl ?_
    rw [shO, ho, show vR (acds []) = [] from rfl]
    simp only [Tryz.ntmps27, Tryz.results27, push_cast, seval]
    refine ⟨_, Weak.nilRoot (0, 128) 4 2 rfl rfl rfl, ?_⟩
    simp only [Tryz.ntmps27, Tryz.results27, push_cast, seval, List.set]
  | some x =>
    obtain ⟨hd, n, hn, hn2⟩ := ns_idx ho
    rw [ho, nsX, show nsS (some x) = x from rfl] at k1
    simp only [Snp.enc, Option.isSome_some, hn] at k1
    have h30 := (dk_spec hd).1
    have ks := snapNameI_ok n hn2
    have hlen : (shO l).length ≤ 40 := shO_len l
    rw [show shO l = shI l n by rw [sh_eq l n (up_of hd), shO, ho]; show shS l x.idx.toNat = _; rw [hn]; rfl] at hlen ⊢
    obtain ⟨hl, hs⟩ := h
    refine GoL_call rfl (by simp only [push_cast, seval, fils_length, fils_take]) k1 (by simp only [push_cast, seval]) rfl ?_
    simp only [Tryz.ntmps27, Tryz.results27, push_cast, seval, fils_length]
    have hpl : (⟨#[115, 43]⟩ : ByteArray) = sPlus := rfl
    refine Go_loop (α := {i : Nat // i ≤ l.length})
      (fun i => ⟨tp 52 [(1, .x (.one (.pt (0, 64) [] 1 0 0))), (3, .x (.one (.pt (0, 192) [] 4 0 0))), (5, .x (.one (.rs (0, 3136) [] 4 0 (shI (l.take i.1) n).length))), (18, .x (.one (.sh 3 (vR (fils l))))), (19, int l.length), (20, int i.1)], 0,
        [((0, 3136), ⟨.sl, 4, vR (acds (shI (l.take i.1) n))⟩), ((0, 192), ⟨.box, 4, [[.v (.int .i64 n), .v (.int .i64 x.term), .rs (0, 770) [] 1 0 x.conf.length, .v (.string x.body)]]⟩), ((0, 770), ⟨.sl, 1, vR (ints x.conf)⟩), ((0, 64), ⟨.box, 1, [[.sh 3 (vR (fils l))]]⟩)], []⟩) (fun i => l.length - i.1) ⟨0, Nat.zero_le _⟩ ?_ ?_
    · refine Weak.trans (Weak.nilRoot (0, 3136) 4 5 rfl rfl rfl) ?_
      rw [show shI (l.take 0) n = [] from rfl, show vR (acds []) = [] from rfl]
      simp only [push_cast, seval, Int.ofNat_zero, List.set, ints_length]
      exact Weak.same (by simp only [push_cast, seval])
    · rintro ⟨i, hi⟩ X hX
      simp only
      by_cases hlt : (i : Int) < (l.length : Int)
      · have hi' : i < l.length := by omega
        have hg := fils_getD l hi'
        have hmem := getD_mem' l i hi'
        have ws := wsucc hi' (by omega)
        have hsu := shI_succ hi' n
        have hln := shI_len (l.take i) n
        rw [List.length_take] at hln
        obtain ⟨i', hi1⟩ : ∃ i', i' = i + 1 := ⟨_, rfl⟩
        rw [← hi1] at ws hsu
        obtain ⟨f, hf⟩ : ∃ f, f = l.getD i default := ⟨_, rfl⟩
        rw [← hf] at hg hmem hsu
        obtain ⟨y, _, kn⟩ := snapIndexI_ok f.name (hs f hmem).1
        generalize shI (l.take i) n = A at hsu hln
        have hal := acds_length A
        have hat := acds_take A
        have a0 : A.length + 1 ≤ 4294967296 := by omega
        have a1 := max_len a0
        have a2 := room_le (b := 56) a0 (by decide)
        have hsn := acds_snoc A (actD f.name)
        simp only [acdC, actD] at hsn
        simp only [push_cast, seval, hlt, fils_length, hi', hg, filV, vR_getD]
        refine GoL_call rfl rfl kn rfl rfl ?_
        simp only [push_cast, seval, hpl]
        by_cases c1 : f.name = sPlus
        · have hd : dropI n f = true := by simp [dropI, c1]
          rw [hd, if_pos rfl] at hsu
          have hll : (shI (l.take i') n).length = A.length + 1 := by rw [hsu, List.length_append]; rfl
          simp only [actD] at hsu
          rw [← hsu, c1] at hsn
          simp only [push_cast, seval, c1, ws, a1, a2, hal, hsn]
          refine ⟨_, ?_, hX ⟨i', by omega⟩ (by simp only; omega)⟩
          exact Weak.drop (by simp only [push_cast, seval, hll]) (by simp only [push_cast, seval, hll]) (by simp only [push_cast, seval, hll])
        · cases c2 : nmB 115 1000000 f.name with
          | false =>
            have hd : dropI n f = false := by simp [dropI, dropS, c1, c2]
            rw [hd, if_neg Bool.false_ne_true, List.append_nil] at hsu
            simp only [push_cast, seval, c1, ws]
            refine ⟨_, ?_, hX ⟨i', by omega⟩ (by simp only; omega)⟩
            simp only [hsu]
            exact Weak.drop (by simp only [push_cast, seval]) (by simp only [push_cast, seval]) (by simp only [push_cast, seval])
          | true =>
            simp only [push_cast, seval, c1]
            refine GoD_call rfl rfl ks rfl rfl ?_
            by_cases c3 : f.name = nmT 115 n
            · have hix : fIx f = n := by unfold fIx; rw [c3]; exact (nm_of (c := 115) (M := 1000000) (by omega) (by omega)).2
              have hd : dropI n f = false := by simp [dropI, dropS, c1, hix]
              rw [hd, if_neg Bool.false_ne_true, List.append_nil] at hsu
              simp only [push_cast, seval, c3, ws]
              refine ⟨_, ?_, hX ⟨i', by omega⟩ (by simp only; omega)⟩
              simp only [hsu]
              exact Weak.drop (by simp only [push_cast, seval]) (by simp only [push_cast, seval]) (by simp only [push_cast, seval])
            · have hix : ¬ fIx f = n := fun e => c3 (by rw [← e]; exact (nm_spec c2).1)
              have hd : dropI n f = true := by simp [dropI, dropS, c2, hix]
              rw [hd, if_pos rfl] at hsu
              have hll : (shI (l.take i') n).length = A.length + 1 := by rw [hsu, List.length_append]; rfl
              simp only [actD] at hsu
              rw [← hsu] at hsn
              simp only [push_cast, seval, c3, ws, a1, a2, hal, hsn]
              refine ⟨_, ?_, hX ⟨i', by omega⟩ (by simp only; omega)⟩
              exact Weak.drop (by simp only [push_cast, seval, hll]) (by simp only [push_cast, seval, hll]) (by simp only [push_cast, seval, hll])
      · obtain rfl : i = l.length := by omega
        have hat := acds_take (shI l n)
        have hal := acds_length (shI l n)
        simp only [Tryz.ntmps27, Tryz.results27, push_cast, seval, hlt, take_all, hal, hat]
        refine ⟨_, Weak.refl _, ?_⟩
        simp only [Tryz.ntmps27, Tryz.results27, push_cast, seval, take_all, hal, hat]
end Go.Proofs.YthbfmegbnnmepaaGreatDoor

/- strings.Builder: what its methods do, in the model itself. -/
namespace Go.Proofs.YthbfmegbnnmepaaGreatDoor
open Go.RowKit Go.Rx
set_option linter.unusedSimpArgs false
set_option linter.unusedVariables false
set_option maxRecDepth 100000

theorem bld_info : ∃ j, Tryz.prog.info? 98 = some j ∧ j.size ≠ 0 := by
  have h : (Tryz.prog.info? 98).map (·.size) = some 2 := by kernel_rfl
  obtain ⟨j, h1, h2⟩ := Option.map_eq_some_iff.1 h
  exact ⟨j, h1, by omega⟩
theorem byte_info : ∃ i, Tryz.prog.info? 5 = some i ∧ i.zero = some (.int .u8 0) ∧ i.size = 1 ∧ i.bytes = 1 := by
  have h : (Tryz.prog.info? 5).map (fun i => (i.zero, i.size, i.bytes)) = some (some (.int .u8 0), 1, 1) := by kernel_rfl
  obtain ⟨j, h1, h2⟩ := Option.map_eq_some_iff.1 h
  simp only [Prod.mk.injEq] at h2
  exact ⟨j, h1, h2⟩
theorem bld_lies : liesAt Tryz.prog Tryz.prog.depth 98 (2 / Tryz.prog.cellsOf 98) 0 98 1 = true := by kernel_rfl
theorem u_pb : Tryz.prog.underlying 96 = some (.pointer 98) := by kernel_rfl
theorem u_up : Tryz.prog.underlying 217 = some .unsafePointer := by kernel_rfl
theorem u_bs : Tryz.prog.underlying 22 = some (.slice 5) := by kernel_rfl
theorem u_p8 : Tryz.prog.underlying 179 = some (.pointer 5) := by kernel_rfl
theorem byte_cells : Tryz.prog.cellsOf 5 = 1 := by kernel_rfl
theorem u_st : Tryz.prog.underlying 9 = some .string := by kernel_rfl

theorem noesc (args : Array Value) (w : World) : (callFunc 147 args).run Tryz.prog w = ((Extern.AbiNoEscape.same args).run Tryz.prog w).andThen fun v w' => .ok (.value v) w' :=
  run_callFunc_extern Tryz.func147 (by kernel_rfl) (by kernel_rfl) (by kernel_rfl) (by kernel_rfl) args w

theorem copy_used (b : Nat) (w : World) (h0 : w.cell? ⟨b, 0, none⟩ = some (.pointer (some ⟨b, 0, none⟩))) :
    Calls Tryz.prog 106 #[.pointer (some ⟨b, 0, none⟩)] w fun e w' => e = .returned (.tuple #[]) ∧ w' = w := by
  obtain ⟨j, hj, _⟩ := bld_info
  go_enter Tryz.func106, Tryz.ntmps106
  go_wp2
  rw [Lib.run_neq_ptr_same w _ u_pb hj]
  go_wp2
  go_end0
  exact ⟨rfl, rfl⟩

theorem copy_fresh (b : Nat) (w : World) (h0 : w.cell? ⟨b, 0, none⟩ = some (.pointer none)) (hsh : w.shape? b = some (98, 2)) (hfz : w.frozen? ⟨b, 0, none⟩ = false) :
    Calls Tryz.prog 106 #[.pointer (some ⟨b, 0, none⟩)] w fun e w' => e = .returned (.tuple #[]) ∧ w' = w.setCell ⟨b, 0, none⟩ (.pointer (some ⟨b, 0, none⟩)) := by
  obtain ⟨j, hj, hjs⟩ := bld_info
  go_enter Tryz.func106, Tryz.ntmps106
  go_wp2
  rw [Lib.run_to_unsafe w ⟨b, 0, none⟩ u_pb u_up hj hjs hsh (Nat.zero_lt_succ 1)]
  simp only [Result.andThen]
  rw [Oper.upon_value]
  go_wp2
  rw [noesc, Lib.run_noEscape]
  simp only [Result.andThen]
  rw [Oper.upon_value]
  go_wp2
  rw [Lib.run_from_unsafe w ⟨b, 0, none⟩ u_up u_pb hj hsh bld_lies]
  simp only [Result.andThen]
  rw [Oper.upon_value]
  go_wp2
  go_end0
  exact ⟨rfl, rfl⟩

/-- behind copyCheck -/
theorem bl_check {w : World} {b : Nat} {row : Option Nat} {s : ByteArray} (h : BlAt w 98 5 b row s) :
    Calls Tryz.prog 106 #[.pointer (some ⟨b, 0, none⟩)] w fun e w' => e = .returned (.tuple #[]) ∧ BFr w w' b row ∧ w'.heap.size = w.heap.size ∧
      ∃ v, w'.heap[b]? = some (.cells #[.pointer (some ⟨b, 0, none⟩), v] 98 (0, 0)) ∧ w'.ownsRow 0 5 1 v s.size (Lib.strCells s) ∧ v.ownBlock = row := by
  obtain ⟨hT, p, v, hb, hp, hown, hrow⟩ := h
  have hne := Lib.ownBlock_ne hown hb hT
  rcases hp with rfl | rfl
  · refine (copy_fresh b w (by rw [Lib.cell_of_heap hb]; rfl) (by simp [World.shape?, hb]) (Lib.frozen_of_heap hb 0)).mono ?_
    rintro e w' ⟨rfl, rfl⟩
    refine ⟨rfl, ⟨rfl, rfl, rfl, by simp [World.setCell], fun k _ hk _ => Below.heap_setCell _ _ _ _ hk⟩, by simp [World.setCell], v, ?_, ?_, hrow⟩
    · simp [World.setCell, Array.getElem?_modify, hb]
    · exact hown.kept (row := some b) ⟨rfl, rfl, rfl, by simp [World.setCell], fun k _ hk => Below.heap_setCell _ _ _ _ (fun e => hk (by simp [e]))⟩ (Or.inr hne)
  · refine (copy_used b w (by rw [Lib.cell_of_heap hb]; rfl)).mono ?_
    rintro e w' ⟨rfl, rfl⟩
    exact ⟨rfl, BFr.refl _ _ _, rfl, v, hb, hown, hrow⟩

theorem strCells_append (s t : ByteArray) : Lib.strCells (s ++ t) = Lib.strCells s ++ Lib.strCells t := by
  simp [Lib.strCells, ByteArray.data_append]

theorem fn_ok {f : FuncId} {fn : Func} (h : Tryz.prog.funcs[f]? = some fn) (h1 : fn.name ≠ "runtime.NumGoroutine") (h2 : fn.body.isSome = true) : ∃ fn, Tryz.prog.funcs[f]? = some fn ∧ fn.name ≠ "runtime.NumGoroutine" ∧ fn.body.isSome = true := ⟨fn, h, h1, h2⟩

set_option maxHeartbeats 2000000 in
theorem bl_write (s t : ByteArray) (hsz : s.size + t.size ≤ 140737488355328) :
    BlFn Tryz.prog 46 (fun b => #[.pointer (some ⟨b, 0, none⟩), .string t]) 98 5 s (s ++ t) (.tuple #[.int .i64 t.size, .nilIface]) := by
  refine ⟨fn_ok Tryz.func46 (by decide) rfl, fun w b row h => ?_⟩
  obtain ⟨i0, hi, hz0, hz1, hz2⟩ := byte_info
  have hT := h.1
  have hlt : b < w.heap.size := by
    obtain ⟨_, p, v, hb, _⟩ := h
    exact (Array.getElem?_eq_some_iff.1 hb).1
  go_enter Tryz.func46, Tryz.ntmps46
  go_wp2_with (go_at_call 106; refine (bl_check h).mono ?_)
  rintro e w1 ⟨rfl, hF, hs1, v, hbk, hown, hrow⟩
  have c0 : w1.cell? ⟨b, 0, none⟩ = some (.pointer (some ⟨b, 0, none⟩)) := by rw [Lib.cell_of_heap hbk]; rfl
  have c1 : w1.cell? ⟨b, 1, none⟩ = some v := by rw [Lib.cell_of_heap hbk]; rfl
  go_wp2_with (at_builtin; refine wpList_append_bl rfl _ _ 22 9 rfl 5 i0 u_bs u_st hi hz0 hz1 hz2 _ _ _ rfl hown t rfl hsz ?_)
  intro v' w2 hown' hgrow hloc
  have hne := Lib.ownBlock_ne hown hbk hT
  have hb2 : w2.heap[b]? = some (.cells #[.pointer (some ⟨b, 0, none⟩), v] 98 (0, 0)) := by
    rw [hgrow.block b (by omega) (fun e => hne (hrow.trans e.symm))]
    exact hbk
  have d0 : w2.cell? ⟨b, 0, none⟩ = some (.pointer (some ⟨b, 0, none⟩)) := by rw [Lib.cell_of_heap hb2]; rfl
  have d1 : w2.cell? ⟨b, 1, none⟩ = some v := by rw [Lib.cell_of_heap hb2]; rfl
  have f1 : w2.frozen? ⟨b, 1, none⟩ = false := Lib.frozen_of_heap hb2 1
  have hne2 := Lib.ownBlock_ne hown' hb2 hT
  obtain ⟨ao, n', cap, rfl⟩ : ∃ ao n' cap, v' = .slice ao n' cap := by
    rcases hown'.2 with ⟨hv, _⟩ | ⟨g, cap, cur, hv, _⟩
    · exact ⟨_, _, _, hv⟩
    · exact ⟨_, _, _, hv⟩
  go_wp2
  go_ret2
  refine ⟨rfl, Value.ownBlock (.slice ao n' cap), ⟨hT, _, _, ?_, .inr rfl, ?_, rfl⟩, ?_, fun k hk => ?_⟩
  · simp [World.setCell, Array.getElem?_modify, hb2]
  · have hk := hown'.kept (w' := w2.setCell ⟨b, 1, none⟩ (.slice ao n' cap)) (row := some b) ⟨rfl, rfl, rfl, by simp [World.setCell], fun k _ hk => Below.heap_setCell _ _ _ _ (fun e => hk (by simp [e]))⟩ (Or.inr hne2)
    rw [strCells_append, ByteArray.size_append]
    exact hk
  · refine ⟨hgrow.os.trans hF.os, hgrow.tape.trans hF.tape, hgrow.output.trans hF.output, ?_, fun k hk h1 h2 => ?_⟩
    · have := hgrow.size; simp [World.setCell]; omega
    · rw [Below.heap_setCell _ _ _ _ h1, hgrow.block k (by omega) (fun e => h2 e.symm)]
      exact hF.block k hk h1 h2
  · rcases hloc k hk with h5 | h5
    · exact .inl (hrow ▸ h5)
    · exact .inr (by omega)

set_option maxHeartbeats 2000000 in
theorem bl_string (s : ByteArray) : BlEnd Tryz.prog 53 98 5 s := by
  refine ⟨fn_ok Tryz.func53 (by decide) rfl, fun w b row h => ?_⟩
  obtain ⟨hT, p, v, hb, hp, hown, hrow⟩ := h
  have hne := Lib.ownBlock_ne hown hb hT
  have hlt : b < w.heap.size := (Array.getElem?_eq_some_iff.1 hb).1
  rcases hown.2 with ⟨rfl, h0⟩ | ⟨g, cap, cur, rfl, _, hg, hnc, hcm, hcs, htake⟩
  · have c1 : w.drew.cell? ⟨b, 1, none⟩ = some (.slice none 0 0) := by
      have : w.drew.heap[b]? = some (.cells #[p, .slice none 0 0] 98 (0, 0)) := hb
      rw [Lib.cell_of_heap this]; rfl
    have c0 : w.cell? ⟨b, 1, none⟩ = some (.slice none 0 0) := c1
    have hSD : (Builtin.unsafeSliceData_ #[22] 179 #[.slice none 0 0]).run Tryz.prog w.drew = .ok (.pointer none) w.drew := rfl
    have hUS := fun w p => Lib.run_unsafeString_none (P := Tryz.prog) w 179 3 9 p
    have hs : s = ByteArray.empty := by
      have : s.data = #[] := Array.eq_empty_of_size_eq_zero h0
      cases s; cases this; rfl
    subst hs
    go_enter Tryz.func53, Tryz.ntmps53
    go_wp2
    go_region
    all_goals (go_wp2; go_ret; exact ⟨rfl, ⟨rfl, rfl, rfl, Nat.le_refl _, fun _ _ _ _ => rfl⟩⟩)
  · have c1 : w.drew.cell? ⟨b, 1, none⟩ = some (.slice (some ⟨g, 0, none⟩) s.size cap) := by
      have : w.drew.heap[b]? = some (.cells #[p, .slice (some ⟨g, 0, none⟩) s.size cap] 98 (0, 0)) := hb
      rw [Lib.cell_of_heap this]; rfl
    have c0 : w.cell? ⟨b, 1, none⟩ = some (.slice (some ⟨g, 0, none⟩) s.size cap) := c1
    have hgd : w.drew.heap[g]? = some (.cells cur 5 (0, 0)) := hg
    obtain rfl : row = some g := hrow.symm
    by_cases hs0 : s.size = 0
    · have hs : s = ByteArray.empty := by
        have : s.data = #[] := Array.eq_empty_of_size_eq_zero hs0
        cases s; cases this; rfl
      subst hs
      have hUS := fun w p => Lib.run_unsafeString_none (P := Tryz.prog) w 179 3 9 p
      by_cases hcap : cap = 0
      · subst hcap
        have hSD : (Builtin.unsafeSliceData_ #[22] 179 #[.slice (some ⟨g, 0, none⟩) 0 0]).run Tryz.prog w.drew = .ok (.pointer (some ⟨w.drew.heap.size, 0, none⟩)) (w.drew.alloc (.view ⟨g, 0, none⟩ 5)) :=
          Lib.run_unsafeSliceData_zero w.drew _ _ 5 u_p8 ⟨g, 0, none⟩ 0 (5, cur.size) (by simp [World.shape?, hgd])
        have c2 : (w.drew.alloc (.view ⟨g, 0, none⟩ 5)).cell? ⟨b, 1, none⟩ = some (.slice (some ⟨g, 0, none⟩) 0 0) := by
          have : (w.drew.alloc (.view ⟨g, 0, none⟩ 5)).heap[b]? = _ := (Lib.alloc_old w.drew _ b hlt).trans hb
          rw [Lib.cell_of_heap this]; rfl
        have c3 : (w.alloc (.view ⟨g, 0, none⟩ 5)).drew.cell? ⟨b, 1, none⟩ = some (.slice (some ⟨g, 0, none⟩) 0 0) := c2
        go_enter Tryz.func53, Tryz.ntmps53
        go_wp2
        go_region
        all_goals (go_wp2; go_ret; exact ⟨rfl, ⟨rfl, rfl, rfl, by simp, fun k hk _ _ => Lib.alloc_old w.drew _ k hk⟩⟩)
      · have hSD : (Builtin.unsafeSliceData_ #[22] 179 #[.slice (some ⟨g, 0, none⟩) 0 cap]).run Tryz.prog w.drew = .ok (.pointer (some ⟨g, 0, none⟩)) w.drew :=
          Lib.run_unsafeSliceData_row _ _ _ _ _ _ hcap
        go_enter Tryz.func53, Tryz.ntmps53
        go_wp2
        go_region
        all_goals (go_wp2; go_ret; exact ⟨rfl, ⟨rfl, rfl, rfl, Nat.le_refl _, fun _ _ _ _ => rfl⟩⟩)
    · have hSD : (Builtin.unsafeSliceData_ #[22] 179 #[.slice (some ⟨g, 0, none⟩) s.size cap]).run Tryz.prog w.drew = .ok (.pointer (some ⟨g, 0, none⟩)) w.drew :=
        Lib.run_unsafeSliceData_row _ _ _ _ _ _ (by omega)
      have hlen : s.data.toList.length = s.size := by rw [Array.length_toList]; rfl
      have hUS : (Builtin.unsafeString_ #[179, 3] 9 #[.pointer (some ⟨g, 0, none⟩), .int .i64 s.size]).run Tryz.prog w.drew = .ok (.string s) (w.drew.freeze ⟨g, 0, none⟩ s.size) := by
        have h := Lib.run_unsafeString_row (P := Tryz.prog) w.drew 179 3 9 5 u_p8 byte_cells g cur.size (by simp [World.shape?, hgd]) s.data.toList (fun e => hs0 (by rw [← hlen, e]; rfl)) (by rw [hlen]; omega) (by rw [hlen]; unfold maxLen at hcm; omega) ?_
        · rw [hlen] at h
          simpa using h
        · intro j x hx
          have := hown.cells (g := g) rfl j (.int .u8 x.toNat) (by simp only [Lib.strCells, List.getElem?_map, hx]; rfl)
          exact this
      have hfr : BFr w (w.drew.freeze ⟨g, 0, none⟩ s.size) b (some g) := by
        unfold World.freeze
        rw [if_neg hs0]
        refine ⟨rfl, rfl, rfl, by simp, fun k _ _ hk => ?_⟩
        simp only [Array.getElem?_modify]
        rw [if_neg (fun e => hk (by rw [e]))]; rfl
      go_enter Tryz.func53, Tryz.ntmps53
      go_wp2
      go_region
      all_goals (go_wp2; go_ret; exact ⟨rfl, hfr⟩)
end Go.Proofs.YthbfmegbnnmepaaGreatDoor

/- Frames of entries: what both ways rest on. -/
namespace Go.Proofs.YthbfmegbnnmepaaGreatDoor
open Go.RowKit Go.Rx
set_option linter.unusedSimpArgs false
set_option maxRecDepth 100000

/-! ### octets -/
/-! ### an entry's text, by the program -/
theorem entryTextI_ok (index term kind : Nat) (hi : index ≤ 1000000000) (ht : term ≤ 1000000000) (data : ByteArray) (hd : data.size ≤ 140737488355328) : PureFn Tryz.prog 110 [i64 index, .agg (entC term kind data)] [st (etB index term kind data)] := by
  refine PureFn_of_Go Tryz.func110 rfl (by decide) mo (by decide +kernel) ?_
  have h1 := varB_size index
  have h2 := varB_size term
  have r1 : (⟨#[69]⟩ : ByteArray).size + (varB index).size ≤ 9223372036854775807 := by have e1 : (⟨#[69]⟩ : ByteArray).size = 1 := rfl; omega
  have r2 : (⟨#[69]⟩ ++ varB index).size + (varB term).size ≤ 9223372036854775807 := by have e1 : (⟨#[69]⟩ : ByteArray).size = 1 := rfl; rw [ByteArray.size_append]; omega
  have hk : PureFn Tryz.prog 51 [.one (.sh 1 [[.v (.int .i64 (kind : Int))]])] [st (octB [(kind : Int)])] := octets_ok [(kind : Int)] (by simp)
  have e2 : (octB [(kind : Int)]).size = 1 := octB_size _
  have hoct : octB [(kind : Int)] = ⟨[UInt8.ofNat kind].toArray⟩ := by
    unfold octB oct8
    have : UInt8.ofNat (((kind : Int) % 256).toNat) = UInt8.ofNat kind := by
      apply UInt8.toNat_inj.1
      simp
      omega
    simp [this]
  have r3 : ((⟨#[69]⟩ ++ varB index) ++ varB term).size + (octB [(kind : Int)]).size ≤ 9223372036854775807 := by have e1 : (⟨#[69]⟩ : ByteArray).size = 1 := rfl; rw [ByteArray.size_append, ByteArray.size_append]; omega
  have r4 : (((⟨#[69]⟩ ++ varB index) ++ varB term) ++ octB [(kind : Int)]).size + data.size ≤ 9223372036854775807 := by have e1 : (⟨#[69]⟩ : ByteArray).size = 1 := rfl; rw [ByteArray.size_append, ByteArray.size_append, ByteArray.size_append]; omega
  unfold etB
  rw [← hoct]
  generalize hq : octB [(kind : Int)] = q at *
  simp only [Tryz.ntmps110, Tryz.results110, push_cast, seval, entC]
  refine GoD_call rfl rfl (varText_ok index (by omega)) rfl rfl ?_
  simp only [Tryz.ntmps110, Tryz.results110, push_cast, seval, r1]
  refine GoD_call rfl rfl (varText_ok term (by omega)) rfl rfl ?_
  simp only [Tryz.ntmps110, Tryz.results110, push_cast, seval, r1, r2]
  refine GoD_call rfl rfl hk rfl rfl ?_
  simp only [Tryz.ntmps110, Tryz.results110, push_cast, seval, r1, r2, r3, r4]
end Go.Proofs.YthbfmegbnnmepaaGreatDoor

/- Frames of a log's entries, by both ways. -/
namespace Go.Proofs.YthbfmegbnnmepaaGreatDoor
open Go.RowKit Go.Rx
set_option linter.unusedSimpArgs false
set_option maxRecDepth 100000

theorem varLk_le : ∀ (k n : Nat), n < 128 ^ (k + 1) → (varL n).length ≤ k + 1
  | 0, n, h => by rw [varL_small (by simpa using (by omega : n ≤ 127))]; simp
  | k + 1, n, h => by
    by_cases c : n ≤ 127
    · rw [varL_small c]; simp
    · rw [varL_big c, List.length_cons]
      have : n / 128 < 128 ^ (k + 1) := by rw [Nat.div_lt_iff_lt_mul (by decide), ← Nat.pow_succ]; exact h
      have := varLk_le k (n / 128) this
      omega
theorem varBk_le (k n : Nat) (h : n < 128 ^ (k + 1)) : (varB n).size ≤ k + 1 := by
  have := varLk_le k n h
  simpa [varB, ByteArray.size] using this

/-- One entry's frame. -/
def efr (i : Int) (e : Ent) : ByteArray := frameB (etB i.toNat e.term.toNat e.kind.toNat e.data)
def efT (l : Lg) (from_ : Nat) : Nat → ByteArray
  | 0 => ⟨#[]⟩
  | n + 1 => efT l from_ n ++ efr (l.start + 1 + (from_ : Int) + (n : Int)) (l.es.getD (from_ + n) default)
structure LgF (l : Lg) : Prop where
  s0 : 0 ≤ l.start
  s1 : l.start + l.es.length ≤ 1000000
  n : l.es.length ≤ 60
  es : ∀ e ∈ l.es, entOk e = true
theorem LgF.of {l : Lg} (h : logB l = true) (h2 : ∀ e ∈ l.es, entOk e = true) : LgF l := by
  simp only [logB, Bool.and_eq_true, decide_eq_true_eq, inR] at h
  exact ⟨by omega, by omega, by omega, h2⟩
theorem entOk_spec {e : Ent} (h : entOk e = true) : 0 ≤ e.term ∧ e.term ≤ 100000 ∧ 1 ≤ e.kind ∧ e.kind ≤ 3 ∧ e.data.size ≤ 640 := by
  simp only [entOk, eoB, Bool.and_eq_true, inR, decide_eq_true_eq] at h
  obtain ⟨⟨h1, h2⟩, h3⟩ := h
  refine ⟨h1, h2, ?_⟩
  by_cases k1 : e.kind = 1
  · simp only [k1, if_true, decide_eq_true_eq] at h3
    have : e.data.size = 0 := by rw [h3]; rfl
    omega
  · by_cases k2 : e.kind = 2
    · simp [k2, rcB] at h3
      omega
    · by_cases k3 : e.kind = 3
      · simp [k3] at h3
        omega
      · simp [k1, k2, k3] at h3
theorem et_size {i : Int} (h0 : 0 ≤ i) (h1 : i ≤ 1000000) {e : Ent} (h : entOk e = true) : 1 ≤ (etB i.toNat e.term.toNat e.kind.toNat e.data).size ∧ (etB i.toNat e.term.toNat e.kind.toNat e.data).size ≤ 700 := by
  obtain ⟨a, b, c, d, f⟩ := entOk_spec h
  have v1 := varBk_le 2 i.toNat (by omega)
  have v2 := varBk_le 2 e.term.toNat (by omega)
  unfold etB
  rw [ByteArray.size_append, ByteArray.size_append, ByteArray.size_append, ByteArray.size_append]
  have e1 : (⟨#[69]⟩ : ByteArray).size = 1 := rfl
  have e2 : (⟨[UInt8.ofNat e.kind.toNat].toArray⟩ : ByteArray).size = 1 := rfl
  omega
theorem efr_size {i : Int} (h0 : 0 ≤ i) (h1 : i ≤ 1000000) {e : Ent} (h : entOk e = true) : (efr i e).size ≤ 720 := by
  obtain ⟨a, b⟩ := et_size h0 h1 h
  have v := varBk_le 2 (etB i.toNat e.term.toNat e.kind.toNat e.data).size (by omega)
  unfold efr frameB
  rw [ByteArray.size_append, ByteArray.size_append, four_size]
  omega
theorem efT_size {l : Lg} (h : LgF l) (from_ : Nat) : ∀ n, from_ + n ≤ l.es.length → (efT l from_ n).size ≤ 720 * n
  | 0, _ => Nat.zero_le _
  | n + 1, hn => by
    have h1 := efT_size h from_ n (by omega)
    have := h.s0; have := h.s1
    have h2 := efr_size (i := l.start + 1 + (from_ : Int) + (n : Int)) (by omega) (by omega) (h.es _ (getD_mem' l.es (from_ + n) (by omega)))
    unfold efT
    rw [ByteArray.size_append]
    omega

end Go.Proofs.YthbfmegbnnmepaaGreatDoor

/- Frames of a log's entries, by the program: over a strings.Builder. -/
namespace Go.Proofs.YthbfmegbnnmepaaGreatDoor
open Go.RowKit Go.Rx
set_option linter.unusedSimpArgs false
set_option maxRecDepth 100000

theorem entryFrames_ok (l : Lg) (h : LgF l) (hf : fineE l.es) (from_ : Nat) (hfr : from_ ≤ l.es.length) :
    PureFn Tryz.prog 59 [.agg (lgC l (.sh 3 (vR (ents l.es)))), i64 from_] [st (efT l from_ (l.es.length - from_))] := by
  refine PureFn_of_Go Tryz.func59 rfl (by decide) mo (by decide +kernel) ?_
  obtain ⟨start, sterm, es⟩ := l
  obtain ⟨h0, h1, h2, h3⟩ := h
  simp only at h0 h1 h2 h3 hf hfr ⊢
  obtain ⟨F, hF⟩ : ∃ F : Nat → ByteArray, F = efT ⟨start, sterm, es⟩ from_ := ⟨_, rfl⟩
  have hsz : ∀ n, from_ + n ≤ es.length → (F n).size ≤ 720 * 60 := fun n hn => by
    have := efT_size (l := ⟨start, sterm, es⟩) ⟨h0, h1, h2, h3⟩ from_ n hn
    rw [hF]; omega
  have hFz : F 0 = ⟨#[]⟩ := by rw [hF]; rfl
  have hFn : ∀ n, F (n + 1) = F n ++ efr (start + 1 + (from_ : Int) + (n : Int)) (es.getD (from_ + n) default) := fun n => by rw [hF]; rfl
  have hdr : List.take (es.length - from_) (List.drop from_ (vR (ents es))) = vR (ents (es.drop from_)) := by
    rw [List.take_of_length_le (by rw [List.length_drop, vR_length, ents_length]; exact Nat.le_refl _)]
    simp [vR, ents, List.map_drop]
  obtain ⟨E, hE⟩ : ∃ E, E = es.drop from_ := ⟨_, rfl⟩
  have hEl : E.length = es.length - from_ := by rw [hE, List.length_drop]
  have hEg : ∀ n, n < E.length → E.getD n default = es.getD (from_ + n) default := fun n hn => by
    rw [hE, List.getD_eq_getElem?_getD, List.getElem?_drop, ← List.getD_eq_getElem?_getD]
  rw [← hE] at hdr
  simp only [Tryz.ntmps59, Tryz.results59, push_cast, seval, lgC]
  refine GoL_blNew (e := 5) rfl (by decide +kernel) (z := .agg #[.pointer none, .slice none 0 0]) (by kernel_rfl) rfl rfl rfl (by decide) fun b => ?_
  simp only [Tryz.ntmps59, Tryz.results59, push_cast, seval, hfr, hdr, ents_length]
  refine Go_loop (α := {p : Nat × Option Nat // p.1 ≤ E.length})
    (fun p => ⟨tp 31 [(1, int from_), (2, .x (.one (.pt (0, 128) [] 3 0 0))), (5, .x (.one (.v (.pointer (some ⟨b, 0, none⟩))))), (11, .x (.one (.sh 3 (vR (ents E))))), (12, int E.length), (13, int p.1.1)], 0, [((0, 320), ⟨.bl 98 5 b p.1.2 (F p.1.1), 0, []⟩), ((0, 128), ⟨.box, 3, [[.v (.int .i64 start), .v (.int .i64 sterm), .sh 3 (vR (ents es))]]⟩)], []⟩)
    (fun p => E.length - p.1.1) ⟨(0, none), Nat.zero_le _⟩ ?_ ?_
  · simp only [hFz]
    exact Weak.same (by simp only [push_cast, seval, Int.ofNat_zero])
  · rintro ⟨⟨n, row⟩, hn⟩ X hX
    simp only at hn
    have hs := hsz n (by omega)
    by_cases hlt : (n : Int) < (E.length : Int)
    · have hn' : n < E.length := by omega
      have hg := ents_getD E hn'
      have hok := h3 _ (getD_mem' es (from_ + n) (by omega))
      have hFs := hFn n
      rw [← hEg n hn'] at hok hFs
      obtain ⟨e, he⟩ : ∃ e, e = E.getD n default := ⟨_, rfl⟩
      rw [← he] at hg hok hFs
      obtain ⟨p1, p2, p3, p4, p5⟩ := entOk_spec hok
      obtain ⟨term, kind, data⟩ := e
      simp only at p1 p2 p3 p4 p5
      obtain ⟨t, rfl⟩ := Int.eq_ofNat_of_zero_le p1
      obtain ⟨kd, rfl⟩ := Int.eq_ofNat_of_zero_le (show 0 ≤ kind by omega)
      obtain ⟨idx, hidx⟩ : ∃ idx : Nat, (idx : Int) = start + 1 + (from_ : Int) + (n : Int) := ⟨(start + 1 + (from_ : Int) + (n : Int)).toNat, by omega⟩
      rw [← hidx] at hFs
      have w1 : IntKind.i64.wrap (start + 1) = start + 1 := w64 (by omega) (by omega)
      have w2 : IntKind.i64.wrap (start + 1 + (from_ : Int)) = start + 1 + (from_ : Int) := w64 (by omega) (by omega)
      have w3 : IntKind.i64.wrap (start + 1 + (from_ : Int) + (n : Int)) = (idx : Int) := wN (by omega) (by omega)
      have k1 := entryTextI_ok idx t kd (by omega) (by omega) data (by omega)
      obtain ⟨q1, q2⟩ := et_size (i := idx) (by omega) (by omega) hok
      simp only [Int.toNat_natCast] at q1 q2
      have k2 := frame_ok (etB idx t kd data) (by omega)
      have hefr : efr (idx : Int) ⟨(t : Int), (kd : Int), data⟩ = frameB (etB idx t kd data) := by simp [efr]
      have hfs := efr_size (i := idx) (by omega) (by omega) hok
      rw [hefr] at hFs hfs
      obtain ⟨y, hy⟩ : ∃ y, y = frameB (etB idx t kd data) := ⟨_, rfl⟩
      rw [← hy] at k2 hFs hfs
      obtain ⟨n', hn1⟩ : ∃ n', n' = n + 1 := ⟨_, rfl⟩
      rw [← hn1] at hFs
      have ws : IntKind.i64.wrap ((n : Int) + 1) = (n' : Int) := by rw [hn1]; exact wsucc hn' (by omega)
      simp only [entC] at k1
      simp only [push_cast, seval, hlt, ents_length, hn', vR_getD, hg, entV, w1, w2, w3]
      refine GoL_call rfl rfl k1 rfl rfl ?_
      simp only [push_cast, seval]
      refine GoL_call rfl rfl k2 rfl rfl ?_
      simp only [push_cast, seval]
      refine GoL_bl (r := (0, 320)) (bl_write (F n) y (by omega)) rfl rfl rfl (zx := .tup [.one (.v (.int .i64 y.size)), .one (.v .nilIface)]) (fun w o g => ⟨_, rfl, rfl, fun j hj => ?_⟩) fun row' => ?_
      · match j, hj with
        | 0, _ => exact rfl
        | 1, _ => exact rfl
      rw [← hFs]
      simp only [push_cast, seval, ws]
      refine ⟨_, ?_, hX ⟨(n', row'), by simp only; omega⟩ (by simp only; omega)⟩
      exact Weak.drop (by simp only [push_cast, seval, hn1]) (by simp only [push_cast, seval, hn1]) (by simp only [push_cast, seval, hn1])
    · have hne : n = E.length := by omega
      subst hne
      simp only [push_cast, seval, hlt]
      refine GoL_blEnd (r := (0, 320)) (bl_string (F E.length)) rfl rfl rfl ?_
      rw [← hEl, ← hF]
      simp only [push_cast, seval]
end Go.Proofs.YthbfmegbnnmepaaGreatDoor

/- Journals' texts, by both ways. -/
namespace Go.Proofs.YthbfmegbnnmepaaGreatDoor
open Go.RowKit Go.Rx
set_option linter.unusedSimpArgs false
set_option maxRecDepth 100000

theorem rise_ok : ∀ (t : Int) (es : List Ent), riseB t es = true → ∀ e ∈ es, entOk e = true
  | _, [], _, e, he => by cases he
  | t, x :: es, h, e, he => by
    simp only [riseB, Bool.and_eq_true] at h
    rcases List.mem_cons.1 he with rfl | he
    · first | exact h.1.1 | exact h.1.2 | exact h.1
    · first | exact rise_ok _ es h.2 e he | exact rise_ok _ es h.2.2 e he
theorem LgF.ofB {l : Lg} (h : logB l = true) : LgF l := LgF.of h (rise_ok _ _ (by simp only [logB, Bool.and_eq_true] at h; exact h.2))

def jokB (j : Jn) : Bool := ((inR j.number 0 999 && inR j.term 0 100000) && inR j.vote 0 4) && logB j.log
theorem journalOkI_ok (j : Jn) (h : fineE j.log.es) : PureFn Tryz.prog 56 [.agg (jnC j (.sh 3 (vR (ents j.log.es))))] [bo (jokB j)] := by
  refine PureFn_of_Go Tryz.func56 rfl (by decide) mo (by decide +kernel) ?_
  obtain ⟨number, term, vote, start, sterm, es⟩ := j
  have k1 := inRange_ok number 0 999
  have k2 := isTerm_ok term
  have k3 := inRange_ok vote 0 4
  have k4 := logOkI_ok ⟨start, sterm, es⟩ h
  rw [show (decide ((0 : Int) ≤ number) && decide (number ≤ 999)) = inR number 0 999 from rfl] at k1
  rw [show (decide ((0 : Int) ≤ vote) && decide (vote ≤ 4)) = inR vote 0 4 from rfl] at k3
  simp only [lgC] at k4
  unfold jokB
  simp only
  simp only [Tryz.ntmps56, Tryz.results56, push_cast, seval, jnC]
  refine GoL_call rfl rfl k1 rfl rfl ?_
  cases c1 : inR number 0 999 with
  | false => simp only [push_cast, seval]
  | true =>
    simp only [push_cast, seval]
    refine GoL_call rfl rfl k2 rfl rfl ?_
    cases c2 : inR term 0 100000 with
    | false => simp only [push_cast, seval]
    | true =>
      simp only [push_cast, seval]
      refine GoL_call rfl rfl k3 rfl rfl ?_
      cases c3 : inR vote 0 4 with
      | false => simp only [push_cast, seval]
      | true =>
        simp only [push_cast, seval]
        refine GoL_call rfl rfl k4 rfl rfl ?_
        simp only [push_cast, seval]
/-! ### the head of a journal -/
def prB (c : UInt8) (a b : Nat) : ByteArray := (⟨#[c]⟩ ++ varB a) ++ varB b
def prF (c : UInt8) (a b : Nat) : ByteArray := frameB (prB c a b)
theorem prB_size (c : UInt8) {a b : Nat} (ha : a ≤ 1000000) (hb : b ≤ 1000000) : 1 ≤ (prB c a b).size ∧ (prB c a b).size ≤ 7 := by
  have v1 := varBk_le 2 a (by omega)
  have v2 := varBk_le 2 b (by omega)
  have e1 : (⟨#[c]⟩ : ByteArray).size = 1 := rfl
  unfold prB
  rw [ByteArray.size_append, ByteArray.size_append]
  omega
theorem prF_size (c : UInt8) {a b : Nat} (ha : a ≤ 1000000) (hb : b ≤ 1000000) : (prF c a b).size ≤ 20 := by
  obtain ⟨h1, h2⟩ := prB_size c ha hb
  have v := varBk_le 0 (prB c a b).size (by omega)
  unfold prF frameB
  rw [ByteArray.size_append, ByteArray.size_append, four_size]
  omega
theorem headFrame_ok (a b : Nat) (ha : a ≤ 1000000) (hb : b ≤ 1000000) : PureFn Tryz.prog 58 [i64 a, i64 b] [st (prF 72 a b)] := by
  refine PureFn_of_Go Tryz.func58 rfl (by decide) mo (by decide +kernel) ?_
  have v1 := varBk_le 2 a (by omega)
  have v2 := varBk_le 2 b (by omega)
  have e1 : (⟨#[72]⟩ : ByteArray).size = 1 := rfl
  have r1 : (⟨#[72]⟩ : ByteArray).size + (varB a).size ≤ 9223372036854775807 := by omega
  have r2 : (⟨#[72]⟩ ++ varB a).size + (varB b).size ≤ 9223372036854775807 := by rw [ByteArray.size_append]; omega
  obtain ⟨_, hs⟩ := prB_size 72 ha hb
  simp only [Tryz.ntmps58, Tryz.results58, push_cast, seval]
  refine GoL_call rfl rfl (varText_ok a (by omega)) rfl rfl ?_
  simp only [push_cast, seval, r1]
  refine GoL_call rfl rfl (varText_ok b (by omega)) rfl rfl ?_
  simp only [push_cast, seval, r1, r2]
  refine GoL_call rfl rfl (frame_ok (prB 72 a b) (by omega)) rfl rfl ?_
  simp only [Tryz.ntmps58, Tryz.results58, push_cast, seval, prF]
end Go.Proofs.YthbfmegbnnmepaaGreatDoor

/- Journals' texts, by both ways. -/
namespace Go.Proofs.YthbfmegbnnmepaaGreatDoor
open Go.RowKit Go.Rx
set_option linter.unusedSimpArgs false
set_option maxRecDepth 100000

def jtB (j : Jn) : ByteArray := (prF 66 j.log.start.toNat j.log.sterm.toNat ++ prF 72 j.term.toNat j.vote.toNat) ++ efT j.log 0 j.log.es.length
def jtOk (j : Jn) : Bool := jokB j && decide ((jtB j).size ≤ 20000)
def jtX (j : Jn) : List X := if jtOk j then [st (jtB j), bo true] else [st ⟨#[]⟩, bo false]
theorem jokB_spec {j : Jn} (h : jokB j = true) : 0 ≤ j.number ∧ j.number ≤ 999 ∧ 0 ≤ j.term ∧ j.term ≤ 100000 ∧ 0 ≤ j.vote ∧ j.vote ≤ 4 ∧ 0 ≤ j.log.sterm ∧ j.log.sterm ≤ 100000 ∧ 0 ≤ j.log.start ∧ j.log.start ≤ 1000000 ∧ logB j.log = true := by
  simp only [jokB, Bool.and_eq_true, inR_spec] at h
  obtain ⟨⟨⟨h1, h2⟩, h3⟩, h4⟩ := h
  have h5 := h4
  simp only [logB, Bool.and_eq_true, inR_spec] at h5
  exact ⟨by omega, by omega, by omega, by omega, by omega, by omega, by omega, by omega, by omega, by omega, h4⟩
theorem journalTextI_ok (j : Jn) (h : fineE j.log.es) : PureFn Tryz.prog 17 [.agg (jnC j (.sh 3 (vR (ents j.log.es))))] (jtX j) := by
  refine PureFn_of_Go Tryz.func17 rfl (by decide) mo (by decide +kernel) ?_
  have k0 := journalOkI_ok j h
  obtain ⟨number, term, vote, start, sterm, es⟩ := j
  simp only [jnC] at k0
  simp only [Tryz.ntmps17, Tryz.results17, push_cast, seval, jnC]
  refine GoL_call rfl rfl k0 rfl rfl ?_
  cases c : jokB ⟨number, term, vote, ⟨start, sterm, es⟩⟩ with
  | false =>
    rw [show jtX ⟨number, term, vote, ⟨start, sterm, es⟩⟩ = [st ⟨#[]⟩, bo false] from by simp only [jtX, jtOk, c, Bool.false_and, Bool.false_eq_true, if_false]]
    simp only [push_cast, seval]
  | true =>
    obtain ⟨a1, a2, a3, a4, a5, a6, a7, a8, a9, a10, a11⟩ := jokB_spec c
    simp only at a1 a2 a3 a4 a5 a6 a7 a8 a9 a10 a11
    have hl := LgF.ofB a11
    have ke := entryFrames_ok ⟨start, sterm, es⟩ hl h 0 (Nat.zero_le _)
    have hes := efT_size hl 0 es.length (by simp)
    have h60 : es.length ≤ 60 := hl.n
    obtain ⟨s0, rfl⟩ := Int.eq_ofNat_of_zero_le a9
    obtain ⟨s1, rfl⟩ := Int.eq_ofNat_of_zero_le a7
    obtain ⟨t0, rfl⟩ := Int.eq_ofNat_of_zero_le a3
    obtain ⟨t1, rfl⟩ := Int.eq_ofNat_of_zero_le a5
    simp only [lgC, Nat.sub_zero] at ke
    rw [show (((0 : Nat) : Int)) = 0 from rfl] at ke
    obtain ⟨z, hz⟩ : ∃ z, z = efT ⟨(s0 : Int), (s1 : Int), es⟩ 0 es.length := ⟨_, rfl⟩
    rw [← hz] at ke hes
    obtain ⟨_, p1⟩ := prB_size 66 (a := s0) (b := s1) (by omega) (by omega)
    have p2 := prF_size 66 (a := s0) (b := s1) (by omega) (by omega)
    have p3 := prF_size 72 (a := t0) (b := t1) (by omega) (by omega)
    have v1 := varBk_le 2 s0 (by omega)
    have v2 := varBk_le 2 s1 (by omega)
    have e1 : (⟨#[66]⟩ : ByteArray).size = 1 := rfl
    have r1 : (⟨#[66]⟩ : ByteArray).size + (varB s0).size ≤ 9223372036854775807 := by omega
    have r2 : (⟨#[66]⟩ ++ varB s0).size + (varB s1).size ≤ 9223372036854775807 := by rw [ByteArray.size_append]; omega
    have kf := frame_ok (prB 66 s0 s1) (by omega)
    rw [show frameB (prB 66 s0 s1) = prF 66 s0 s1 from rfl] at kf
    have kh := headFrame_ok t0 t1 (by omega) (by omega)
    have hj : jtB ⟨number, (t0 : Int), (t1 : Int), ⟨(s0 : Int), (s1 : Int), es⟩⟩ = (prF 66 s0 s1 ++ prF 72 t0 t1) ++ z := by simp [jtB, hz]
    have hx : jtX ⟨number, (t0 : Int), (t1 : Int), ⟨(s0 : Int), (s1 : Int), es⟩⟩ = if ((((prF 66 s0 s1 ++ prF 72 t0 t1) ++ z).size : Nat) : Int) ≤ 20000 then [st ((prF 66 s0 s1 ++ prF 72 t0 t1) ++ z), bo true] else [st ⟨#[]⟩, bo false] := by
      unfold jtX jtOk
      rw [c, hj, Bool.true_and]
      by_cases q : ((prF 66 s0 s1 ++ prF 72 t0 t1) ++ z).size ≤ 20000
      · rw [if_pos (by simpa using q), if_pos (by omega)]
      · rw [if_neg (by simpa using q), if_neg (by omega)]
    rw [hx]
    obtain ⟨x1, hx1⟩ : ∃ x1, x1 = prF 66 s0 s1 := ⟨_, rfl⟩
    obtain ⟨x2, hx2⟩ : ∃ x2, x2 = prF 72 t0 t1 := ⟨_, rfl⟩
    rw [← hx1] at kf p2 ⊢
    rw [← hx2] at kh p3 ⊢
    have r3 : x1.size + x2.size ≤ 9223372036854775807 := by omega
    have r4 : (x1 ++ x2).size + z.size ≤ 9223372036854775807 := by rw [ByteArray.size_append]; omega
    simp only [push_cast, seval]
    refine GoD_call rfl rfl (varText_ok s0 (by omega)) rfl rfl ?_
    simp only [push_cast, seval, r1]
    refine GoD_call rfl rfl (varText_ok s1 (by omega)) rfl rfl ?_
    simp only [push_cast, seval, r1, r2]
    refine GoD_call rfl rfl kf rfl rfl ?_
    simp only [push_cast, seval]
    refine GoD_call rfl rfl kh rfl rfl ?_
    simp only [push_cast, seval, r3]
    refine GoD_call rfl rfl ke rfl rfl ?_
    obtain ⟨y, hy⟩ : ∃ y, y = (x1 ++ x2) ++ z := ⟨_, rfl⟩
    rw [← hy]
    by_cases q : ((y.size : Nat) : Int) ≤ 20000
    · have q' : ¬ (20000 : Int) < (y.size : Int) := by omega
      simp only [push_cast, seval, r3, r4, ← hy, q, q']
    · have q' : (20000 : Int) < (y.size : Int) := by omega
      simp only [push_cast, seval, r3, r4, ← hy, q, q']
end Go.Proofs.YthbfmegbnnmepaaGreatDoor

/- Journals' names, by both ways. -/
namespace Go.Proofs.YthbfmegbnnmepaaGreatDoor
open Go.RowKit Go.Rx
set_option linter.unusedSimpArgs false
set_option maxRecDepth 100000

def jnm (n : Int) : ByteArray := if inR n 0 999 then nmT 106 n.toNat else ⟨#[]⟩
theorem journalNameI_ok (n : Int) : PureFn Tryz.prog 19 [i64 n] [st (jnm n)] := by
  refine PureFn_of_Go Tryz.func19 rfl (by decide) mo (by decide +kernel) ?_
  have k1 := inRange_ok n 0 999
  rw [show (decide ((0 : Int) ≤ n) && decide (n ≤ 999)) = inR n 0 999 from rfl] at k1
  simp only [Tryz.ntmps19, Tryz.results19, push_cast, seval]
  refine GoL_call rfl rfl k1 rfl rfl ?_
  cases c : inR n 0 999 with
  | false =>
    rw [show jnm n = ⟨#[]⟩ from by simp only [jnm, c, Bool.false_eq_true, if_false]]
    simp only [Tryz.ntmps19, Tryz.results19, push_cast, seval]
  | true =>
    rw [show jnm n = nmT 106 n.toNat from by simp only [jnm, c, if_true]]
    obtain ⟨h1, h2⟩ := inR_spec.1 c
    obtain ⟨m, rfl⟩ := Int.eq_ofNat_of_zero_le h1
    have hs := decB_size m (by omega)
    have hr : (ltr1 106).size + (decB m).size ≤ 9223372036854775807 := by have : (ltr1 106).size = 1 := rfl; omega
    unfold nmT
    rw [Int.toNat_natCast]
    have hc : (⟨#[106]⟩ : ByteArray) = ltr1 106 := rfl
    simp only [Tryz.ntmps19, Tryz.results19, push_cast, seval]
    refine GoL_call rfl rfl (decimalI_ok m (by omega)) rfl rfl ?_
    simp only [Tryz.ntmps19, Tryz.results19, push_cast, seval, hc, hr]
theorem journalNumber_ok (s : ByteArray) (hs : s.size ≤ 140737488355328) : ∃ x : Int, (nmB 106 999 s = true → x = (nmN 106 s : Int)) ∧ PureFn Tryz.prog 72 [st s] [i64 x, bo (nmB 106 999 s)] := by
  refine ⟨if rdB (nmR 106 s) then (rdN (nmR 106 s) : Int) else 0, fun h => ?_, ?_⟩
  · simp only [nmB, Bool.and_eq_true] at h
    rw [if_pos h.1.2]; rfl
  refine PureFn_of_Go Tryz.func72 rfl (by decide) mo (by decide +kernel) ?_
  have k1 := cutPrefix_ok s (ltr1 106)
  rw [show (if preB s (ltr1 106) then s.extract (ltr1 106).size s.size else s) = nmR 106 s from rfl] at k1
  have k2 := readDecI_ok (nmR 106 s) (Nat.le_trans (nmR_size _ _) hs)
  rw [rdX_eq] at k2
  have hc : (⟨#[106]⟩ : ByteArray) = ltr1 106 := rfl
  have hb : nmB 106 999 s = (preB s (ltr1 106) && (rdB (nmR 106 s) && decide ((rdN (nmR 106 s) : Int) ≤ 999))) := by
    unfold nmB
    rw [Bool.and_assoc]
    congr 2
  rw [hb]
  simp only [Tryz.ntmps72, Tryz.results72, push_cast, seval, hc]
  refine GoL_call rfl rfl k1 rfl rfl ?_
  simp only [Tryz.ntmps72, Tryz.results72, push_cast, seval]
  refine GoL_call rfl rfl k2 rfl rfl ?_
  cases c1 : preB s (ltr1 106) with
  | false => simp only [Tryz.ntmps72, Tryz.results72, push_cast, seval, Bool.false_eq_true]
  | true =>
    cases c2 : rdB (nmR 106 s) with
    | false => simp only [Tryz.ntmps72, Tryz.results72, push_cast, seval, Bool.false_eq_true]
    | true => simp only [Tryz.ntmps72, Tryz.results72, push_cast, seval]
end Go.Proofs.YthbfmegbnnmepaaGreatDoor

/- A file by its name, by both ways. -/
namespace Go.Proofs.YthbfmegbnnmepaaGreatDoor
open Go.RowKit Go.Rx
set_option linter.unusedSimpArgs false
set_option maxRecDepth 100000

def faR (s : ByteArray) : List Fil → Option ByteArray
  | [] => none
  | f :: l => if f.name = s then some f.text else faR s l
def faX (o : Option ByteArray) : List X := [st (o.getD ⟨#[]⟩), bo o.isSome]
theorem atR_faR (s : ByteArray) : ∀ (l : List Fil) (k : Nat), (atR s l k = -1 ∧ faR s l = none) ∨ (∃ j : Nat, j < l.length ∧ atR s l k = ((k + j : Nat) : Int) ∧ faR s l = some (l.getD j default).text)
  | [], k => .inl ⟨rfl, rfl⟩
  | f :: l, k => by
    by_cases c : f.name = s
    · refine .inr ⟨0, by simp, ?_, ?_⟩
      · simp [atR, c]
      · simp [faR, c]
    · rcases atR_faR s l (k + 1) with ⟨h1, h2⟩ | ⟨j, h1, h2, h3⟩
      · exact .inl ⟨by simp only [atR, if_neg c]; exact h1, by simp only [faR, if_neg c]; exact h2⟩
      · refine .inr ⟨j + 1, by simp; omega, ?_, ?_⟩
        · simp only [atR, if_neg c]; rw [h2, show k + 1 + j = k + (j + 1) by omega]
        · simp only [faR, if_neg c]; rw [h3]; simp
theorem fileAtI_ok (l : List Fil) (hl : l.length ≤ 140737488355328) (s : ByteArray) : PureFn Tryz.prog 73 [.agg [.sh 3 (vR (fils l))], st s] (faX (faR s l)) := by
  refine PureFn_of_Go Tryz.func73 rfl (by decide) mo (by decide +kernel) ?_
  obtain ⟨r, hr⟩ : ∃ r, r = faR s l := ⟨_, rfl⟩
  rw [← hr]
  simp only [Tryz.ntmps73, Tryz.results73, push_cast, seval, fils_length]
  refine Go_loop (α := {i : Nat // i ≤ l.length ∧ faR s (l.drop i) = r})
    (fun i => ⟨tp 22 [(1, .x (st s)), (9, .x (.one (.sh 3 (vR (fils l))))), (10, int l.length), (11, int i.1)], 0, [((0, 128), ⟨.box, 1, [[.sh 3 (vR (fils l))]]⟩)], []⟩) (fun i => l.length - i.1) ⟨0, Nat.zero_le _, hr.symm⟩ ?_ ?_
  · exact Weak.same (by simp only [push_cast, seval, Int.ofNat_zero])
  · rintro ⟨i, hi, hinv⟩ X hX
    by_cases hlt : (i : Int) < (l.length : Int)
    · have hi' : i < l.length := by omega
      have hg := fils_getD l hi'
      have ws := wsucc hi' (by omega)
      rw [drop_cons l i hi', faR] at hinv
      obtain ⟨i', hi1⟩ : ∃ i', i' = i + 1 := ⟨_, rfl⟩
      rw [← hi1] at ws hinv
      obtain ⟨f, hf⟩ : ∃ f, f = l.getD i default := ⟨_, rfl⟩
      rw [← hf] at hg hinv
      by_cases c : f.name = s
      · rw [if_pos c] at hinv
        have hfx : faX r = [st f.text, bo true] := by rw [← hinv]; rfl
        rw [hfx]
        simp only [Tryz.ntmps73, Tryz.results73, push_cast, seval, hlt, fils_length, hi', hg, filV, vR_getD, c]
      · rw [if_neg c] at hinv
        simp only [push_cast, seval, hlt, fils_length, hi', hg, filV, vR_getD, c, ws]
        refine ⟨_, ?_, hX ⟨i', by omega, hinv⟩ (by simp only; omega)⟩
        exact Weak.drop (by simp only [push_cast, seval, hi1]) (by simp only [push_cast, seval, hi1]) (by simp only [push_cast, seval, hi1])
    · have hie : i = l.length := by omega
      rw [hie, List.drop_length, faR] at hinv
      have hfx : faX r = [st ⟨#[]⟩, bo false] := by rw [← hinv]; rfl
      rw [hfx]
      simp only [Tryz.ntmps73, Tryz.results73, push_cast, seval, hlt, fils_length]
end Go.Proofs.YthbfmegbnnmepaaGreatDoor

/- Old journals dropped, the last one sought: what both ways come to. -/
namespace Go.Proofs.YthbfmegbnnmepaaGreatDoor
open Go.RowKit Go.Rx
set_option linter.unusedSimpArgs false
set_option maxRecDepth 100000

def jsPlus : ByteArray := ⟨#[106, 43]⟩
def jIx (f : Fil) : Nat := nmN 106 f.name
def jdropS (n : Nat) (f : Fil) : Bool := nmB 106 999 f.name && decide (jIx f ≠ n)
def jdropI (n : Nat) (f : Fil) : Bool := decide (f.name = jsPlus) || jdropS n f
def jshI (l : List Fil) (n : Nat) : List Acd := (l.filter (jdropI n)).map fun f => actD f.name
theorem jshI_succ {l : List Fil} {i : Nat} (h : i < l.length) (n : Nat) : jshI (l.take (i + 1)) n = jshI (l.take i) n ++ (if jdropI n (l.getD i default) then [actD (l.getD i default).name] else []) := by
  unfold jshI
  rw [take_snoc h, List.filter_append, List.map_append]
  congr 1
  cases hd : jdropI n (l.getD i default) with
  | true => rw [if_pos rfl, List.filter_cons_of_pos hd]; rfl
  | false => rw [if_neg Bool.false_ne_true, List.filter_cons_of_neg (by rw [hd]; exact Bool.false_ne_true)]; rfl
theorem jshI_len (l : List Fil) (n : Nat) : (jshI l n).length ≤ l.length := by
  unfold jshI; rw [List.length_map]; exact List.length_filter_le _ _
/-- The greatest number of a journal's file among the first ones. -/
def jNum (s : ByteArray) : Int := if nmB 106 999 s then (nmN 106 s : Int) else -1
def bstT (l : List Fil) : Nat → Int
  | 0 => -1
  | i + 1 => max (bstT l i) (jNum (l.getD i default).name)
theorem jNum_le (s : ByteArray) : -1 ≤ jNum s ∧ jNum s ≤ 999 := by
  unfold jNum
  split
  · rename_i h
    have := (nm_spec h).2.1
    omega
  · omega
theorem bstT_le (l : List Fil) : ∀ i, -1 ≤ bstT l i ∧ bstT l i ≤ 999
  | 0 => by unfold bstT; omega
  | i + 1 => by
    have h1 := bstT_le l i
    have h2 := jNum_le (l.getD i default).name
    unfold bstT
    omega
end Go.Proofs.YthbfmegbnnmepaaGreatDoor

/- A journal written anew, by both ways. -/
namespace Go.Proofs.YthbfmegbnnmepaaGreatDoor
open Go.RowKit Go.Rx
set_option linter.unusedSimpArgs false
set_option maxRecDepth 100000

def wrA (j : Jn) (old : ByteArray) : List Acd := [⟨1, jsPlus, jtB j, ⟨#[]⟩⟩, ⟨2, jsPlus, ⟨#[]⟩, ⟨#[]⟩⟩, ⟨3, jsPlus, ⟨#[]⟩, jnm j.number⟩, ⟨4, old, ⟨#[]⟩, ⟨#[]⟩⟩]
theorem jnm_ne {n : Int} (h : inR n 0 999 = true) : jnm n ≠ ⟨#[]⟩ := fun e => by
  have h1 : jnm n = nmT 106 n.toNat := by unfold jnm; rw [if_pos h]
  rw [h1] at e
  have : (nmT 106 n.toNat).size = 0 := by rw [e]; rfl
  unfold nmT at this
  rw [ByteArray.size_append] at this
  have e2 : (ltr1 106).size = 1 := rfl
  omega
theorem jtX_true {j : Jn} (h : jtOk j = true) : jtX j = [st (jtB j), bo true] := by simp only [jtX, h, if_true]
theorem jtX_false {j : Jn} (h : jtOk j = false) : jtX j = [st ⟨#[]⟩, bo false] := by simp only [jtX, h, Bool.false_eq_true, if_false]
theorem rewrite_ok (j : Jn) (h : fineE j.log.es) (old : ByteArray) : PureFn Tryz.prog 75 [.agg (jnC j (.sh 3 (vR (ents j.log.es)))), st old] [.one (.own 4 (vR (acds (if jtOk j then wrA j old else [])))), bo (jtOk j)] := by
  refine PureFn_of_GoW Tryz.func75 rfl (by decide) mo (by decide +kernel) ?_
  have k1 := journalNameI_ok j.number
  have k2 := journalTextI_ok j h
  have hp : (⟨#[106, 43]⟩ : ByteArray) = jsPlus := rfl
  cases c : jtOk j with
  | false =>
    rw [jtX_false c] at k2
    obtain ⟨number, term, vote, start, sterm, es⟩ := j
    simp only [jnC] at k2 k1
    rw [if_neg Bool.false_ne_true, show vR (acds []) = [] from rfl]
    simp only [Tryz.ntmps75, Tryz.results75, push_cast, seval, jnC]
    refine GoL_call rfl rfl k1 rfl rfl ?_
    simp only [push_cast, seval]
    refine GoL_call rfl rfl k2 rfl rfl ?_
    by_cases e : jnm number = ⟨#[]⟩
    · simp only [push_cast, seval, e]
      refine ⟨_, Weak.nilRoot (0, 256) 4 4 rfl rfl rfl, ?_⟩
      simp only [Tryz.ntmps75, Tryz.results75, push_cast, seval, List.set]
    · simp only [push_cast, seval, e]
      refine ⟨_, Weak.nilRoot (0, 256) 4 4 rfl rfl rfl, ?_⟩
      simp only [Tryz.ntmps75, Tryz.results75, push_cast, seval, List.set]
  | true =>
    rw [jtX_true c] at k2
    have hj : jokB j = true := by simp only [jtOk, Bool.and_eq_true] at c; exact c.1
    have hn := jokB_spec hj
    have hne := jnm_ne (n := j.number) (inR_spec.2 ⟨hn.1, hn.2.1⟩)
    rw [if_pos rfl]
    have hw : vR (acds (wrA j old)) = [[.v (.int .i64 1), .v (.string jsPlus), .v (.string (jtB j)), .v (.string ⟨#[]⟩)], [.v (.int .i64 2), .v (.string jsPlus), .v (.string ⟨#[]⟩), .v (.string ⟨#[]⟩)], [.v (.int .i64 3), .v (.string jsPlus), .v (.string ⟨#[]⟩), .v (.string (jnm j.number))], [.v (.int .i64 4), .v (.string old), .v (.string ⟨#[]⟩), .v (.string ⟨#[]⟩)]] := rfl
    rw [hw]
    obtain ⟨t, ht⟩ : ∃ t, t = jtB j := ⟨_, rfl⟩
    rw [← ht] at k2 ⊢
    obtain ⟨number, term, vote, start, sterm, es⟩ := j
    simp only [jnC] at k2 k1 hne ⊢
    simp only [Tryz.ntmps75, Tryz.results75, push_cast, seval, jnC]
    refine GoL_call rfl rfl k1 rfl rfl ?_
    simp only [push_cast, seval]
    refine GoL_call rfl rfl k2 rfl rfl ?_
    simp only [push_cast, seval, hne, hp]
    refine ⟨_, Weak.refl _, ?_⟩
    simp only [push_cast, seval]
end Go.Proofs.YthbfmegbnnmepaaGreatDoor

/- ReadJournal: the law. -/
namespace Go.Proofs.YthbfmegbnnmepaaGreatDoor
open Go.RowKit Go.Rx
set_option linter.unusedSimpArgs false
set_option maxRecDepth 100000

theorem tellL_fine (S : Nat) (hS : S ≤ 140737488355328) : ∀ (r : List (ByteArray × Nat)) (j : Jn) (e : Nat), fineE j.log.es → (∀ p ∈ r, p.1.size ≤ S) → fineE (tellL j e r).1.log.es
  | [], j, e, h, _ => h
  | (t, x) :: r, j, e, h, hs => by
    rw [tellL]
    cases hm : moreO j t with
    | none => exact h
    | some j' => exact tellL_fine S hS r j' x (fine_more h (Nat.le_trans (hs (t, x) (List.mem_cons_self ..)) hS) hm) fun p hp => hs p (List.mem_cons_of_mem _ hp)
end Go.Proofs.YthbfmegbnnmepaaGreatDoor

/- OpenJournal: what both ways come to. -/
namespace Go.Proofs.YthbfmegbnnmepaaGreatDoor
open Go.RowKit Go.Rx
set_option linter.unusedSimpArgs false
set_option maxRecDepth 100000

theorem tellL_num : ∀ (r : List (ByteArray × Nat)) (j : Jn) (e : Nat), (tellL j e r).1.number = j.number
  | [], j, e => rfl
  | (t, x) :: r, j, e => by
    unfold tellL
    cases h : moreO j t with
    | none => rfl
    | some j' =>
      simp only
      rw [tellL_num r j' x]
      unfold moreO at h
      split at h
      · split at h
        · cases h; rfl
        · cases h
      · split at h
        · split at h
          · cases h; rfl
          · cases h
        · cases h
theorem rjO_spec {n : Int} {s : ByteArray} (hs : s.size ≤ 140737488355328) {j : Jn} {e : Nat} (h : rjO n s = some (j, e)) : j.number = n ∧ inR n 0 999 = true ∧ fineE j.log.es := by
  unfold rjO at h
  split at h
  · rename_i hn
    split at h
    · cases h
    · rename_i t x r hfr
      split at h
      · have h2 := Option.some.inj h
        have h3 : j = (tellL ⟨n, 0, 0, ⟨eN1 t, eN2 t, []⟩⟩ x r).1 := by rw [h2]
        refine ⟨by rw [h3, tellL_num], hn, ?_⟩
        rw [h3]
        exact tellL_fine s.size hs r _ _ ⟨Nat.zero_le _, fun e he => by cases he⟩ fun p hp => frs_sizes p (by rw [hfr]; exact List.mem_cons_of_mem _ hp)
      · cases h
  · cases h

/-- What OpenJournal hands back. -/
def ojT (l : List Fil) : ByteArray := (faR (jnm (bstT l l.length)) l).getD ⟨#[]⟩
def nextJ (j : Jn) : Jn := { j with number := j.number + 1 }
def ojO (l : List Fil) : Option (Jn × List Acd) :=
  if dkB l then match rjO (bstT l l.length) (ojT l) with
    | none => none
    | some (j, e) => if e = (ojT l).size then some (j, jshI l (bstT l l.length).toNat)
      else if jtOk (nextJ j) then some (nextJ j, jshI l (bstT l l.length).toNat ++ wrA (nextJ j) (jnm (bstT l l.length))) else none
  else none
def ojX : Option (Jn × List Acd) → List X
  | none => [.agg (jnC jnZ (.own 3 [])), .one (.own 4 []), bo false]
  | some (j, A) => [.agg (jnC j (.own 3 (vR (ents j.log.es)))), .one (.own 4 (vR (acds A))), bo true]
theorem faR_small {l : List Fil} (h : filSm l) (s : ByteArray) : ((faR s l).getD ⟨#[]⟩).size ≤ 140737488355328 := by
  rcases atR_faR s l 0 with ⟨_, h2⟩ | ⟨j, h1, _, h3⟩
  · rw [h2]; exact Nat.zero_le _
  · rw [h3]
    exact (h.2 _ (getD_mem' l j h1)).2
end Go.Proofs.YthbfmegbnnmepaaGreatDoor

/- OpenJournal, by the program. -/
namespace Go.Proofs.YthbfmegbnnmepaaGreatDoor
open Go.RowKit Go.Rx
set_option linter.unusedSimpArgs false
set_option maxRecDepth 100000

set_option maxHeartbeats 2000000 in
theorem openJournalI_ok (l : List Fil) (h : filSm l) : PureFn Tryz.prog 26 [.agg [.sh 3 (vR (fils l))]] (ojX (ojO l)) := by
  refine PureFn_of_GoWX [30] Tryz.func26 rfl (by decide) mo (by decide +kernel) ?_
  have k1 := diskOkI_ok l h
  simp only [Tryz.ntmps26, Tryz.results26, push_cast, seval, fils_length, slimX, List.contains_cons, List.contains_nil, Nat.reduceBEq, Bool.or_false, Bool.and_true, Bool.and_false, Bool.true_and, Bool.false_and, if_true, if_false, Bool.false_eq_true]
  refine GoL_call rfl (by simp only [push_cast, seval, fils_length, fils_take]) k1 rfl rfl ?_
  cases hd : dkB l with
  | false =>
    have ho : ojO l = none := by simp only [ojO, hd, Bool.false_eq_true, if_false]
    rw [ho]
    simp only [push_cast, seval]
    refine ⟨_, Weak.trans (Weak.nilCell (0, 129) (0, 128) 3 5 rfl rfl rfl rfl) (Weak.nilRoot (0, 192) 4 3 rfl rfl rfl), ?_⟩
    simp only [push_cast, seval, List.set, ojX, jnC, jnZ]
  | true =>
    simp only [push_cast, seval, fils_length]
    refine Go_loop (α := {i : Nat // i ≤ l.length})
      (fun i => ⟨tp 117 [(1, .x (.one (.pt (0, 64) [] 1 0 0))), (2, .x (.one (.pt (0, 128) [] 6 0 0))), (5, .x (i64 (bstT l i.1))), (27, .x (.one (.sh 3 (vR (fils l))))), (28, int l.length), (29, int i.1)], 0, [((0, 128), ⟨.box, 6, [[.v (.int .i64 0), .v (.int .i64 0), .v (.int .i64 0), .v (.int .i64 0), .v (.int .i64 0), .v (.slice none 0 0)]]⟩), ((0, 64), ⟨.box, 1, [[.sh 3 (vR (fils l))]]⟩)], []⟩) (fun i => l.length - i.1) ⟨0, Nat.zero_le _⟩ ?_ ?_
    · exact Weak.same (by simp only [push_cast, seval, Int.ofNat_zero, bstT])
    · rintro ⟨i, hi⟩ X hX
      by_cases hlt : (i : Int) < (l.length : Int)
      · have hi' : i < l.length := by omega
        have hg := fils_getD l hi'
        have hmem := getD_mem' l i hi'
        have hl := h.1
        have ws := wsucc hi' (by omega)
        have hb : bstT l (i + 1) = max (bstT l i) (jNum (l.getD i default).name) := rfl
        have hb1 := bstT_le l i
        obtain ⟨i', hi1⟩ : ∃ i', i' = i + 1 := ⟨_, rfl⟩
        rw [← hi1] at ws hb
        obtain ⟨f, hf⟩ : ∃ f, f = l.getD i default := ⟨_, rfl⟩
        rw [← hf] at hg hmem hb
        obtain ⟨y, hy, kn⟩ := journalNumber_ok f.name (h.2 f hmem).1
        simp only [push_cast, seval, hlt, fils_length, hi', hg, filV, vR_getD]
        refine GoL_call rfl rfl kn rfl rfl ?_
        cases c : nmB 106 999 f.name with
        | false =>
          have hb2 : bstT l i' = bstT l i := by
            rw [hb]
            have : jNum f.name = -1 := by simp [jNum, c]
            omega
          simp only [push_cast, seval, ws]
          refine ⟨_, ?_, hX ⟨i', by omega⟩ (by simp only; omega)⟩
          simp only [hb2]
          exact Weak.drop (by simp only [push_cast, seval]) (by simp only [push_cast, seval]) (by simp only [push_cast, seval])
        | true =>
          have hy' := hy c
          have hb2 : bstT l i' = if bstT l i < y then y else bstT l i := by
            rw [hb, hy']
            have : jNum f.name = (nmN 106 f.name : Int) := by simp [jNum, c]
            rw [this, Int.max_def]
            split <;> split <;> omega
          simp only [push_cast, seval, ws]
          refine ⟨_, ?_, hX ⟨i', by omega⟩ (by simp only; omega)⟩
          simp only [hb2]
          exact Weak.drop (by simp only [push_cast, seval]) (by simp only [push_cast, seval]) (by simp only [push_cast, seval])
      · have hie : i = l.length := by omega
        subst hie
        obtain ⟨m, hm⟩ : ∃ m, m = bstT l l.length := ⟨_, rfl⟩
        have kN := journalNameI_ok m
        have kF := fileAtI_ok l h.1 (jnm m)
        have hT : (faR (jnm m) l).getD ⟨#[]⟩ = ojT l := by rw [hm]; rfl
        have hsz := faR_small h (jnm m)
        rw [hT] at hsz
        rw [faX, hT] at kF
        have kR := readJournalI_ok m (ojT l) hsz
        obtain ⟨T, hTe⟩ : ∃ T, T = ojT l := ⟨_, rfl⟩
        rw [← hTe] at kF kR hsz
        have hoj : ojO l = match rjO m T with
            | none => none
            | some (j, e) => if e = T.size then some (j, jshI l m.toNat)
              else if jtOk (nextJ j) then some (nextJ j, jshI l m.toNat ++ wrA (nextJ j) (jnm m)) else none := by
          unfold ojO; rw [if_pos hd, ← hTe, ← hm] <;> rfl
        simp only [← hm]
        simp only [push_cast, seval, hlt]
        refine GoL_call rfl rfl kN rfl rfl ?_
        simp only [push_cast, seval, fils_length]
        refine GoL_call rfl (by simp only [push_cast, seval, fils_length, fils_take]) kF rfl rfl ?_
        simp only [push_cast, seval, fils_length]
        cases hr : rjO m T with
        | none =>
          rw [hr] at hoj kR
          rw [hoj]
          simp only [rjX, jnC, jnZ] at kR
          refine GoL_call rfl rfl kR (by simp only [push_cast, seval]) rfl ?_
          simp only [push_cast, seval]
          refine ⟨_, Weak.trans (Weak.nilCell (0, 129) (0, 128) 3 5 rfl rfl rfl rfl) (Weak.nilRoot (0, 192) 4 3 rfl rfl rfl), ?_⟩
          simp only [push_cast, seval, List.set, ojX, jnC, jnZ]
        | some je =>
          obtain ⟨j, e⟩ := je
          rw [hr] at hoj kR
          obtain ⟨hjn, hmr, hjf⟩ := rjO_spec hsz hr
          rw [inR_spec] at hmr
          obtain ⟨n, rfl⟩ := Int.eq_ofNat_of_zero_le hmr.1
          have hn2 : n ≤ 999 := by omega
          have hnm : jnm (n : Int) = nmT 106 n := by unfold jnm; rw [if_pos (inR_spec.2 hmr)]; rfl
          rw [hnm, Int.toNat_natCast] at hoj
          rw [hnm]
          simp only [rjX, jnC] at kR
          obtain ⟨number, term, vote, start, sterm, es⟩ := j
          simp only at hjn hjf kR
          subst hjn
          refine GoL_call rfl rfl kR (by simp only [push_cast, seval]) rfl ?_
          simp only [push_cast, seval, fils_length, ents_length]
          refine Go_loop (α := {i : Nat // i ≤ l.length})
            (fun i => ⟨tp 117 [(1, .x (.one (.pt (0, 64) [] 1 0 0))), (2, .x (.one (.pt (0, 128) [] 6 0 0))), (10, .x (st (nmT 106 n))), (11, .x (st T)), (13, .x (.one (.pt (0, 832) [] 6 0 0))), (14, .x (i64 e)), (16, .x (.one (.rs (0, 5888) [] 4 0 (jshI (l.take i.1) n).length))), (63, .x (.one (.sh 3 (vR (fils l))))), (64, int l.length), (65, int i.1)], 0,
              [((0, 5888), ⟨.sl, 4, vR (acds (jshI (l.take i.1) n))⟩), ((0, 832), ⟨.box, 6, [[.v (.int .i64 n), .v (.int .i64 term), .v (.int .i64 vote), .v (.int .i64 start), .v (.int .i64 sterm), .rs (0, 3525) [] 3 0 es.length]]⟩), ((0, 3525), ⟨.sl, 3, vR (ents es)⟩), ((0, 128), ⟨.box, 6, [[.v (.int .i64 0), .v (.int .i64 0), .v (.int .i64 0), .v (.int .i64 0), .v (.int .i64 0), .v (.slice none 0 0)]]⟩), ((0, 64), ⟨.box, 1, [[.sh 3 (vR (fils l))]]⟩)], []⟩) (fun i => l.length - i.1) ⟨0, Nat.zero_le _⟩ ?_ ?_
          · refine Weak.trans (Weak.nilRoot (0, 5888) 4 16 rfl rfl rfl) ?_
            rw [show jshI (l.take 0) n = [] from rfl, show vR (acds []) = [] from rfl]
            simp only [push_cast, seval, Int.ofNat_zero, List.set, ents_length]
            exact Weak.same (by simp only [push_cast, seval])
          · rintro ⟨i, hi⟩ X hX
            simp only
            by_cases hlt : (i : Int) < (l.length : Int)
            · have hi' : i < l.length := by omega
              have hg := fils_getD l hi'
              have hmem := getD_mem' l i hi'
              have hl := h.1
              have ws := wsucc hi' (by omega)
              have hsu := jshI_succ hi' n
              have hln := jshI_len (l.take i) n
              have h30 := (dk_spec hd).1
              rw [List.length_take] at hln
              obtain ⟨i', hi1⟩ : ∃ i', i' = i + 1 := ⟨_, rfl⟩
              rw [← hi1] at ws hsu
              obtain ⟨f, hf⟩ : ∃ f, f = l.getD i default := ⟨_, rfl⟩
              rw [← hf] at hg hmem hsu
              obtain ⟨y, _, kn⟩ := journalNumber_ok f.name (h.2 f hmem).1
              generalize jshI (l.take i) n = A at hsu hln
              have hal := acds_length A
              have hat := acds_take A
              have a0 : A.length + 1 ≤ 4294967296 := by omega
              have a1 := max_len a0
              have a2 := room_le (b := 56) a0 (by decide)
              have hsn := acds_snoc A (actD f.name)
              have hpl : (⟨#[106, 43]⟩ : ByteArray) = jsPlus := rfl
              simp only [acdC, actD] at hsn
              simp only [push_cast, seval, hlt, fils_length, hi', hg, filV, vR_getD]
              refine GoL_call rfl rfl kn rfl rfl ?_
              simp only [push_cast, seval, hpl]
              by_cases c1 : f.name = jsPlus
              · have hdr : jdropI n f = true := by simp [jdropI, c1]
                rw [hdr, if_pos rfl] at hsu
                have hll : (jshI (l.take i') n).length = A.length + 1 := by rw [hsu, List.length_append]; rfl
                simp only [actD] at hsu
                rw [← hsu, c1] at hsn
                simp only [push_cast, seval, c1, ws, a1, a2, hal, hsn]
                refine ⟨_, ?_, hX ⟨i', by omega⟩ (by simp only; omega)⟩
                exact Weak.drop (by simp only [push_cast, seval, hll]) (by simp only [push_cast, seval, hll]) (by simp only [push_cast, seval, hll])
              · cases c2 : nmB 106 999 f.name with
                | false =>
                  have hdr : jdropI n f = false := by simp [jdropI, jdropS, c1, c2]
                  rw [hdr, if_neg Bool.false_ne_true, List.append_nil] at hsu
                  simp only [push_cast, seval, c1, ws]
                  refine ⟨_, ?_, hX ⟨i', by omega⟩ (by simp only; omega)⟩
                  simp only [hsu]
                  exact Weak.drop (by simp only [push_cast, seval]) (by simp only [push_cast, seval]) (by simp only [push_cast, seval])
                | true =>
                  by_cases c3 : f.name = nmT 106 n
                  · have hix : jIx f = n := by unfold jIx; rw [c3]; exact (nm_of (c := 106) (M := 999) (by omega) (by omega)).2
                    have hdr : jdropI n f = false := by simp [jdropI, jdropS, c1, hix]
                    rw [hdr, if_neg Bool.false_ne_true, List.append_nil] at hsu
                    have c1' : ¬ nmT 106 n = jsPlus := c3 ▸ c1
                    simp only [push_cast, seval, c1', c3, ws]
                    refine ⟨_, ?_, hX ⟨i', by omega⟩ (by simp only; omega)⟩
                    simp only [hsu]
                    exact Weak.drop (by simp only [push_cast, seval]) (by simp only [push_cast, seval]) (by simp only [push_cast, seval])
                  · have hix : ¬ jIx f = n := fun e => c3 (by rw [← e]; exact (nm_spec c2).1)
                    have hdr : jdropI n f = true := by simp [jdropI, jdropS, c2, hix]
                    rw [hdr, if_pos rfl] at hsu
                    have hll : (jshI (l.take i') n).length = A.length + 1 := by rw [hsu, List.length_append]; rfl
                    simp only [actD] at hsu
                    rw [← hsu] at hsn
                    simp only [push_cast, seval, c1, c3, ws, a1, a2, hal, hsn]
                    refine ⟨_, ?_, hX ⟨i', by omega⟩ (by simp only; omega)⟩
                    exact Weak.drop (by simp only [push_cast, seval, hll]) (by simp only [push_cast, seval, hll]) (by simp only [push_cast, seval, hll])
            · obtain rfl : i = l.length := by omega
              have hat := acds_take (jshI l n)
              have hal := acds_length (jshI l n)
              have het := ents_take es
              have hel := ents_length es
              by_cases c4 : e = T.size
              · simp only [c4, if_true] at hoj
                rw [hoj]
                simp only [push_cast, seval, hlt, c4, take_all, hal, hat]
                refine ⟨_, Weak.refl _, ?_⟩
                simp only [push_cast, seval, take_all, hal, hat, het, hel, ojX, jnC]
              · simp only [c4, if_false] at hoj
                have c5 : ¬ ((e : Int) = (T.size : Int)) := by omega
                have w1 : IntKind.i64.wrap ((n : Int) + 1) = (n : Int) + 1 := w64 (by omega) (by omega)
                have kW := rewrite_ok ⟨(n : Int) + 1, term, vote, ⟨start, sterm, es⟩⟩ hjf (nmT 106 n)
                simp only [jnC] at kW
                simp only [nextJ] at hoj
                cases c6 : jtOk ⟨(n : Int) + 1, term, vote, ⟨start, sterm, es⟩⟩ with
                | false =>
                  simp only [c6, Bool.false_eq_true, if_false] at hoj kW
                  rw [hoj]
                  simp only [push_cast, seval, hlt, c5, take_all, hal, hat, w1]
                  refine GoL_call rfl (by simp only [push_cast, seval, het, hel]) kW (by simp only [push_cast, seval]) rfl ?_
                  simp only [push_cast, seval]
                  refine ⟨_, Weak.trans (Weak.nilCell (0, 129) (0, 128) 3 5 rfl rfl rfl rfl) (Weak.nilRoot (0, 192) 4 3 rfl rfl rfl), ?_⟩
                  simp only [push_cast, seval, List.set, ojX, jnC, jnZ]
                | true =>
                  simp only [c6, if_true] at hoj kW
                  rw [hoj]
                  simp only [push_cast, seval, hlt, c5, take_all, hal, hat, w1]
                  refine GoL_call rfl (by simp only [push_cast, seval, het, hel]) kW (by simp only [push_cast, seval]) rfl ?_
                  simp only [push_cast, seval]
                  have hwl : (wrA ⟨(n : Int) + 1, term, vote, ⟨start, sterm, es⟩⟩ (nmT 106 n)).length = 4 := rfl
                  have b1 := jshI_len l n
                  have h30 := (dk_spec hd).1
                  generalize wrA ⟨(n : Int) + 1, term, vote, ⟨start, sterm, es⟩⟩ (nmT 106 n) = B at hwl ⊢
                  generalize jshI l n = A at b1 hat hal ⊢
                  have hbl := acds_length B
                  have hbt := acds_take B
                  have a0 : A.length + B.length ≤ 4294967296 := by omega
                  have a1 := max_len a0
                  have a2 := room_le (b := 56) a0 (by decide)
                  have hsn : vR (acds A) ++ vR (acds B) = vR (acds (A ++ B)) := by simp [vR, acds]
                  have hct := acds_take (A ++ B)
                  rw [List.length_append] at hct
                  refine Go_anyK fun K hK => ?_
                  refine AnyL_3 0 1 2 (by decide +kernel) rfl rfl rfl ?_ ?_ ?_ <;> simp only [push_cast, seval]
                  repeat' first
                    | refine AnyL_2 1 2 (by decide +kernel) rfl rfl ?_ ?_ <;> simp only [push_cast, seval]
                    | refine AnyL_2 0 2 (by decide +kernel) rfl rfl ?_ ?_ <;> simp only [push_cast, seval]
                    | refine AnyL_2 0 1 (by decide +kernel) rfl rfl ?_ ?_ <;> simp only [push_cast, seval]
                    | refine AnyL_2 0 3 (by decide +kernel) rfl rfl ?_ ?_ <;> simp only [push_cast, seval, hal, hbl, hat, hbt, a1, a2, hsn, acds_flat, acds_length]
                    | (refine AnyL_1 1 (by decide +kernel) rfl ?_; simp only [push_cast, seval])
                    | (refine AnyL_1 2 (by decide +kernel) rfl ?_; simp only [push_cast, seval])
                    | (refine AnyL_1 3 (by decide +kernel) rfl ?_; simp only [push_cast, seval, hal, hbl, hat, hbt, a1, a2, hsn, acds_flat, acds_length])
                    | (refine AnyL_1 0 (by decide +kernel) rfl ?_; simp only [push_cast, seval])
                    | fail
                  all_goals
                    refine AnyL_1 4 (by decide +kernel) rfl ?_
                    simp only [push_cast, seval]
                    refine AnyL_1 5 (by decide +kernel) rfl ?_
                    simp only [push_cast, seval]
                    refine AnyL_1 6 (by decide +kernel) rfl ?_
                    simp only [push_cast, seval]
                    refine AnyL_end (by decide +kernel) (hK _ ?_)
                    simp only [push_cast, seval]
                    refine ⟨_, Weak.refl _, ?_⟩
                    simp only [push_cast, seval, hct, acds_length, List.length_append, het, hel, ojX, jnC]
end Go.Proofs.YthbfmegbnnmepaaGreatDoor

/- The empty board, by the program. -/
namespace Go.Proofs.YthbfmegbnnmepaaGreatDoor
open Go.RowKit Go.Rx
set_option linter.unusedSimpArgs false
set_option maxRecDepth 100000

abbrev nilS : C := .v (.slice none 0 0)
def bNew : List C := [nilS, nilS, nilS, .v (.int .i64 0), .v (.int .i64 1)]
def bodyB : ByteArray := ⟨#[0, 0, 0, 0, 1]⟩
theorem boardNewI_ok : PureFn Tryz.prog 15 [] [.agg bNew] := by
  refine PureFn_of_Go Tryz.func15 rfl (by decide) mo (by decide +kernel) ?_
  simp only [Tryz.ntmps15, Tryz.results15, push_cast, seval, bNew]
theorem sessionsOk_nil : PureFn Tryz.prog 98 [.one nilS] [bo true] := by
  refine PureFn_of_Go Tryz.func98 rfl (by decide) mo (by decide +kernel) ?_
  simp only [Tryz.ntmps98, Tryz.results98, push_cast, seval]
  refine Go_loop (α := Unit) (fun _ => _) (fun _ => 0) () (Weak.refl _) ?_
  rintro _ X hX
  simp only [Tryz.ntmps98, Tryz.results98, push_cast, seval]
theorem plansOk_nil : PureFn Tryz.prog 99 [.one nilS] [bo true] := by
  refine PureFn_of_Go Tryz.func99 rfl (by decide) mo (by decide +kernel) ?_
  simp only [Tryz.ntmps99, Tryz.results99, push_cast, seval]
  refine Go_loop (α := Unit) (fun _ => _) (fun _ => 0) () (Weak.refl _) ?_
  rintro _ X hX
  simp only [Tryz.ntmps99, Tryz.results99, push_cast, seval]
theorem runsOk_nil : PureFn Tryz.prog 100 [.agg bNew] [bo true] := by
  refine PureFn_of_Go Tryz.func100 rfl (by decide) mo (by decide +kernel) ?_
  simp only [Tryz.ntmps100, Tryz.results100, push_cast, seval, bNew]
  refine Go_loop (α := Unit) (fun _ => _) (fun _ => 0) () (Weak.refl _) ?_
  rintro _ X hX
  simp only [Tryz.ntmps100, Tryz.results100, push_cast, seval]
theorem tokensOf_nil : PureFn Tryz.prog 145 [.agg bNew] [.one nilS] := by
  refine PureFn_of_Go Tryz.func145 rfl (by decide) mo (by decide +kernel) ?_
  simp only [Tryz.ntmps145, Tryz.results145, push_cast, seval, bNew]
  refine Go_loop (α := Unit) (fun _ => _) (fun _ => 0) () (Weak.refl _) ?_
  rintro _ X hX
  simp only [Tryz.ntmps145, Tryz.results145, push_cast, seval]
theorem tokensOk_nil : PureFn Tryz.prog 101 [.agg bNew] [bo true] := by
  refine PureFn_of_Go Tryz.func101 rfl (by decide) mo (by decide +kernel) ?_
  have k1 := tokensOf_nil
  have k2 := inRange_ok 1 0 999999991
  simp only [Tryz.ntmps101, Tryz.results101, push_cast, seval, bNew]
  refine GoL_call rfl rfl k1 rfl rfl ?_
  simp only [push_cast, seval]
  refine Go_loop (α := Unit) (fun _ => _) (fun _ => 0) () (Weak.refl _) ?_
  rintro _ X hX
  simp only [Tryz.ntmps101, Tryz.results101, push_cast, seval]
  refine GoL_call rfl rfl k2 rfl rfl ?_
  simp only [Tryz.ntmps101, Tryz.results101, push_cast, seval, inR]
theorem isMinute_zero : PureFn Tryz.prog 102 [i64 0] [bo true] := by
  refine PureFn_of_Go Tryz.func102 rfl (by decide) mo (by decide +kernel) ?_
  have k2 := inRange_ok 0 0 68374079
  simp only [Tryz.ntmps102, Tryz.results102, push_cast, seval]
  refine GoL_call rfl rfl k2 rfl rfl ?_
  simp only [Tryz.ntmps102, Tryz.results102, push_cast, seval, inR]
theorem boardOkI_nil : PureFn Tryz.prog 45 [.agg bNew] [bo true] := by
  refine PureFn_of_Go Tryz.func45 rfl (by decide) mo (by decide +kernel) ?_
  have k1 := sessionsOk_nil
  have k2 := plansOk_nil
  have k3 := runsOk_nil
  have k4 := tokensOk_nil
  have k5 := isMinute_zero
  simp only [bNew] at k3 k4 ⊢
  simp only [Tryz.ntmps45, Tryz.results45, push_cast, seval]
  refine GoL_call rfl rfl k1 rfl rfl ?_
  simp only [push_cast, seval]
  refine GoL_call rfl rfl k2 rfl rfl ?_
  simp only [push_cast, seval]
  refine GoL_call rfl rfl k3 rfl rfl ?_
  simp only [push_cast, seval]
  refine GoL_call rfl rfl k4 rfl rfl ?_
  simp only [push_cast, seval]
  refine GoL_call rfl rfl k5 rfl rfl ?_
  simp only [push_cast, seval]
  refine Go_loop (α := Unit) (fun _ => _) (fun _ => 0) () (Weak.refl _) ?_
  rintro _ X hX
  simp only [Tryz.ntmps45, Tryz.results45, push_cast, seval]
end Go.Proofs.YthbfmegbnnmepaaGreatDoor

/- The empty board's text, by the program. -/
namespace Go.Proofs.YthbfmegbnnmepaaGreatDoor
open Go.RowKit Go.Rx
set_option linter.unusedSimpArgs false
set_option linter.unusedVariables false
set_option maxRecDepth 100000

theorem bl_len (s : ByteArray) : BlFn Tryz.prog 52 (fun b => #[.pointer (some ⟨b, 0, none⟩)]) 98 5 s s (.int .i64 s.size) := by
  refine ⟨fn_ok Tryz.func52 (by decide) rfl, fun w b row h => ?_⟩
  have h' := h
  obtain ⟨hT, p, v, hb, hp, hown, hrow⟩ := h
  have hv : ∃ ao cap, v = .slice ao s.size cap := by
    rcases hown.2 with ⟨hv, h0⟩ | ⟨g, cap, cur, hv, _⟩
    · exact ⟨none, 0, by rw [hv, h0]⟩
    · exact ⟨_, cap, hv⟩
  obtain ⟨ao, cap, rfl⟩ := hv
  have c1 : w.cell? ⟨b, 1, none⟩ = some (.slice ao s.size cap) := by rw [Lib.cell_of_heap hb]; rfl
  go_enter Tryz.func52, Tryz.ntmps52
  go_wp2
  go_ret
  exact ⟨rfl, row, h', BFr.refl _ _ _, fun k hk => .inl hk⟩
theorem varB_zero : varB 0 = ⟨#[0]⟩ := by
  have := varL_small (n := 0) (by omega)
  unfold varB; rw [this]; rfl
theorem varB_one : varB 1 = ⟨#[1]⟩ := by
  have := varL_small (n := 1) (by omega)
  unfold varB; rw [this]; rfl
set_option maxHeartbeats 1000000 in
theorem boardTextI_nil : PureFn Tryz.prog 14 [.agg bNew] [st bodyB, bo true] := by
  refine PureFn_of_GoWX [28] Tryz.func14 rfl (by decide) mo (by decide +kernel) ?_
  have k1 := boardOkI_nil
  have k0 := varText_ok 0 (by omega)
  have k2 := varText_ok 1 (by omega)
  rw [varB_zero] at k0
  rw [varB_one] at k2
  simp only [bNew] at k1 ⊢
  simp only [Tryz.ntmps14, Tryz.results14, push_cast, seval, slimX, List.contains_cons, List.contains_nil, Nat.reduceBEq, Bool.or_false, Bool.and_true, Bool.and_false, Bool.true_and, Bool.false_and, if_true, if_false, Bool.false_eq_true]
  refine GoL_call rfl rfl k1 rfl rfl ?_
  simp only [push_cast, seval]
  refine GoL_blNew (e := 5) rfl (by decide +kernel) (z := .agg #[.pointer none, .slice none 0 0]) (by kernel_rfl) rfl rfl rfl (by decide) fun b => ?_
  simp only [push_cast, seval]
  refine GoL_call rfl rfl k0 rfl rfl ?_
  simp only [push_cast, seval]
  refine GoL_bl (r := (0, 256)) (bl_write ⟨#[]⟩ ⟨#[0]⟩ (by decide)) rfl rfl rfl (zx := .tup [.one (.v (.int .i64 (⟨#[0]⟩ : ByteArray).size)), .one (.v .nilIface)]) (fun w o g => ⟨_, rfl, rfl, fun j hj => ?_⟩) fun r1 => ?_
  · match j, hj with
    | 0, _ => exact rfl
    | 1, _ => exact rfl
  simp only [push_cast, seval]
  refine Go_loop (α := Unit) (fun _ => _) (fun _ => 0) () (Weak.refl _) ?_
  rintro _ X1 hX1
  simp only [push_cast, seval]
  refine GoL_call rfl rfl k0 rfl rfl ?_
  simp only [push_cast, seval]
  refine GoL_bl (r := (0, 256)) (bl_write _ ⟨#[0]⟩ (by decide)) rfl rfl rfl (zx := .tup [.one (.v (.int .i64 (⟨#[0]⟩ : ByteArray).size)), .one (.v .nilIface)]) (fun w o g => ⟨_, rfl, rfl, fun j hj => ?_⟩) fun r2 => ?_
  · match j, hj with
    | 0, _ => exact rfl
    | 1, _ => exact rfl
  simp only [push_cast, seval]
  refine Go_loop (α := Unit) (fun _ => _) (fun _ => 0) () (Weak.refl _) ?_
  rintro _ X2 hX2
  simp only [push_cast, seval]
  refine GoL_call rfl rfl k0 rfl rfl ?_
  simp only [push_cast, seval]
  refine GoL_bl (r := (0, 256)) (bl_write _ ⟨#[0]⟩ (by decide)) rfl rfl rfl (zx := .tup [.one (.v (.int .i64 (⟨#[0]⟩ : ByteArray).size)), .one (.v .nilIface)]) (fun w o g => ⟨_, rfl, rfl, fun j hj => ?_⟩) fun r3 => ?_
  · match j, hj with
    | 0, _ => exact rfl
    | 1, _ => exact rfl
  simp only [push_cast, seval]
  refine Go_loop (α := Unit) (fun _ => _) (fun _ => 0) () (Weak.refl _) ?_
  rintro _ X3 hX3
  simp only [push_cast, seval]
  have e5 : (⟨#[0]⟩ : ByteArray) ++ ⟨#[1]⟩ = ⟨#[0, 1]⟩ := rfl
  have e6 : (⟨#[0]⟩ : ByteArray).size + (⟨#[1]⟩ : ByteArray).size ≤ 9223372036854775807 := by decide
  have e7 : (⟨#[]⟩ : ByteArray) ++ ⟨#[0]⟩ ++ ⟨#[0]⟩ ++ ⟨#[0]⟩ ++ ⟨#[0, 1]⟩ = bodyB := rfl
  refine Go_anyK fun K hK => ?_
  refine AnyL_2 0 3 (by decide +kernel) rfl rfl ?_ ?_ <;> simp only [push_cast, seval]
  repeat' first
    | refine AnyL_2 1 3 (by decide +kernel) rfl rfl ?_ ?_ <;> simp only [push_cast, seval]
    | refine AnyL_2 0 4 (by decide +kernel) rfl rfl ?_ ?_ <;> simp only [push_cast, seval]
    | refine AnyL_2 1 4 (by decide +kernel) rfl rfl ?_ ?_ <;> simp only [push_cast, seval]
    | refine AnyL_2 2 3 (by decide +kernel) rfl rfl (GoL_call rfl rfl k0 rfl rfl ?_) ?_ <;> simp only [push_cast, seval]
    | refine AnyL_2 2 4 (by decide +kernel) rfl rfl (GoL_call rfl rfl k0 rfl rfl ?_) ?_ <;> simp only [push_cast, seval]
    | (refine AnyL_1 0 (by decide +kernel) rfl ?_; simp only [push_cast, seval])
    | (refine AnyL_1 1 (by decide +kernel) rfl ?_; simp only [push_cast, seval])
    | (refine AnyL_1 2 (by decide +kernel) rfl (GoL_call rfl rfl k0 rfl rfl ?_); simp only [push_cast, seval])
    | (refine AnyL_1 3 (by decide +kernel) rfl ?_; simp only [push_cast, seval])
    | (refine AnyL_1 4 (by decide +kernel) rfl ?_; simp only [push_cast, seval])
    | fail
  all_goals
    refine AnyL_1 5 (by decide +kernel) rfl (GoL_call rfl rfl k2 rfl rfl ?_)
    simp only [push_cast, seval]
    refine AnyL_1 6 (by decide +kernel) rfl ?_
    simp only [push_cast, seval, e5, e6]
    refine AnyL_1 7 (by decide +kernel) rfl ?_
    refine GoL_bl (r := (0, 256)) (bl_write _ ⟨#[0, 1]⟩ (by decide)) rfl rfl rfl (zx := .tup [.one (.v (.int .i64 (⟨#[0, 1]⟩ : ByteArray).size)), .one (.v .nilIface)]) (fun w o g => ⟨_, rfl, rfl, fun j hj => ?_⟩) fun r4 => ?_
    · match j, hj with
      | 0, _ => exact rfl
      | 1, _ => exact rfl
    simp only [push_cast, seval]
    refine AnyL_end (by decide +kernel) (hK _ ?_)
    simp only [push_cast, seval]
    refine GoL_bl (r := (0, 256)) (bl_len _) rfl rfl rfl (zx := .x (.one (.v (.int .i64 5)))) (fun w o g => rfl) fun r5 => ?_
    simp only [push_cast, seval]
    refine GoL_blEnd (r := (0, 256)) (bl_string _) rfl rfl rfl ?_
    simp only [Tryz.ntmps14, Tryz.results14, push_cast, seval, e7]
    refine ⟨_, Weak.refl _, ?_⟩
    simp only [Tryz.ntmps14, Tryz.results14, push_cast, seval]
end Go.Proofs.YthbfmegbnnmepaaGreatDoor

/- FormatDisk, by the program. -/
namespace Go.Proofs.YthbfmegbnnmepaaGreatDoor
open Go.RowKit Go.Rx
set_option linter.unusedSimpArgs false
set_option maxRecDepth 100000

def fdS (l : List Int) : Snp := ⟨0, 0, l, bodyB⟩
def jT : ByteArray := if jtOk jnZ then jtB jnZ else ⟨#[]⟩
def fdJ : Fil := ⟨nmT 106 0, jT, jT.size⟩
def fdN (l : List Int) : Fil := ⟨nmT 115 0, seB (snI (fdS l)), (seB (snI (fdS l))).size⟩
def fdL (l : List Int) : List Fil := [fdJ, fdN l]
def fdX (l : List Int) : List X := if snF (fdS l) then [.agg [.own 3 (vR (fils (fdL l)))], bo true] else [.agg [.own 3 []], bo false]
theorem jtX_jT : ∃ b, jtX jnZ = [st jT, bo b] := by
  unfold jtX jT
  split
  · exact ⟨true, rfl⟩
  · exact ⟨false, rfl⟩
theorem names_lt : ltB (nmT 106 0) (nmT 115 0) = true := by
  unfold ltB nmT
  rw [app_list, app_list]
  rfl
theorem PureFn_sub {P : Program} {f : FuncId} {xs xs' ret : List X} (h : PureFn P f xs ret) (hl : xs'.length = xs.length)
    (hs : ∀ i, i < xs.length → ∀ (w : World) (y : Value), XR w [] (Sall w) (xs'.getD i (.one .bad)) y → XR w [] (Sall w) (xs.getD i (.one .bad)) y) : PureFn P f xs' ret :=
  ⟨h.1, fun w ys _ hly hx => h.2 w ys (hly.trans hl) fun i hi => hs i hi w _ (hx i (by omega))⟩
theorem zero_sub {P : Program} {f : FuncId} {ret : List X} (h : PureFn P f [.agg (jnC jnZ (.sh 3 []))] ret) : PureFn P f [.agg (jnC jnZ nilS)] ret :=
  PureFn_sub h rfl fun i hi w y hy => by
    obtain rfl : i = 0 := by simp at hi; omega
    obtain ⟨ys, e1, e2, e3⟩ := hy
    refine ⟨ys, e1, e2, fun j hj => ?_⟩
    have h3 := e3 j hj
    match j, hj with
    | 0, _ => exact h3
    | 1, _ => exact h3
    | 2, _ => exact h3
    | 3, _ => exact h3
    | 4, _ => exact h3
    | 5, _ =>
      have h4 : ys.getD 5 undef = .slice none 0 0 := h3
      show Sh w _ (.sh 3 []) (ys.getD 5 undef)
      rw [h4]
      exact .nil 3
def iteV (b : Bool) (v : V) : V := if b = true then v else .x (.one .bad)
theorem iteV_t (v : V) : iteV true v = v := rfl
abbrev pt6 : V := .x (.one (.pt (0, 640) [] 1 0 0))
theorem getD_set_eq (T : List V) (i : Nat) (v d : V) (h : i < T.length) : (T.set i v).getD i d = v := by rw [List.getD_eq_getElem?_getD, List.getElem?_set_self h]; rfl
theorem getD_set_ne (T : List V) (i j : Nat) (v : V) {d : V} (h : i ≠ j) : (T.set i v).getD j d = T.getD j d := by rw [List.getD_eq_getElem?_getD, List.getElem?_set_ne h, ← List.getD_eq_getElem?_getD]
def putG (L : List Fil) : Store := [((0, 641), ⟨.sl, 3, vR (fils L)⟩), ((0, 640), ⟨.box, 1, [[.rs (0, 641) [] 3 0 L.length]]⟩), ((0, 128), ⟨.box, 1, [[nilS]]⟩)]
def putL2 (L : List Fil) (f : Fil) : Store := [((2, 1600), ⟨.sl, 3, vR (fils (L ++ [f]))⟩), ((1, 1792), ⟨.sl, 3, [filC f]⟩), ((1, 192), ⟨.box, 3, [filC f]⟩)]
def putG2 (n : Nat) : Store := [((0, 640), ⟨.box, 1, [[.rs (2, 1600) [] 3 0 n]]⟩), ((0, 128), ⟨.box, 1, [[nilS]]⟩)]
set_option maxHeartbeats 2000000 in
theorem put_body (L : List Fil) (f : Fil) (hup : ∀ x ∈ L, ltB x.name f.name = true) (hn : L.length ≤ 30) (K : St → Prop) (hK : ∀ t2, K ⟨t2, 1, putL2 L f, putG2 (L.length + 1)⟩) {c : Code} (hb : Tryz.f18.body = some c) :
    Go Tryz.prog (slimX [3, 4] c) [] (startSt Tryz.f18 [.one (.pt (0, 640) [] 1 0 0), .agg (filC f)] 1 (putG L)) fun e σ' => (e = .normal ∨ e = .ret) ∧ K σ' := by
  obtain rfl : _ = c := Option.some.inj hb
  obtain ⟨name, text, kept⟩ := f
  simp only [filC, putG]
  simp only [Tryz.ntmps18, Tryz.results18, push_cast, seval, slimX, List.contains_cons, List.contains_nil, Nat.reduceBEq, Bool.or_false, Bool.and_true, Bool.and_false, Bool.true_and, Bool.false_and, if_true, if_false, Bool.false_eq_true]
  refine GoL_inl2 2 Tryz.func60 rfl (by decide) mo (by decide +kernel) rfl rfl (show 1 ≤ 2 by decide) rfl fun K2 hK2 => ?_
  simp only [Tryz.ntmps60, Tryz.results60, push_cast, seval]
  refine Go_loop (α := {i : Nat // i ≤ L.length})
    (fun i => ⟨tp 48 [(0, pt6), (1, .x (st name)), (6, int i.1)], 2, [], [((1, 192), ⟨.box, 3, [[.v (.string name), .v (.string text), .v (.int .i64 kept)]]⟩), ((0, 641), ⟨.sl, 3, vR (fils L)⟩), ((0, 640), ⟨.box, 1, [[.rs (0, 641) [] 3 0 L.length]]⟩), ((0, 128), ⟨.box, 1, [[nilS]]⟩)]⟩) (fun i => L.length - i.1) ⟨0, Nat.zero_le _⟩ ?_ ?_
  · exact Weak.same (by simp only [push_cast, seval, Int.ofNat_zero])
  · rintro ⟨i, hi⟩ X hX
    simp only
    by_cases hlt : (i : Int) < (L.length : Int)
    · have hi' : i < L.length := by omega
      have hg := fils_getD L hi'
      have hmem := getD_mem' L i hi'
      have ws := wsucc hi' (by omega)
      obtain ⟨i', hi1⟩ : ∃ i', i' = i + 1 := ⟨_, rfl⟩
      rw [← hi1] at ws
      obtain ⟨x, hx⟩ : ∃ x, x = L.getD i default := ⟨_, rfl⟩
      rw [← hx] at hg hmem
      have hl2 := hup x hmem
      simp only at hl2
      simp only [push_cast, seval, hlt, fils_length, hi', hg, filV, vR_getD, hl2, ws]
      refine ⟨_, ?_, hX ⟨i', by omega⟩ (by simp only; omega)⟩
      exact Weak.drop (by simp only [push_cast, seval]) (by simp only [push_cast, seval]) (by simp only [push_cast, seval])
    · obtain rfl : i = L.length := by omega
      simp only [push_cast, seval, hlt, fils_length]
      refine hK2 _ _ _ (Weak.refl _) rfl rfl rfl ?_
      simp only [Tryz.ntmps18, Tryz.results18, push_cast, seval]
      refine Go_anyK fun K3 hK3 => ?_
      have hfin : ∀ T, K3 ⟨T, 1, putL2 L ⟨name, text, kept⟩, putG2 (L.length + 1)⟩ := fun T => hK3 _ (by
        simp only [Tryz.ntmps18, Tryz.results18, push_cast, seval]
        exact hK T)
      clear hK3 hK
      simp only [push_cast, seval]
      generalize hdeps : depsL _ = deps
      have d2_1 : 1 ∈ deps.getD 2 [] := by rw [← hdeps]; decide +kernel
      have d3_2 : 2 ∈ deps.getD 3 [] := by rw [← hdeps]; decide +kernel
      have d4_3 : 3 ∈ deps.getD 4 [] := by rw [← hdeps]; decide +kernel
      have d7_6 : 6 ∈ deps.getD 7 [] := by rw [← hdeps]; decide +kernel
      have d8_4 : 4 ∈ deps.getD 8 [] := by rw [← hdeps]; decide +kernel
      have d8_5 : 5 ∈ deps.getD 8 [] := by rw [← hdeps]; decide +kernel
      have d8_7 : 7 ∈ deps.getD 8 [] := by rw [← hdeps]; decide +kernel
      have d9_0 : 0 ∈ deps.getD 9 [] := by rw [← hdeps]; decide +kernel
      have d9_8 : 8 ∈ deps.getD 9 [] := by rw [← hdeps]; decide +kernel
      have d10_9 : 9 ∈ deps.getD 10 [] := by rw [← hdeps]; decide +kernel
      have d11_10 : 10 ∈ deps.getD 11 [] := by rw [← hdeps]; decide +kernel
      have hlen : deps.length = 12 := by rw [← hdeps]; decide +kernel
      have hac : ∀ j, j < deps.length → ∀ k ∈ deps.getD j [], k < j := by rw [← hdeps]; decide +kernel
      clear hdeps
      have fls : ∀ (j k : Nat) (done : List Nat), j ≠ k → done.contains k = false → (j :: done).contains k = false := fun j k done h1 h2 => by
        rw [List.contains_cons, h2, Bool.or_false]; simp; exact fun e => h1 e.symm
      have tru : ∀ (j k : Nat) (done : List Nat), done.contains k = true → (j :: done).contains k = true := fun j k done h2 => by rw [List.contains_cons, h2, Bool.or_true]
      have slf : ∀ (j : Nat) (done : List Nat), (j :: done).contains j = true := fun j done => by rw [List.contains_cons]; simp
      have a8 : ∀ done, downC deps done → done.contains 8 = true → done.contains 1 = true ∧ done.contains 2 = true ∧ done.contains 3 = true ∧ done.contains 4 = true ∧ done.contains 5 = true ∧ done.contains 6 = true ∧ done.contains 7 = true := fun done hdc c8 => by
        have e4 := hdc 8 c8 4 d8_4
        have e5 := hdc 8 c8 5 d8_5
        have e7 := hdc 8 c8 7 d8_7
        have e3 := hdc 4 e4 3 d4_3
        have e2 := hdc 3 e3 2 d3_2
        exact ⟨hdc 2 e2 1 d2_1, e2, e3, e4, e5, hdc 7 e7 6 d7_6, e7⟩
      obtain ⟨Inv, hInv⟩ : ∃ Inv : List Nat → St → Prop, ∀ done σ, Inv done σ ↔
          (done.contains 7 = false ∧ done.contains 8 = false ∧ done.contains 9 = false ∧ done.contains 10 = false ∧ done.contains 11 = false ∧ σ = ⟨[pt6, .x (.agg [.v (.string name), .v (.string text), .v (.int .i64 kept)]), .x (.one .bad), .x (.one (.pt (1, 192) [] 3 0 0)), .x (i64 L.length), .x (bo false), .tup [i64 L.length, bo false], pt6, .x (.one (.pt (1, 192) [] 3 0 0)), .x (st name), .tup [i64 L.length, bo false], .x (i64 L.length), .x (bo false), .x (bo false), .x (.one .bad), .x (.one .bad), .x (.one .bad), .x (.one .bad), .x (.one .bad), .x (.one .bad), .x (.one .bad), iteV (done.contains 0) pt6, iteV (done.contains 1) pt6, iteV (done.contains 2) pt6, iteV (done.contains 3) pt6, iteV (done.contains 4) (.x (.one (.rs (0, 641) [] 3 0 L.length))), iteV (done.contains 5) (.x (i64 L.length)), iteV (done.contains 6) (.x (.agg [.v (.string name), .v (.string text), .v (.int .i64 kept)])), .x (.one .bad), .x (.one .bad), .x (.one .bad), .x (.one .bad)], 1, [((1, 192), ⟨.box, 3, [[.v (.string name), .v (.string text), .v (.int .i64 kept)]]⟩)], [((0, 641), ⟨.sl, 3, vR (fils L)⟩), ((0, 640), ⟨.box, 1, [[.rs (0, 641) [] 3 0 L.length]]⟩), ((0, 128), ⟨.box, 1, [[nilS]]⟩)]⟩) ∨
          (done.contains 6 = true ∧ done.contains 7 = true ∧ done.contains 8 = false ∧ done.contains 9 = false ∧ done.contains 10 = false ∧ done.contains 11 = false ∧ σ = ⟨[pt6, .x (.agg [.v (.string name), .v (.string text), .v (.int .i64 kept)]), .x (.one .bad), .x (.one (.pt (1, 192) [] 3 0 0)), .x (i64 L.length), .x (bo false), .tup [i64 L.length, bo false], pt6, .x (.one (.pt (1, 192) [] 3 0 0)), .x (st name), .tup [i64 L.length, bo false], .x (i64 L.length), .x (bo false), .x (bo false), .x (.one .bad), .x (.one .bad), .x (.one .bad), .x (.one .bad), .x (.one .bad), .x (.one .bad), .x (.one .bad), iteV (done.contains 0) pt6, iteV (done.contains 1) pt6, iteV (done.contains 2) pt6, iteV (done.contains 3) pt6, iteV (done.contains 4) (.x (.one (.rs (0, 641) [] 3 0 L.length))), iteV (done.contains 5) (.x (i64 L.length)), .x (.agg [.v (.string name), .v (.string text), .v (.int .i64 kept)]), .x (.one (.rs (1, 1792) [] 3 0 1)), .x (.one .bad), .x (.one .bad), .x (.one .bad)], 1, [((1, 1792), ⟨.sl, 3, [[.v (.string name), .v (.string text), .v (.int .i64 kept)]]⟩), ((1, 192), ⟨.box, 3, [[.v (.string name), .v (.string text), .v (.int .i64 kept)]]⟩)], [((0, 641), ⟨.sl, 3, vR (fils L)⟩), ((0, 640), ⟨.box, 1, [[.rs (0, 641) [] 3 0 L.length]]⟩), ((0, 128), ⟨.box, 1, [[nilS]]⟩)]⟩) ∨
          (done.contains 8 = true ∧ done.contains 9 = false ∧ done.contains 10 = false ∧ done.contains 11 = false ∧ ∃ T : List V, T.length = 32 ∧ T.getD 0 (.x (.one .bad)) = pt6 ∧ T.getD 21 (.x (.one .bad)) = iteV (done.contains 0) pt6 ∧ T.getD 29 (.x (.one .bad)) = .x (.one (.rs (2, 1600) [] 3 0 (L.length + 1))) ∧ σ = ⟨T, 1, putL2 L ⟨name, text, kept⟩, [((0, 640), ⟨.box, 1, [[.bad]]⟩), ((0, 128), ⟨.box, 1, [[nilS]]⟩)]⟩) ∨
          (done.contains 8 = true ∧ done.contains 9 = true ∧ done.contains 10 = false ∧ done.contains 11 = false ∧ ∃ T : List V, T.length = 32 ∧ T.getD 30 (.x (.one .bad)) = pt6 ∧ T.getD 29 (.x (.one .bad)) = .x (.one (.rs (2, 1600) [] 3 0 (L.length + 1))) ∧ σ = ⟨T, 1, putL2 L ⟨name, text, kept⟩, [((0, 640), ⟨.box, 1, [[.bad]]⟩), ((0, 128), ⟨.box, 1, [[nilS]]⟩)]⟩) ∨
          (done.contains 8 = true ∧ done.contains 9 = true ∧ done.contains 10 = true ∧ done.contains 11 = false ∧ ∃ T : List V, T.getD 31 (.x (.one .bad)) = pt6 ∧ T.getD 29 (.x (.one .bad)) = .x (.one (.rs (2, 1600) [] 3 0 (L.length + 1))) ∧ σ = ⟨T, 1, putL2 L ⟨name, text, kept⟩, [((0, 640), ⟨.box, 1, [[.bad]]⟩), ((0, 128), ⟨.box, 1, [[nilS]]⟩)]⟩) ∨
          (done.contains 11 = true ∧ ∃ T : List V, σ = ⟨T, 1, putL2 L ⟨name, text, kept⟩, putG2 (L.length + 1)⟩) := ⟨_, fun _ _ => Iff.rfl⟩
      refine AnyL_by (Inv := Inv) 12 hlen hac (fun done σ hinv hdc j hj hjn hd => ?_) (fun done σ hinv hall => ?_) 12 [] _ rfl (downC_nil _) ?_
      · rcases (hInv _ _).1 hinv with ⟨c7, c8, c9, c10, c11, rfl⟩ | ⟨c6, c7, c8, c9, c10, c11, rfl⟩ | ⟨c8, c9, c10, c11, T, t1, t2, t3, t4, rfl⟩ | ⟨c8, c9, c10, c11, T, t1, t2, t3, rfl⟩ | ⟨c8, c9, c10, c11, T, t1, t2, rfl⟩ | ⟨c11, T, rfl⟩
        · have hjs : j = 0 ∨ j = 1 ∨ j = 2 ∨ j = 3 ∨ j = 4 ∨ j = 5 ∨ j = 6 ∨ j = 7 ∨ j = 8 ∨ j = 9 ∨ j = 10 ∨ j = 11 := by omega
          rcases hjs with rfl | rfl | rfl | rfl | rfl | rfl | rfl | rfl | rfl | rfl | rfl | rfl
          · refine ⟨_, rfl, ?_⟩
            simp only [push_cast, seval, iteV_t]
            refine (hInv _ _).2 (.inl ⟨fls _ _ _ (by decide) c7, fls _ _ _ (by decide) c8, fls _ _ _ (by decide) c9, fls _ _ _ (by decide) c10, fls _ _ _ (by decide) c11, ?_⟩)
            simp only [List.contains_cons, Nat.reduceBEq, Bool.false_or, Bool.true_or, iteV_t]
          · refine ⟨_, rfl, ?_⟩
            simp only [push_cast, seval, iteV_t]
            refine (hInv _ _).2 (.inl ⟨fls _ _ _ (by decide) c7, fls _ _ _ (by decide) c8, fls _ _ _ (by decide) c9, fls _ _ _ (by decide) c10, fls _ _ _ (by decide) c11, ?_⟩)
            simp only [List.contains_cons, Nat.reduceBEq, Bool.false_or, Bool.true_or, iteV_t]
          · have hq := hd 1 d2_1
            refine ⟨_, rfl, ?_⟩
            simp only [push_cast, seval, hq, iteV_t]
            refine (hInv _ _).2 (.inl ⟨fls _ _ _ (by decide) c7, fls _ _ _ (by decide) c8, fls _ _ _ (by decide) c9, fls _ _ _ (by decide) c10, fls _ _ _ (by decide) c11, ?_⟩)
            simp only [List.contains_cons, Nat.reduceBEq, Bool.false_or, Bool.true_or, hq, iteV_t]
          · have hq := hd 2 d3_2
            refine ⟨_, rfl, ?_⟩
            simp only [push_cast, seval, hq, iteV_t]
            refine (hInv _ _).2 (.inl ⟨fls _ _ _ (by decide) c7, fls _ _ _ (by decide) c8, fls _ _ _ (by decide) c9, fls _ _ _ (by decide) c10, fls _ _ _ (by decide) c11, ?_⟩)
            simp only [List.contains_cons, Nat.reduceBEq, Bool.false_or, Bool.true_or, hq, iteV_t]
          · have hq := hd 3 d4_3
            refine ⟨_, rfl, ?_⟩
            simp only [push_cast, seval, hq, iteV_t]
            refine (hInv _ _).2 (.inl ⟨fls _ _ _ (by decide) c7, fls _ _ _ (by decide) c8, fls _ _ _ (by decide) c9, fls _ _ _ (by decide) c10, fls _ _ _ (by decide) c11, ?_⟩)
            simp only [List.contains_cons, Nat.reduceBEq, Bool.false_or, Bool.true_or, hq, iteV_t]
          · refine ⟨_, rfl, ?_⟩
            simp only [push_cast, seval, iteV_t]
            refine (hInv _ _).2 (.inl ⟨fls _ _ _ (by decide) c7, fls _ _ _ (by decide) c8, fls _ _ _ (by decide) c9, fls _ _ _ (by decide) c10, fls _ _ _ (by decide) c11, ?_⟩)
            simp only [List.contains_cons, Nat.reduceBEq, Bool.false_or, Bool.true_or, iteV_t]
          · refine ⟨_, rfl, ?_⟩
            simp only [push_cast, seval, iteV_t]
            refine (hInv _ _).2 (.inl ⟨fls _ _ _ (by decide) c7, fls _ _ _ (by decide) c8, fls _ _ _ (by decide) c9, fls _ _ _ (by decide) c10, fls _ _ _ (by decide) c11, ?_⟩)
            simp only [List.contains_cons, Nat.reduceBEq, Bool.false_or, Bool.true_or, iteV_t]
          · have hq := hd 6 d7_6
            refine ⟨_, rfl, ?_⟩
            simp only [push_cast, seval, hq, iteV_t]
            refine (hInv _ _).2 (.inr (.inl ⟨tru _ _ _ hq, slf _ _, fls _ _ _ (by decide) c8, fls _ _ _ (by decide) c9, fls _ _ _ (by decide) c10, fls _ _ _ (by decide) c11, ?_⟩))
            simp only [List.contains_cons, Nat.reduceBEq, Bool.false_or, Bool.true_or, hq, iteV_t]
          · exact absurd (hd 7 d8_7) (by rw [c7]; exact Bool.false_ne_true)
          · exact absurd (hd 8 d9_8) (by rw [c8]; exact Bool.false_ne_true)
          · exact absurd (hd 9 d10_9) (by rw [c9]; exact Bool.false_ne_true)
          · exact absurd (hd 10 d11_10) (by rw [c10]; exact Bool.false_ne_true)
        · have hjs : j = 0 ∨ j = 1 ∨ j = 2 ∨ j = 3 ∨ j = 4 ∨ j = 5 ∨ j = 6 ∨ j = 7 ∨ j = 8 ∨ j = 9 ∨ j = 10 ∨ j = 11 := by omega
          rcases hjs with rfl | rfl | rfl | rfl | rfl | rfl | rfl | rfl | rfl | rfl | rfl | rfl
          · refine ⟨_, rfl, ?_⟩
            simp only [push_cast, seval, iteV_t]
            refine (hInv _ _).2 (.inr (.inl ⟨tru _ _ _ c6, tru _ _ _ c7, fls _ _ _ (by decide) c8, fls _ _ _ (by decide) c9, fls _ _ _ (by decide) c10, fls _ _ _ (by decide) c11, ?_⟩))
            simp only [List.contains_cons, Nat.reduceBEq, Bool.false_or, Bool.true_or, iteV_t]
          · refine ⟨_, rfl, ?_⟩
            simp only [push_cast, seval, iteV_t]
            refine (hInv _ _).2 (.inr (.inl ⟨tru _ _ _ c6, tru _ _ _ c7, fls _ _ _ (by decide) c8, fls _ _ _ (by decide) c9, fls _ _ _ (by decide) c10, fls _ _ _ (by decide) c11, ?_⟩))
            simp only [List.contains_cons, Nat.reduceBEq, Bool.false_or, Bool.true_or, iteV_t]
          · have hq := hd 1 d2_1
            refine ⟨_, rfl, ?_⟩
            simp only [push_cast, seval, hq, iteV_t]
            refine (hInv _ _).2 (.inr (.inl ⟨tru _ _ _ c6, tru _ _ _ c7, fls _ _ _ (by decide) c8, fls _ _ _ (by decide) c9, fls _ _ _ (by decide) c10, fls _ _ _ (by decide) c11, ?_⟩))
            simp only [List.contains_cons, Nat.reduceBEq, Bool.false_or, Bool.true_or, hq, iteV_t]
          · have hq := hd 2 d3_2
            refine ⟨_, rfl, ?_⟩
            simp only [push_cast, seval, hq, iteV_t]
            refine (hInv _ _).2 (.inr (.inl ⟨tru _ _ _ c6, tru _ _ _ c7, fls _ _ _ (by decide) c8, fls _ _ _ (by decide) c9, fls _ _ _ (by decide) c10, fls _ _ _ (by decide) c11, ?_⟩))
            simp only [List.contains_cons, Nat.reduceBEq, Bool.false_or, Bool.true_or, hq, iteV_t]
          · have hq := hd 3 d4_3
            refine ⟨_, rfl, ?_⟩
            simp only [push_cast, seval, hq, iteV_t]
            refine (hInv _ _).2 (.inr (.inl ⟨tru _ _ _ c6, tru _ _ _ c7, fls _ _ _ (by decide) c8, fls _ _ _ (by decide) c9, fls _ _ _ (by decide) c10, fls _ _ _ (by decide) c11, ?_⟩))
            simp only [List.contains_cons, Nat.reduceBEq, Bool.false_or, Bool.true_or, hq, iteV_t]
          · refine ⟨_, rfl, ?_⟩
            simp only [push_cast, seval, iteV_t]
            refine (hInv _ _).2 (.inr (.inl ⟨tru _ _ _ c6, tru _ _ _ c7, fls _ _ _ (by decide) c8, fls _ _ _ (by decide) c9, fls _ _ _ (by decide) c10, fls _ _ _ (by decide) c11, ?_⟩))
            simp only [List.contains_cons, Nat.reduceBEq, Bool.false_or, Bool.true_or, iteV_t]
          · exact absurd (c6) (by rw [hjn]; exact Bool.false_ne_true)
          · exact absurd (c7) (by rw [hjn]; exact Bool.false_ne_true)
          · have h4 := hd 4 d8_4
            have h5 := hd 5 d8_5
            have h3 := hdc 4 h4 3 d4_3
            have h2 := hdc 3 h3 2 d3_2
            have h1 := hdc 2 h2 1 d2_1
            have b1 : L.length ≤ 9223372036854775806 := by omega
            have b2 : (L.length + 1 + (L.length + 1) / 4 + 192) * 40 ≤ 281474976710656 := by omega
            have hsn : vR (fils L) ++ [[.v (.string name), .v (.string text), .v (.int .i64 kept)]] = vR (fils (L ++ [⟨name, text, kept⟩])) := by simp [vR, fils, filV]
            have iteF : ∀ v, iteV false v = .x (.one .bad) := fun _ => rfl
            have h0 : done.contains 0 = true ∨ done.contains 0 = false := by cases done.contains 0 <;> simp
            refine ⟨_, rfl, ?_⟩
            rcases h0 with h0 | h0
            all_goals
              refine GoL_inl2 (xs := [.one (.rs (0, 641) [] 3 0 L.length), i64 L.length, .one (.rs (1, 1792) [] 3 0 1)]) 2 Tryz.func61 rfl (by decide) mo (by decide +kernel) rfl (by simp only [push_cast, seval, h4, h5, iteV_t]) (show 1 ≤ 2 by decide) rfl fun K4 hK4 => ?_
              simp only [Tryz.ntmps61, Tryz.results61, push_cast, seval, h0, h1, h2, h3, h4, h5, iteV_t, iteF, fils_length, b1, b2, hsn]
              refine hK4 _ _ _ (Weak.refl _) rfl rfl rfl ?_
              simp only [push_cast, seval, h0, h1, h2, h3, h4, h5, iteV_t, iteF]
              refine (hInv _ _).2 (.inr (.inr (.inl ⟨slf _ _, fls _ _ _ (by decide) c9, fls _ _ _ (by decide) c10, fls _ _ _ (by decide) c11, _, rfl, rfl, ?_, rfl, rfl⟩)))
              simp only [List.contains_cons, Nat.reduceBEq, Bool.false_or, h0, iteV_t, iteF]
              rfl
          · exact absurd (hd 8 d9_8) (by rw [c8]; exact Bool.false_ne_true)
          · exact absurd (hd 9 d10_9) (by rw [c9]; exact Bool.false_ne_true)
          · exact absurd (hd 10 d11_10) (by rw [c10]; exact Bool.false_ne_true)
        · obtain ⟨e1, e2, e3, e4, e5, e6, e7⟩ := a8 done hdc c8
          have hjs : j = 0 ∨ j = 1 ∨ j = 2 ∨ j = 3 ∨ j = 4 ∨ j = 5 ∨ j = 6 ∨ j = 7 ∨ j = 8 ∨ j = 9 ∨ j = 10 ∨ j = 11 := by omega
          rcases hjs with rfl | rfl | rfl | rfl | rfl | rfl | rfl | rfl | rfl | rfl | rfl | rfl
          · refine ⟨_, rfl, ?_⟩
            simp only [push_cast, seval, t1, t2, t3, t4]
            refine (hInv _ _).2 (.inr (.inr (.inl ⟨tru _ _ _ c8, fls _ _ _ (by decide) c9, fls _ _ _ (by decide) c10, fls _ _ _ (by decide) c11, _, by rw [List.length_set]; exact t1, ?_, ?_, ?_, rfl⟩)))
            · rw [getD_set_ne _ _ _ _ (by decide)]; exact t2
            · rw [slf]; exact getD_set_eq _ _ _ _ (by rw [t1]; decide)
            · rw [getD_set_ne _ _ _ _ (by decide)]; exact t4
          · exact absurd (e1) (by rw [hjn]; exact Bool.false_ne_true)
          · exact absurd (e2) (by rw [hjn]; exact Bool.false_ne_true)
          · exact absurd (e3) (by rw [hjn]; exact Bool.false_ne_true)
          · exact absurd (e4) (by rw [hjn]; exact Bool.false_ne_true)
          · exact absurd (e5) (by rw [hjn]; exact Bool.false_ne_true)
          · exact absurd (e6) (by rw [hjn]; exact Bool.false_ne_true)
          · exact absurd (e7) (by rw [hjn]; exact Bool.false_ne_true)
          · exact absurd (c8) (by rw [hjn]; exact Bool.false_ne_true)
          · have h0 := hd 0 d9_0
            rw [h0, iteV_t] at t3
            refine ⟨_, rfl, ?_⟩
            simp only [push_cast, seval, t1, t2, t3, t4]
            refine (hInv _ _).2 (.inr (.inr (.inr (.inl ⟨tru _ _ _ c8, slf _ _, fls _ _ _ (by decide) c10, fls _ _ _ (by decide) c11, _, by rw [List.length_set]; exact t1, ?_, ?_, rfl⟩))))
            · exact getD_set_eq _ _ _ _ (by rw [t1]; decide)
            · rw [getD_set_ne _ _ _ _ (by decide)]; exact t4
          · exact absurd (hd 9 d10_9) (by rw [c9]; exact Bool.false_ne_true)
          · exact absurd (hd 10 d11_10) (by rw [c10]; exact Bool.false_ne_true)
        · obtain ⟨e1, e2, e3, e4, e5, e6, e7⟩ := a8 done hdc c8
          have hjs : j = 0 ∨ j = 1 ∨ j = 2 ∨ j = 3 ∨ j = 4 ∨ j = 5 ∨ j = 6 ∨ j = 7 ∨ j = 8 ∨ j = 9 ∨ j = 10 ∨ j = 11 := by omega
          rcases hjs with rfl | rfl | rfl | rfl | rfl | rfl | rfl | rfl | rfl | rfl | rfl | rfl
          · exact absurd (hdc 9 c9 0 d9_0) (by rw [hjn]; exact Bool.false_ne_true)
          · exact absurd (e1) (by rw [hjn]; exact Bool.false_ne_true)
          · exact absurd (e2) (by rw [hjn]; exact Bool.false_ne_true)
          · exact absurd (e3) (by rw [hjn]; exact Bool.false_ne_true)
          · exact absurd (e4) (by rw [hjn]; exact Bool.false_ne_true)
          · exact absurd (e5) (by rw [hjn]; exact Bool.false_ne_true)
          · exact absurd (e6) (by rw [hjn]; exact Bool.false_ne_true)
          · exact absurd (e7) (by rw [hjn]; exact Bool.false_ne_true)
          · exact absurd (c8) (by rw [hjn]; exact Bool.false_ne_true)
          · exact absurd (c9) (by rw [hjn]; exact Bool.false_ne_true)
          · refine ⟨_, rfl, ?_⟩
            simp only [push_cast, seval, t1, t2, t3]
            refine (hInv _ _).2 (.inr (.inr (.inr (.inr (.inl ⟨tru _ _ _ c8, tru _ _ _ c9, slf _ _, fls _ _ _ (by decide) c11, _, ?_, ?_, rfl⟩)))))
            · exact getD_set_eq _ _ _ _ (by rw [t1]; decide)
            · rw [getD_set_ne _ _ _ _ (by decide)]; exact t3
          · exact absurd (hd 10 d11_10) (by rw [c10]; exact Bool.false_ne_true)
        · obtain ⟨e1, e2, e3, e4, e5, e6, e7⟩ := a8 done hdc c8
          have hjs : j = 0 ∨ j = 1 ∨ j = 2 ∨ j = 3 ∨ j = 4 ∨ j = 5 ∨ j = 6 ∨ j = 7 ∨ j = 8 ∨ j = 9 ∨ j = 10 ∨ j = 11 := by omega
          rcases hjs with rfl | rfl | rfl | rfl | rfl | rfl | rfl | rfl | rfl | rfl | rfl | rfl
          · exact absurd (hdc 9 c9 0 d9_0) (by rw [hjn]; exact Bool.false_ne_true)
          · exact absurd (e1) (by rw [hjn]; exact Bool.false_ne_true)
          · exact absurd (e2) (by rw [hjn]; exact Bool.false_ne_true)
          · exact absurd (e3) (by rw [hjn]; exact Bool.false_ne_true)
          · exact absurd (e4) (by rw [hjn]; exact Bool.false_ne_true)
          · exact absurd (e5) (by rw [hjn]; exact Bool.false_ne_true)
          · exact absurd (e6) (by rw [hjn]; exact Bool.false_ne_true)
          · exact absurd (e7) (by rw [hjn]; exact Bool.false_ne_true)
          · exact absurd (c8) (by rw [hjn]; exact Bool.false_ne_true)
          · exact absurd (c9) (by rw [hjn]; exact Bool.false_ne_true)
          · exact absurd (c10) (by rw [hjn]; exact Bool.false_ne_true)
          · refine ⟨_, rfl, ?_⟩
            simp only [push_cast, seval, t1, t2, putL2, filC]
            refine (hInv _ _).2 (.inr (.inr (.inr (.inr (.inr ⟨slf _ _, _, rfl⟩)))))
        · have c10 := hdc 11 c11 10 d11_10
          have c9 := hdc 10 c10 9 d10_9
          have c8 := hdc 9 c9 8 d9_8
          obtain ⟨e1, e2, e3, e4, e5, e6, e7⟩ := a8 done hdc c8
          have hjs : j = 0 ∨ j = 1 ∨ j = 2 ∨ j = 3 ∨ j = 4 ∨ j = 5 ∨ j = 6 ∨ j = 7 ∨ j = 8 ∨ j = 9 ∨ j = 10 ∨ j = 11 := by omega
          rcases hjs with rfl | rfl | rfl | rfl | rfl | rfl | rfl | rfl | rfl | rfl | rfl | rfl
          · exact absurd (hdc 9 c9 0 d9_0) (by rw [hjn]; exact Bool.false_ne_true)
          · exact absurd (e1) (by rw [hjn]; exact Bool.false_ne_true)
          · exact absurd (e2) (by rw [hjn]; exact Bool.false_ne_true)
          · exact absurd (e3) (by rw [hjn]; exact Bool.false_ne_true)
          · exact absurd (e4) (by rw [hjn]; exact Bool.false_ne_true)
          · exact absurd (e5) (by rw [hjn]; exact Bool.false_ne_true)
          · exact absurd (e6) (by rw [hjn]; exact Bool.false_ne_true)
          · exact absurd (e7) (by rw [hjn]; exact Bool.false_ne_true)
          · exact absurd (c8) (by rw [hjn]; exact Bool.false_ne_true)
          · exact absurd (c9) (by rw [hjn]; exact Bool.false_ne_true)
          · exact absurd (c10) (by rw [hjn]; exact Bool.false_ne_true)
          · exact absurd (c11) (by rw [hjn]; exact Bool.false_ne_true)
      · have h11 := hall 11 (by decide)
        rcases (hInv _ _).1 hinv with ⟨c7, c8, c9, c10, c11, _⟩ | ⟨c6, c7, c8, c9, c10, c11, _⟩ | ⟨c8, c9, c10, c11, _⟩ | ⟨c8, c9, c10, c11, _⟩ | ⟨c8, c9, c10, c11, _⟩ | ⟨c11, T, rfl⟩
        · rw [h11] at c11; cases c11
        · rw [h11] at c11; cases c11
        · rw [h11] at c11; cases c11
        · rw [h11] at c11; cases c11
        · rw [h11] at c11; cases c11
        · exact hfin T
      · refine (hInv _ _).2 (.inl ⟨rfl, rfl, rfl, rfl, rfl, ?_⟩)
        rfl
set_option maxHeartbeats 1000000 in
theorem formatDiskI_ok (l : List Int) (hl : l.length ≤ 140737488355328) : PureFn Tryz.prog 6 [.one (.sh 1 (vR (ints l)))] (fdX l) := by
  refine PureFn_of_GoW Tryz.func6 rfl (by decide) mo (by decide +kernel) ?_
  have k1 := boardNewI_ok
  have k2 := boardTextI_nil
  have k3 := snapTextI_ok (fdS l) hl
  have hz : fineE jnZ.log.es := ⟨Nat.zero_le _, fun e he => by cases he⟩
  have k4 := zero_sub (journalTextI_ok jnZ hz)
  obtain ⟨jb, hjb⟩ := jtX_jT
  rw [hjb] at k4
  have k5 := journalNameI_ok 0
  have k6 := snapNameI_ok 0 (by omega)
  rw [show jnm 0 = nmT 106 0 from rfl] at k5
  simp only [bNew] at k1 k2
  simp only [Snp.enc, fdS] at k3
  simp only [jnC, jnZ] at k4
  simp only [Tryz.ntmps6, Tryz.results6, push_cast, seval]
  refine GoL_call rfl rfl k1 rfl rfl ?_
  simp only [push_cast, seval]
  refine GoL_call rfl rfl k2 rfl rfl ?_
  simp only [push_cast, seval]
  cases c : snF (fdS l) with
  | false =>
    rw [show snX ⟨0, 0, l, bodyB⟩ = [st ⟨#[]⟩, bo false] from by show snX (fdS l) = _; simp only [snX, c, Bool.false_eq_true, if_false]] at k3
    refine GoL_call rfl rfl k3 rfl rfl ?_
    simp only [push_cast, seval]
    refine ⟨_, Weak.nilCell (0, 129) (0, 128) 3 0 rfl rfl rfl rfl, ?_⟩
    simp only [push_cast, seval, List.set, fdX, c]
  | true =>
    rw [show snX ⟨0, 0, l, bodyB⟩ = [st (seB (snI (fdS l))), bo true] from by show snX (fdS l) = _; simp only [snX, c, if_true]] at k3
    refine GoL_call rfl rfl k3 rfl rfl ?_
    simp only [push_cast, seval]
    refine GoL_call rfl rfl k4 rfl rfl ?_
    simp only [push_cast, seval]
    refine GoL_callW rfl rfl k5 rfl rfl (Weak.nilCell (0, 641) (0, 640) 3 0 rfl rfl rfl rfl) ?_
    simp only [push_cast, seval, List.set]
    refine GoL_inl2X [3, 4] 1 Tryz.func18 rfl (by decide) mo (by decide +kernel) rfl rfl (show 0 ≤ 1 by decide) rfl fun K hK => ?_
    refine put_body [] ⟨nmT 106 0, jT, jT.size⟩ (fun x hx => by cases hx) (Nat.zero_le _) K (fun t2 => ?_) rfl
    refine hK _ _ [] (Weak.refl _) rfl rfl rfl ?_
    simp only [push_cast, seval, putL2, putG2, filC, List.nil_append]
    refine GoL_callW (σ2 := ⟨tp 44 [(2, .x (.one (.pt (0, 128) [] 1 0 0))), (6, .x (st (seB (snI (fdS l))))), (10, pt6), (37, .x (st (nmT 115 0)))], 0, [((0, 641), ⟨.sl, 3, vR (fils [⟨nmT 106 0, jT, jT.size⟩])⟩), ((0, 640), ⟨.box, 1, [[.rs (0, 641) [] 3 0 1]]⟩), ((0, 128), ⟨.box, 1, [[nilS]]⟩)], []⟩) rfl rfl k6 rfl rfl ?_ ?_
    · refine Weak.trans (σ' := ⟨tp 44 [(2, .x (.one (.pt (0, 128) [] 1 0 0))), (6, .x (st (seB (snI (fdS l))))), (10, pt6), (37, .x (st (nmT 115 0)))], 0, [((2, 1600), ⟨.sl, 3, vR (fils [⟨nmT 106 0, jT, jT.size⟩])⟩), ((0, 640), ⟨.box, 1, [[.rs (2, 1600) [] 3 0 1]]⟩), ((0, 128), ⟨.box, 1, [[nilS]]⟩)], []⟩) ?_ ?_
      · simp only [push_cast, seval]
        exact Weak.drop (by simp only [push_cast, seval]) (by simp only [push_cast, seval]) (by simp only [push_cast, seval])
      · refine Weak.trans (Weak.rename' (2, 1600) (0, 641) (Nat.zero_le _) (Nat.zero_le _) (by decide) rfl) ?_
        simp only [push_cast, seval, ren_vR']
        exact Weak.refl _
    simp only [push_cast, seval]
    refine GoL_inl2X [3, 4] 1 Tryz.func18 rfl (by decide) mo (by decide +kernel) rfl rfl (show 0 ≤ 1 by decide) rfl fun K hK => ?_
    refine put_body [⟨nmT 106 0, jT, jT.size⟩] ⟨nmT 115 0, seB (snI (fdS l)), (seB (snI (fdS l))).size⟩ (fun x hx => by
      rcases List.mem_cons.1 hx with rfl | hx
      · exact names_lt
      · cases hx) (by decide) K (fun t2 => ?_) rfl
    refine hK _ _ [] (Weak.refl _) rfl rfl rfl ?_
    simp only [push_cast, seval, putL2, putG2, filC]
    refine ⟨_, Weak.refl _, ?_⟩
    simp only [push_cast, seval, fdX, c, fils_length]
    rfl
end Go.Proofs.YthbfmegbnnmepaaGreatDoor

/- The formatted disk: what is read of it. -/
namespace Go.Proofs.YthbfmegbnnmepaaGreatDoor
open Go.RowKit Go.Rx
set_option linter.unusedSimpArgs false
set_option maxRecDepth 100000

def confs : List (List Int) := [[1], [2], [3], [4], [1, 2], [1, 3], [1, 4], [2, 3], [2, 4], [3, 4], [1, 2, 3], [1, 2, 4], [1, 3, 4], [2, 3, 4], [1, 2, 3, 4]]
theorem conf_mem {l : List Int} (h : confB l = true) : l ∈ confs := by
  have hl := confB_len h
  simp only [confB, Bool.and_eq_true, decide_eq_true_eq] at h
  obtain ⟨h0, hr⟩ := h
  match l, hl, h0, hr with
  | [], _, h0, _ => exact absurd h0 (by decide)
  | [a], _, _, hr =>
    have a1 : 1 ≤ a := (hr 0 (by simp)).1
    have a2 : a ≤ 4 := (hr 0 (by simp)).2.1
    have ha : a = 1 ∨ a = 2 ∨ a = 3 ∨ a = 4 := by omega
    rcases ha with rfl | rfl | rfl | rfl <;> decide
  | [a, b], _, _, hr =>
    have a1 : 1 ≤ a := (hr 0 (by simp)).1
    have b2 : b ≤ 4 := (hr 1 (by simp)).2.1
    have b3 : a < b := (hr 1 (by simp)).2.2 (by decide)
    have ha : a = 1 ∨ a = 2 ∨ a = 3 ∨ a = 4 := by omega
    have hb : b = 1 ∨ b = 2 ∨ b = 3 ∨ b = 4 := by omega
    rcases ha with rfl | rfl | rfl | rfl <;> rcases hb with rfl | rfl | rfl | rfl <;> first | decide | (exfalso; omega)
  | [a, b, c], _, _, hr =>
    have a1 : 1 ≤ a := (hr 0 (by simp)).1
    have b3 : a < b := (hr 1 (by simp)).2.2 (by decide)
    have c2 : c ≤ 4 := (hr 2 (by simp)).2.1
    have c3 : b < c := (hr 2 (by simp)).2.2 (by decide)
    have ha : a = 1 ∨ a = 2 := by omega
    have hb : b = 2 ∨ b = 3 := by omega
    have hc : c = 3 ∨ c = 4 := by omega
    rcases ha with rfl | rfl <;> rcases hb with rfl | rfl <;> rcases hc with rfl | rfl <;> first | decide | (exfalso; omega)
  | [a, b, c, d], _, _, hr =>
    have a1 : 1 ≤ a := (hr 0 (by simp)).1
    have b3 : a < b := (hr 1 (by simp)).2.2 (by decide)
    have c3 : b < c := (hr 2 (by simp)).2.2 (by decide)
    have d2 : d ≤ 4 := (hr 3 (by simp)).2.1
    have d3 : c < d := (hr 3 (by simp)).2.2 (by decide)
    obtain rfl : a = 1 := by omega
    obtain rfl : b = 2 := by omega
    obtain rfl : c = 3 := by omega
    obtain rfl : d = 4 := by omega
    decide
  | a :: b :: c :: d :: e :: r, hl, _, _ => simp only [List.length_cons] at hl; omega

def keptB (l : List Fil) : Bool := (l.all fun f => decide (f.kept = (f.text.size : Int))) && dkB l
def fdOk (l : List Int) : Bool :=
  (((snF (fdS l) && keptB (fdL l))
  && decide ((nsO (fdL l)).map (fun x => (x.idx, x.term, x.conf, x.body)) = some (0, 0, l, bodyB)))
  && decide ((ojO (fdL l)).map (fun p => ((p.1.number, p.1.term, p.1.vote), (p.1.log.start, p.1.log.sterm), p.1.log.es.length, p.2.length)) = some ((0, 0, 0), (0, 0), 0, 0)))
  && (decide ((shO (fdL l)).length = 0) && (fdL l).all fun f => decide (f.name.size ≤ 100) && decide (f.text.size ≤ 100000))
theorem fd_ok : ∀ l ∈ confs, fdOk l = true := by decide +kernel
theorem fd_facts {l : List Int} (h : confB l = true) : snF (fdS l) = true ∧ keptB (fdL l) = true ∧ dkB (fdL l) = true ∧ nsO (fdL l) = some (fdS l) ∧ ojO (fdL l) = some (jnZ, []) ∧ shO (fdL l) = [] ∧ filSm (fdL l) := by
  have hf := fd_ok l (conf_mem h)
  simp only [fdOk, Bool.and_eq_true, decide_eq_true_eq, List.all_eq_true] at hf
  obtain ⟨⟨⟨⟨h1, h2⟩, h3⟩, h4⟩, h5, h6⟩ := hf
  refine ⟨h1, h2, ?_, ?_, ?_, List.eq_nil_of_length_eq_zero h5, ?_⟩
  · simp only [keptB, Bool.and_eq_true] at h2; exact h2.2
  · obtain ⟨x, e1, e2⟩ := Option.map_eq_some_iff.1 h3
    rw [e1]
    obtain ⟨a, b, c, d⟩ := x
    simp only [Prod.mk.injEq] at e2
    obtain ⟨rfl, rfl, rfl, rfl⟩ := e2
    rfl
  · obtain ⟨x, e1, e2⟩ := Option.map_eq_some_iff.1 h4
    rw [e1]
    obtain ⟨⟨a, b, c, d, e, f⟩, g⟩ := x
    simp only [Prod.mk.injEq] at e2
    obtain ⟨⟨rfl, rfl, rfl⟩, ⟨rfl, rfl⟩, hf, hg⟩ := e2
    rw [List.eq_nil_of_length_eq_zero hf, List.eq_nil_of_length_eq_zero hg]; rfl
  · refine ⟨by simp [fdL], fun a ha => ?_⟩
    have := h6 a ha
    exact ⟨by omega, by omega⟩
end Go.Proofs.YthbfmegbnnmepaaGreatDoor

/- A formatted disk read again: the board, the files. -/
namespace Go.Proofs.YthbfmegbnnmepaaGreatDoor
open Go.RowKit Go.Rx
set_option linter.unusedSimpArgs false
set_option maxRecDepth 100000

theorem body_num : ∀ a < 4, numN bodyB a false = 0 ∧ numA bodyB a false = a + 1 ∧ numB bodyB a false = false := by decide +kernel
theorem body_last : numN bodyB 4 false = 1 ∧ numA bodyB 4 false = 5 ∧ numB bodyB 4 false = false := by decide +kernel
theorem count_zero (s : ByteArray) (hs : s.size ≤ 140737488355328) (a a' : Nat) (m : Int) (hm : 0 ≤ m) (e1 : numN s a false = 0) (e2 : numA s a false = a') (e3 : numB s a false = false) :
    IoFn Tryz.prog 66 .box 3 [sc s a false] [i64 m] [sc s a' false] [i64 0] := by
  refine IoFn_of_Go Tryz.func66 rfl (by decide) mo (by decide +kernel) (ioOk_box rfl) (ioOk_box rfl) rfl rfl ?_
  have k := number_ok s hs a false
  rw [e1, e2, e3] at k
  have c : ¬ m < 0 := by omega
  simp only [Tryz.ntmps66, Tryz.results66, push_cast, seval, sc]
  refine GoL_io (0, 1) .box 3 [sc s a false] rfl rfl rfl rfl (.inl rfl) rfl k rfl rfl ?_
  simp only [Tryz.ntmps66, Tryz.results66, push_cast, seval, sc, c, Int.ofNat_zero]
theorem readBoard_ok : PureFn Tryz.prog 24 [st bodyB] [.agg bNew, bo true] := by
  refine PureFn_of_GoW Tryz.func24 rfl (by decide) mo (by decide +kernel) ?_
  have hz : bodyB.size ≤ 140737488355328 := by decide
  have n0 := body_num 0 (by decide)
  have n1 := body_num 1 (by decide)
  have n2 := body_num 2 (by decide)
  have n3 := body_num 3 (by decide)
  have k1 := count_zero bodyB hz 0 1 3 (by decide) n0.1 n0.2.1 n0.2.2
  have k2 := count_zero bodyB hz 1 2 2 (by decide) n1.1 n1.2.1 n1.2.2
  have k3 := count_zero bodyB hz 2 3 8 (by decide) n2.1 n2.2.1 n2.2.2
  have k4 := number_ok bodyB hz 3 false
  rw [n3.1, n3.2.1, n3.2.2] at k4
  have k5 := number_ok bodyB hz 4 false
  rw [body_last.1, body_last.2.1, body_last.2.2] at k5
  have k6 := done_ok bodyB 5 false
  have k7 := boardTextI_nil
  simp only [bNew] at k7 ⊢
  simp only [Tryz.ntmps24, Tryz.results24, push_cast, seval]
  refine GoL_io (0, 256) .box 3 [sc bodyB 0 false] rfl rfl rfl rfl (.inl rfl) rfl k1 rfl rfl ?_
  simp only [push_cast, seval, sc]
  refine Go_loop (α := Unit) (fun _ => _) (fun _ => 0) () (Weak.refl _) ?_
  rintro _ X1 hX1
  simp only [push_cast, seval]
  refine GoL_io (0, 256) .box 3 [sc bodyB 1 false] rfl rfl rfl rfl (.inl rfl) rfl k2 rfl rfl ?_
  simp only [push_cast, seval, sc]
  refine Go_loop (α := Unit) (fun _ => _) (fun _ => 0) () (Weak.refl _) ?_
  rintro _ X2 hX2
  simp only [push_cast, seval]
  refine GoL_io (0, 256) .box 3 [sc bodyB 2 false] rfl rfl rfl rfl (.inl rfl) rfl k3 rfl rfl ?_
  simp only [push_cast, seval, sc]
  refine Go_loop (α := Unit) (fun _ => _) (fun _ => 0) () (Weak.refl _) ?_
  rintro _ X3 hX3
  simp only [push_cast, seval]
  refine GoL_io (0, 256) .box 3 [sc bodyB 3 false] rfl rfl rfl rfl (.inl rfl) rfl k4 rfl rfl ?_
  simp only [push_cast, seval, sc, Int.ofNat_zero]
  refine GoL_io (0, 256) .box 3 [sc bodyB 4 false] rfl rfl rfl rfl (.inl rfl) rfl k5 rfl rfl ?_
  simp only [push_cast, seval, sc]
  refine GoL_io (0, 256) .box 3 [sc bodyB 5 false] rfl rfl rfl rfl (.inl rfl) rfl k6 rfl rfl ?_
  have e5 : decide ((5 : Int) = (bodyB.size : Int)) = true := rfl
  simp only [push_cast, seval, sc, e5, Bool.not_false, Bool.not_true]
  refine GoL_call rfl (by simp only [push_cast, seval]) k7 rfl rfl ?_
  simp only [Tryz.ntmps24, Tryz.results24, push_cast, seval]
  refine ⟨_, Weak.refl _, ?_⟩
  simp only [Tryz.ntmps24, Tryz.results24, push_cast, seval]

theorem allKept_ok (l : List Fil) (h : filSm l) (hk : keptB l = true) : PureFn Tryz.prog 25 [.agg [.sh 3 (vR (fils l))]] [bo true] := by
  refine PureFn_of_Go Tryz.func25 rfl (by decide) mo (by decide +kernel) ?_
  have kd := diskOkI_ok l h
  simp only [keptB, Bool.and_eq_true, List.all_eq_true, decide_eq_true_eq] at hk
  obtain ⟨hk, hd⟩ := hk
  rw [hd] at kd
  obtain ⟨hl, hs⟩ := h
  simp only [Tryz.ntmps25, Tryz.results25, push_cast, seval, fils_length]
  refine Go_loop (α := {i : Nat // i ≤ l.length})
    (fun i => ⟨tp 21 [(1, .x (.one (.pt (0, 64) [] 1 0 0))), (2, .x (bo false)), (6, .x (.one (.sh 3 (vR (fils l))))), (7, int l.length), (8, int i.1)], 0, [((0, 64), ⟨.box, 1, [[.sh 3 (vR (fils l))]]⟩)], []⟩) (fun i => l.length - i.1) ⟨0, Nat.zero_le _⟩ ?_ ?_
  · exact Weak.same (by simp only [push_cast, seval, Int.ofNat_zero])
  · rintro ⟨i, hi⟩ X hX
    by_cases hlt : (i : Int) < (l.length : Int)
    · have hi' : i < l.length := by omega
      have hg := fils_getD l hi'
      have hmem := getD_mem' l i hi'
      have ws := wsucc hi' (by omega)
      obtain ⟨i', hi1⟩ : ∃ i', i' = i + 1 := ⟨_, rfl⟩
      rw [← hi1] at ws
      obtain ⟨f, hf⟩ : ∃ f, f = l.getD i default := ⟨_, rfl⟩
      rw [← hf] at hg hmem
      have hkf := hk f hmem
      simp only [push_cast, seval, hlt, fils_length, hi', hg, filV, vR_getD, hkf, ws]
      refine ⟨_, ?_, hX ⟨i', by omega⟩ (by simp only; omega)⟩
      exact Weak.drop (by simp only [push_cast, seval]) (by simp only [push_cast, seval]) (by simp only [push_cast, seval])
    · simp only [push_cast, seval, hlt, fils_length]
      refine GoL_call rfl (by simp only [push_cast, seval, fils_length, fils_take]) kd rfl rfl ?_
      simp only [Tryz.ntmps25, Tryz.results25, push_cast, seval]

/-! ### copies -/
theorem fils_flat (l : List Fil) : (vR (fils l)).all flatRow = true := by
  rw [List.all_eq_true]
  intro r hr
  simp only [vR, fils, List.map_map, List.mem_map, Function.comp_apply] at hr
  obtain ⟨e, _, rfl⟩ := hr
  rfl
theorem cloneFile_ok (l : List Fil) (h : l.length ≤ 1048576) (h0 : l ≠ []) : PureFn Tryz.prog 166 [.one (.sh 3 (vR (fils l)))] [.one (.own 3 (vR (fils l)))] := by
  refine PureFn_of_GoW Tryz.func166 rfl (by decide) mo (by decide +kernel) ?_
  have ht : isSlT Tryz.prog 26 = true := by kernel_rfl
  have hne : vR (fils l) ≠ [] := by
    cases l with
    | nil => exact absurd rfl h0
    | cons a r => exact List.cons_ne_nil _ _
  have a0 : 0 + l.length ≤ 4294967296 := by omega
  have a1 := max_len a0
  have a2 := room_le (b := 40) a0 (by decide)
  rw [Nat.zero_add] at a1 a2
  simp only [Tryz.ntmps166, Tryz.results166, push_cast, seval, bin_shNil hne ht, fils_length, a1, a2, List.nil_append, fils_flat]
  refine ⟨_, Weak.refl _, ?_⟩
  simp only [Tryz.ntmps166, Tryz.results166, push_cast, seval, fils_length]
theorem copyDisk_ok (l : List Fil) (h : l.length ≤ 1048576) (h0 : l ≠ []) : PureFn Tryz.prog 128 [.agg [.sh 3 (vR (fils l))]] [.agg [.own 3 (vR (fils l))]] := by
  refine PureFn_of_Go Tryz.func128 rfl (by decide) mo (by decide +kernel) ?_
  have k := cloneFile_ok l h h0
  simp only [Tryz.ntmps128, Tryz.results128, push_cast, seval, fils_length]
  refine GoL_call rfl (by simp only [push_cast, seval, fils_length, fils_take]) k (by simp only [push_cast, seval]) rfl ?_
  simp only [Tryz.ntmps128, Tryz.results128, push_cast, seval, fils_length, fils_take]
theorem doActs_nil (l : List Fil) (h : filSm l) (h2 : l.length ≤ 1048576) (h0 : l ≠ []) (hd : dkB l = true) : PureFn Tryz.prog 76 [.agg [.sh 3 (vR (fils l))], .one (.sh 4 [])] [.agg [.own 3 (vR (fils l))], i64 0] := by
  refine PureFn_of_Go Tryz.func76 rfl (by decide) mo (by decide +kernel) ?_
  have k1 := copyDisk_ok l h2 h0
  have k2 := diskOkI_ok l h
  rw [hd] at k2
  simp only [Tryz.ntmps76, Tryz.results76, push_cast, seval, fils_length]
  refine GoL_call rfl (by simp only [push_cast, seval, fils_length, fils_take]) k1 (by simp only [push_cast, seval]) rfl ?_
  simp only [push_cast, seval, fils_length]
  refine GoL_call rfl (by simp only [push_cast, seval, fils_length, fils_take]) k2 rfl rfl ?_
  simp only [push_cast, seval, fils_length]
  refine Go_loop (α := Unit) (fun _ => _) (fun _ => 0) () (Weak.refl _) ?_
  rintro _ X1 hX1
  simp only [Tryz.ntmps76, Tryz.results76, push_cast, seval, fils_length, fils_take]
theorem doAll_nil (l : List Fil) (h : filSm l) (h2 : l.length ≤ 1048576) (h0 : l ≠ []) (hd : dkB l = true) : PureFn Tryz.prog 28 [.agg [.sh 3 (vR (fils l))], .one (.sh 4 [])] [.agg [.own 3 (vR (fils l))], bo true] := by
  refine PureFn_of_Go Tryz.func28 rfl (by decide) mo (by decide +kernel) ?_
  have k1 := doActs_nil l h h2 h0 hd
  simp only [Tryz.ntmps28, Tryz.results28, push_cast, seval, fils_length]
  refine GoL_call rfl (by simp only [push_cast, seval, fils_length, fils_take]) k1 (by simp only [push_cast, seval]) rfl ?_
  simp only [Tryz.ntmps28, Tryz.results28, push_cast, seval, fils_length, fils_take, Int.ofNat_zero]
end Go.Proofs.YthbfmegbnnmepaaGreatDoor

/- A formatted disk read again: logs, nodes. -/
namespace Go.Proofs.YthbfmegbnnmepaaGreatDoor
open Go.RowKit Go.Rx
set_option linter.unusedSimpArgs false
set_option maxRecDepth 100000

theorem nil_one {P : Program} {f : FuncId} {k : Nat} {ret : List X} (h : PureFn P f [.one (.sh k [])] ret) : PureFn P f [.one nilS] ret :=
  PureFn_sub h rfl fun i hi w y hy => by
    obtain rfl : i = 0 := by simp at hi; omega
    have h4 : y = .slice none 0 0 := hy
    show Sh w _ (.sh k []) y
    rw [h4]
    exact .nil k
def lg0 (f : C) : List C := [.v (.int .i64 0), .v (.int .i64 0), f]
def jn0 (f : C) : List C := [.v (.int .i64 0), .v (.int .i64 0), .v (.int .i64 0), .v (.int .i64 0), .v (.int .i64 0), f]
def nodC (c1 c2 : C) (lim : Int) : List C := [.v (.int .i64 1), .v (.int .i64 0), .v (.int .i64 0), .v (.int .i64 0), .v (.int .i64 0), c1, .v (.int .i64 0), .v (.int .i64 0), c2, .v (.int .i64 0), .v (.int .i64 0), .v (.int .i64 lim), nilS, nilS]
theorem fine_nil : fineE [] := ⟨Nat.zero_le _, fun e he => by cases he⟩
theorem logOk0 : PureFn Tryz.prog 77 [.agg (lg0 (.sh 3 []))] [bo true] := logOkI_ok ⟨0, 0, []⟩ fine_nil
theorem last0 : PureFn Tryz.prog 78 [.one (.ps (lg0 (.sh 3 [])))] [i64 0] := lastI_ok ⟨0, 0, []⟩ (Nat.zero_le _) (by decide) (by decide)
theorem copyLog0 : PureFn Tryz.prog 32 [.agg (lg0 (.sh 3 []))] [.agg (lg0 (.own 3 []))] := copyLog_ok ⟨0, 0, []⟩ fine_nil
theorem cloneE0 : PureFn Tryz.prog 80 [.one (.sh 3 [])] [.one (.own 3 [])] := clone_ok [] fine_nil
theorem equalE0 : PureFn Tryz.prog 81 [.one (.sh 3 []), .one (.sh 3 [])] [bo true] := by
  refine PureFn_of_Go Tryz.func81 rfl (by decide) mo (by decide +kernel) ?_
  simp only [Tryz.ntmps81, Tryz.results81, push_cast, seval]
  refine Go_loop (α := Unit) (fun _ => _) (fun _ => 0) () (Weak.refl _) ?_
  rintro _ X1 hX1
  simp only [Tryz.ntmps81, Tryz.results81, push_cast, seval]
theorem sameLog0 : PureFn Tryz.prog 30 [.agg (lg0 (.sh 3 [])), .agg (lg0 (.sh 3 []))] [bo true] := by
  refine PureFn_of_Go Tryz.func30 rfl (by decide) mo (by decide +kernel) ?_
  have k := equalE0
  simp only [Tryz.ntmps30, Tryz.results30, push_cast, seval, lg0]
  refine GoL_call rfl (by simp only [push_cast, seval]) k rfl rfl ?_
  simp only [Tryz.ntmps30, Tryz.results30, push_cast, seval]
theorem sameJournal0 : PureFn Tryz.prog 34 [.agg (jn0 (.sh 3 [])), .agg (jn0 (.sh 3 []))] [bo true] := by
  refine PureFn_of_Go Tryz.func34 rfl (by decide) mo (by decide +kernel) ?_
  have k := sameLog0
  simp only [lg0] at k
  simp only [Tryz.ntmps34, Tryz.results34, push_cast, seval, jn0]
  refine GoL_call rfl (by simp only [push_cast, seval]) k rfl rfl ?_
  simp only [Tryz.ntmps34, Tryz.results34, push_cast, seval]
theorem logTerm0 : PureFn Tryz.prog 79 [.agg (lg0 (.sh 3 [])), i64 0] [i64 0] := by
  refine PureFn_of_Go Tryz.func79 rfl (by decide) mo (by decide +kernel) ?_
  simp only [Tryz.ntmps79, Tryz.results79, push_cast, seval, lg0]
theorem logLast0 : PureFn Tryz.prog 85 [.agg (lg0 (.sh 3 []))] [i64 0, i64 0] := by
  refine PureFn_of_Go Tryz.func85 rfl (by decide) mo (by decide +kernel) ?_
  simp only [Tryz.ntmps85, Tryz.results85, push_cast, seval, lg0]
theorem logBehind0 : PureFn Tryz.prog 29 [.agg (lg0 (.sh 3 [])), i64 0, i64 0] [.agg (lg0 (.own 3 []))] := by
  refine PureFn_of_Go Tryz.func29 rfl (by decide) mo (by decide +kernel) ?_
  have k1 := logOk0
  have k2 := last0
  have k3 := inRange_ok 0 0 0
  have k4 := logTerm0
  have k5 := cloneE0
  simp only [lg0] at k1 k2 k4 ⊢
  simp only [Tryz.ntmps29, Tryz.results29, push_cast, seval]
  refine GoD_call rfl (by simp only [push_cast, seval]) k1 rfl rfl ?_
  simp only [push_cast, seval]
  refine GoD_call rfl rfl k2 rfl rfl ?_
  simp only [push_cast, seval]
  refine GoD_call rfl (by simp only [push_cast, seval]) k3 rfl rfl ?_
  simp only [push_cast, seval]
  refine GoD_call rfl (by simp only [push_cast, seval]) k4 rfl rfl ?_
  simp only [push_cast, seval]
  refine GoL_call rfl (by simp only [push_cast, seval]) k5 (by simp only [push_cast, seval]) rfl ?_
  simp only [Tryz.ntmps29, Tryz.results29, push_cast, seval]
theorem peersOk0 (l : List Int) (lim : Int) : PureFn Tryz.prog 87 [.agg (nodC (.sh 1 (vR (ints l))) (.sh 3 []) lim)] [bo true] := by
  refine PureFn_of_Go Tryz.func87 rfl (by decide) mo (by decide +kernel) ?_
  simp only [Tryz.ntmps87, Tryz.results87, push_cast, seval, nodC]
theorem nodeOk0 (l : List Int) (hc : confB l = true) (lim : Int) (h1 : 1 ≤ lim) (h2 : lim ≤ 20) : PureFn Tryz.prog 33 [.agg (nodC (.sh 1 (vR (ints l))) (.sh 3 []) lim)] [bo true] := by
  refine PureFn_of_Go Tryz.func33 rfl (by decide) mo (by decide +kernel) ?_
  have hl := confB_len hc
  have k1 := isNode_ok 1
  have k2 := confOkI_ok l (by omega)
  have k3 := logOk0
  have k4 := isTerm_ok 0
  have k5 := logLast0
  have k6 := inRange_ok 0 0 4
  have k7 := inRange_ok 0 0 2
  have k8 := inRange_ok 0 0 0
  have k9 := inRange_ok 0 0 20
  have k10 := inRange_ok lim 1 20
  have k11 := nil_one (areNodes_ok [] (Nat.zero_le _))
  have k12 := peersOk0 l lim
  rw [hc] at k2
  rw [decide_eq_true h1, decide_eq_true h2] at k10
  rw [show inR 1 1 4 = true from rfl] at k1
  rw [show inR 0 0 100000 = true from rfl] at k4
  rw [show decide (rise [] 1 4) = true from rfl] at k11
  simp only [lg0] at k3 k5
  simp only [nodC] at k12 ⊢
  simp only [Tryz.ntmps33, Tryz.results33, push_cast, seval]
  refine GoL_call rfl (by simp only [push_cast, seval]) k1 rfl rfl ?_
  simp only [push_cast, seval, ints_length]
  refine GoL_call rfl (by simp only [push_cast, seval, ints_length]) k2 rfl rfl ?_
  simp only [push_cast, seval, ints_length]
  refine GoL_call rfl (by simp only [push_cast, seval]) k3 rfl rfl ?_
  simp only [push_cast, seval, ints_length]
  refine GoL_call rfl (by simp only [push_cast, seval]) k4 rfl rfl ?_
  simp only [push_cast, seval, ints_length]
  refine GoL_call rfl (by simp only [push_cast, seval]) k5 rfl rfl ?_
  simp only [push_cast, seval, ints_length]
  refine GoL_call rfl (by simp only [push_cast, seval]) k6 rfl rfl ?_
  simp only [push_cast, seval, ints_length]
  refine GoL_call rfl (by simp only [push_cast, seval]) k6 rfl rfl ?_
  simp only [push_cast, seval, ints_length]
  refine GoL_call rfl (by simp only [push_cast, seval]) k7 rfl rfl ?_
  simp only [push_cast, seval, ints_length]
  refine GoL_call rfl (by simp only [push_cast, seval]) k8 rfl rfl ?_
  simp only [push_cast, seval, ints_length]
  refine GoL_call rfl (by simp only [push_cast, seval]) k9 rfl rfl ?_
  simp only [push_cast, seval, ints_length]
  refine GoL_call rfl (by simp only [push_cast, seval]) k10 rfl rfl ?_
  simp only [push_cast, seval, ints_length]
  refine GoL_call rfl (by simp only [push_cast, seval]) k11 rfl rfl ?_
  simp only [push_cast, seval, ints_length]
  refine GoL_call rfl (by simp only [push_cast, seval, ints_length]) k12 rfl rfl ?_
  simp only [Tryz.ntmps33, Tryz.results33, push_cast, seval, ints_length]
theorem equalInt_ok (l : List Int) (hl : l.length ≤ 1048576) : PureFn Tryz.prog 35 [.one (.sh 1 (vR (ints l))), .one (.sh 1 (vR (ints l)))] [bo true] := by
  refine PureFn_of_Go Tryz.func35 rfl (by decide) mo (by decide +kernel) ?_
  simp only [Tryz.ntmps35, Tryz.results35, push_cast, seval, ints_length]
  refine Go_loop (α := {i : Nat // i ≤ l.length})
    (fun i => ⟨tp 26 [(0, .x (.one (.sh 1 (vR (ints l))))), (1, .x (.one (.sh 1 (vR (ints l))))), (4, .x (bo false)), (12, int l.length), (13, int i.1)], 0, [], []⟩) (fun i => l.length - i.1) ⟨0, Nat.zero_le _⟩ ?_ ?_
  · exact Weak.same (by simp only [push_cast, seval, Int.ofNat_zero])
  · rintro ⟨i, hi⟩ X hX
    by_cases hlt : (i : Int) < (l.length : Int)
    · have hi' : i < l.length := by omega
      have hg := ints_getD l hi'
      have ws := wsucc hi' (by omega)
      obtain ⟨i', hi1⟩ : ∃ i', i' = i + 1 := ⟨_, rfl⟩
      rw [← hi1] at ws
      simp only [push_cast, seval, ints_length, hlt, hi', vR_getD, hg, ws]
      refine ⟨_, ?_, hX ⟨i', by omega⟩ (by simp only; omega)⟩
      exact Weak.same (by simp only [push_cast, seval])
    · simp only [Tryz.ntmps35, Tryz.results35, push_cast, seval, ints_length, hlt]
theorem sameInts_ok (l : List Int) (hl : l.length ≤ 1048576) : PureFn Tryz.prog 9 [.one (.sh 1 (vR (ints l))), .one (.sh 1 (vR (ints l)))] [bo true] := by
  refine PureFn_of_Go Tryz.func9 rfl (by decide) mo (by decide +kernel) ?_
  simp only [Tryz.ntmps9, Tryz.results9, push_cast, seval, ints_length]
  refine Go_loop (α := {i : Nat // i ≤ l.length})
    (fun i => ⟨tp 26 [(0, .x (.one (.sh 1 (vR (ints l))))), (1, .x (.one (.sh 1 (vR (ints l))))), (4, .x (bo false)), (5, int i.1)], 0, [], []⟩) (fun i => l.length - i.1) ⟨0, Nat.zero_le _⟩ ?_ ?_
  · exact Weak.same (by simp only [push_cast, seval, Int.ofNat_zero])
  · rintro ⟨i, hi⟩ X hX
    by_cases hlt : (i : Int) < (l.length : Int)
    · have hi' : i < l.length := by omega
      have hg := ints_getD l hi'
      have ws := wsucc hi' (by omega)
      obtain ⟨i', hi1⟩ : ∃ i', i' = i + 1 := ⟨_, rfl⟩
      rw [← hi1] at ws
      simp only [push_cast, seval, ints_length, hlt, hi', vR_getD, hg, ws]
      refine ⟨_, ?_, hX ⟨i', by omega⟩ (by simp only; omega)⟩
      exact Weak.same (by simp only [push_cast, seval])
    · simp only [Tryz.ntmps9, Tryz.results9, push_cast, seval, ints_length, hlt]
theorem lawLast0 (c2 : C) (hc : c2 = .sh 3 []) : PureFn Tryz.prog 10 [.agg (lg0 c2)] [i64 0] := by
  subst hc
  refine PureFn_of_Go Tryz.func10 rfl (by decide) mo (by decide +kernel) ?_
  have w0 : IntKind.i64.wrap 0 = 0 := rfl
  simp only [Tryz.ntmps10, Tryz.results10, push_cast, seval, lg0, w0]
end Go.Proofs.YthbfmegbnnmepaaGreatDoor

/- A formatted disk comes up. -/
namespace Go.Proofs.YthbfmegbnnmepaaGreatDoor
open Go.RowKit Go.Rx
set_option linter.unusedSimpArgs false
set_option maxRecDepth 100000

def srvC (c1 c2 c3 c4 : C) (lim : Int) : List C := [.v (.int .i64 1), .v (.int .i64 0), .v (.int .i64 0), .v (.int .i64 0), .v (.int .i64 0), c1, .v (.int .i64 0), .v (.int .i64 0), c2, .v (.int .i64 0), .v (.int .i64 0), .v (.int .i64 lim), nilS, nilS,
  c3, .v (.int .i64 0), .v (.int .i64 0), .v (.int .i64 0), .v (.int .i64 0), .v (.int .i64 0), c4, nilS, nilS, nilS, .v (.int .i64 0), .v (.int .i64 1), .v (.int .i64 0), .v (.string ⟨#[]⟩), .v (.int .i64 0), .v (.int .i64 0)]
set_option maxHeartbeats 2000000 in
theorem boot_ok (l : List Int) (hc : confB l = true) (lim : Int) (h1 : 1 ≤ lim) (h2 : lim ≤ 20) :
    PureFn Tryz.prog 8 [i64 1, .agg [.sh 3 (vR (fils (fdL l)))], i64 lim] [.agg (srvC (.own 1 (vR (ints l))) (.own 3 []) (.own 3 (vR (fils (fdL l)))) (.own 3 []) lim), .one (.own 4 []), i64 0] := by
  refine PureFn_of_GoWX [19] Tryz.func8 rfl (by decide) mo (by decide +kernel) ?_
  have hcl := confB_len hc
  obtain ⟨f1, f2, f3, f4, f5, f6, f7⟩ := fd_facts hc
  have hne : fdL l ≠ [] := List.cons_ne_nil _ _
  have hl2 : (fdL l).length ≤ 1048576 := (by decide : 2 ≤ 1048576)
  have k1 := newestI_ok (fdL l) f7
  rw [f4] at k1
  replace k1 : PureFn Tryz.prog 23 [.agg [.sh 3 (vR (fils (fdL l)))]] [.agg [.v (.int .i64 0), .v (.int .i64 0), .own 1 (vR (ints l)), .v (.string bodyB)], bo true] := k1
  have k2 := readBoard_ok
  have k3 := allKept_ok (fdL l) f7 f2
  have k4 := openJournalI_ok (fdL l) f7
  rw [f5] at k4
  replace k4 : PureFn Tryz.prog 26 [.agg [.sh 3 (vR (fils (fdL l)))]] [.agg (jn0 (.own 3 [])), .one (.own 4 []), bo true] := k4
  have k5 := shedI_ok (fdL l) f7
  rw [f6] at k5
  replace k5 : PureFn Tryz.prog 27 [.agg [.sh 3 (vR (fils (fdL l)))]] [.one (.own 4 [])] := k5
  have k6 := doAll_nil (fdL l) f7 hl2 hne f3
  have k7 := logBehind0
  have k8 := sameLog0
  have k9 := copyLog0
  have k10 := nodeOk0 l hc lim h1 h2
  have hfl : (fdL l).length = 2 := rfl
  generalize fdL l = fl at *
  have hit := ints_take l
  have hft := fils_take fl
  have hfn := fils_length fl
  rw [hfl] at hft hfn
  simp only [bNew] at k2
  simp only [jn0] at k4
  simp only [lg0] at k7 k8 k9
  simp only [nodC] at k10
  simp only [Tryz.ntmps8, Tryz.results8, push_cast, seval, slimX, List.contains_cons, List.contains_nil, Nat.reduceBEq, Bool.or_false, Bool.and_true, Bool.and_false, Bool.true_and, Bool.false_and, if_true, if_false, Bool.false_eq_true]
  refine GoL_call rfl (by simp only [push_cast, seval, hfn, hft]) k1 (by simp only [push_cast, seval]) rfl ?_
  simp only [push_cast, seval, ints_length, hfn, hft]
  refine GoL_call rfl rfl k2 rfl rfl ?_
  simp only [push_cast, seval, ints_length, hfn, hft]
  refine GoL_call rfl (by simp only [push_cast, seval, hfn, hft]) k3 rfl rfl ?_
  simp only [push_cast, seval, ints_length, hfn, hft]
  refine GoL_call rfl (by simp only [push_cast, seval, hfn, hft]) k4 (by simp only [push_cast, seval]) rfl ?_
  simp only [push_cast, seval, ints_length, hfn, hft]
  refine GoL_call rfl (by simp only [push_cast, seval, hfn, hft]) k5 (by simp only [push_cast, seval]) rfl ?_
  simp only [push_cast, seval, ints_length, hfn, hft]
  refine GoL_call rfl (by simp only [push_cast, seval, hfn, hft]) k6 (by simp only [push_cast, seval]) rfl ?_
  simp only [push_cast, seval, ints_length, hfn, hft]
  refine GoL_call rfl (by simp only [push_cast, seval]) k7 (by simp only [push_cast, seval]) rfl ?_
  simp only [push_cast, seval, ints_length, hfn, hft]
  refine GoL_call rfl (by simp only [push_cast, seval]) k8 rfl rfl ?_
  simp only [push_cast, seval, ints_length, hfn, hft]
  refine GoD_call rfl (by simp only [push_cast, seval]) k9 (by simp only [push_cast, seval]) rfl ?_
  simp only [push_cast, seval, ints_length, hfn, hft]
  refine GoL_call rfl (by simp only [push_cast, seval, ints_length, hit]) k10 rfl rfl ?_
  simp only [Tryz.ntmps8, Tryz.results8, push_cast, seval, ints_length, hit, hfn, hft]
  refine ⟨_, Weak.refl _, ?_⟩
  simp only [Tryz.ntmps8, Tryz.results8, push_cast, seval, ints_length, hit, hfn, hft, srvC]
end Go.Proofs.YthbfmegbnnmepaaGreatDoor

/- The server that a formatted disk comes up as is a right one. -/
namespace Go.Proofs.YthbfmegbnnmepaaGreatDoor
open Go.RowKit Go.Rx
set_option linter.unusedSimpArgs false
set_option maxRecDepth 100000

/-! ### a slice of no length, as a value -/
def Zero (y : Value) : Prop := y = .slice none 0 0 ∨ ∃ a cap, cap ≤ maxLen ∧ y = .slice (some a) 0 cap
theorem Zero.form {y : Value} (h : Zero y) : ∃ p cap, y = .slice p 0 cap := by
  rcases h with rfl | ⟨a, cap, _, rfl⟩
  · exact ⟨_, _, rfl⟩
  · exact ⟨_, _, rfl⟩
theorem zero_sh {y : Value} (hy : Zero y) {w : World} {S : Nat → Prop} (k : Nat) {v : Value} (hv : v = y) : Sh w S (.sh k []) v := by
  subst hv
  rcases hy with rfl | ⟨a, cap, hc, rfl⟩
  · exact .nil k
  · exact .slice k [] a 0 cap (fun _ _ => undef) rfl (Nat.zero_le _) hc (fun h => absurd h (Nat.lt_irrefl 0)) (fun i hi => absurd hi (Nat.not_lt_zero i)) (fun i j hi => absurd hi (Nat.not_lt_zero i)) (fun i j hi => absurd hi (Nat.not_lt_zero i))
theorem sh_zero {w : World} {S : Nat → Prop} {k : Nat} {v : Value} (h : Sh w S (.sh k []) v) : Zero v := by
  cases h with
  | nil => exact .inl rfl
  | slice _ _ a len cap vals hl hc hm =>
    obtain rfl : len = 0 := hl.symm
    exact .inr ⟨a, cap, hm, rfl⟩
theorem XR_set {w : World} {g : Gh} {cs : List C} {i : Nat} {c : C} {v : Value} (hc : ∀ z, CR w [] g none c z → CR w [] g none (cs.getD i .bad) z) (h : XR w [] g (.agg (cs.set i c)) v) : XR w [] g (.agg cs) v := by
  obtain ⟨ys, e1, e2, e3⟩ := h
  rw [List.length_set] at e2 e3
  refine ⟨ys, e1, e2, fun j hj => ?_⟩
  have h3 := e3 j hj
  by_cases hij : i = j
  · subst hij
    refine hc _ ?_
    rwa [show (cs.set i c).getD i .bad = c by simp [List.getD_eq_getElem?_getD, List.getElem?_set, hj]] at h3
  · rwa [show (cs.set i c).getD j .bad = cs.getD j .bad by simp [List.getD_eq_getElem?_getD, List.getElem?_set, hij]] at h3
theorem zero_one {P : Program} {f : FuncId} {k : Nat} {ret : List X} {y : Value} (hy : Zero y) {x : X} {z : X} (h : PureFn P f [x, .one (.sh k []), z] ret) : PureFn P f [x, .one (.v y), z] ret :=
  PureFn_sub h rfl fun i hi w v hv => by
    match i, hi with
    | 0, _ => exact hv
    | 1, _ => exact zero_sh hy k hv
    | 2, _ => exact hv
theorem zero_agg1 {P : Program} {f : FuncId} {k i : Nat} {ret : List X} {y : Value} (hy : Zero y) {cs : List C} (hi : cs.getD i .bad = .sh k []) (h : PureFn P f [.agg cs] ret) : PureFn P f [.agg (cs.set i (.v y))] ret :=
  PureFn_sub h rfl fun j hj w v hv => by
    match j, hj with
    | 0, _ => exact XR_set (fun z hz => by rw [hi]; exact zero_sh hy k hz) hv
theorem zero_agg2 {P : Program} {f : FuncId} {k i : Nat} {ret : List X} {y : Value} (hy : Zero y) {cs : List C} {x : X} (hi : cs.getD i .bad = .sh k []) (h : PureFn P f [.agg cs, x] ret) : PureFn P f [.agg (cs.set i (.v y)), x] ret :=
  PureFn_sub h rfl fun j hj w v hv => by
    match j, hj with
    | 0, _ => exact XR_set (fun z hz => by rw [hi]; exact zero_sh hy k hz) hv
    | 1, _ => exact hv
theorem zero_case {P : Program} {f : FuncId} {k i : Nat} {ret : List X} {cs : List C} (hl : i < cs.length) (hi : cs.getD i .bad = .sh k []) (h : ∀ y, Zero y → PureFn P f [.agg (cs.set i (.v y))] ret) : PureFn P f [.agg cs] ret := by
  refine ⟨(h _ (.inl rfl)).1, fun w ys _ hly hx => ?_⟩
  have h0 := hx 0 Nat.zero_lt_one
  obtain ⟨vs, e1, e2, e3⟩ := h0
  have hz : Zero (vs.getD i undef) := by
    have := e3 i hl
    rw [hi] at this
    exact sh_zero this
  refine (h _ hz).2 w ys hly fun j hj => ?_
  obtain rfl : j = 0 := by simp at hj; omega
  refine ⟨vs, e1, by rw [List.length_set]; exact e2, fun j hj => ?_⟩
  rw [List.length_set] at hj
  by_cases hij : i = j
  · subst hij
    rw [show (cs.set i (.v (vs.getD i undef))).getD i .bad = .v (vs.getD i undef) by simp [List.getD_eq_getElem?_getD, List.getElem?_set, hj]]
    exact rfl
  · rw [show (cs.set i (.v (vs.getD i undef))).getD j .bad = cs.getD j .bad by simp [List.getD_eq_getElem?_getD, List.getElem?_set, hij]]
    exact e3 j hj

theorem entriesFrom0 {y : Value} (hy : Zero y) : PureFn Tryz.prog 40 [.agg (lg0 (.v y)), i64 0, i64 0] [.one (.v y)] := by
  refine PureFn_of_Go Tryz.func40 rfl (by decide) mo (by decide +kernel) ?_
  have w0 : IntKind.i64.wrap 0 = 0 := rfl
  rcases hy with rfl | ⟨a, cap, _, rfl⟩
  · simp only [Tryz.ntmps40, Tryz.results40, push_cast, seval, lg0, w0]
  · simp only [Tryz.ntmps40, Tryz.results40, push_cast, seval, lg0, w0]
theorem cloneS0 : PureFn Tryz.prog 132 [.one nilS] [.one nilS] := by
  refine PureFn_of_Go Tryz.func132 rfl (by decide) mo (by decide +kernel) ?_
  have ht : isSlT Tryz.prog 40 = true := by kernel_rfl
  simp only [Tryz.ntmps132, Tryz.results132, push_cast, seval, bin_nilNil ht]
theorem copyBoard0 : PureFn Tryz.prog 88 [.agg bNew] [.agg bNew] := by
  refine PureFn_of_Go Tryz.func88 rfl (by decide) mo (by decide +kernel) ?_
  have k := cloneS0
  simp only [Tryz.ntmps88, Tryz.results88, push_cast, seval, bNew]
  refine GoD_call rfl rfl k rfl rfl ?_
  simp only [push_cast, seval]
  refine Go_loop (α := Unit) (fun _ => _) (fun _ => 0) () (Weak.refl _) ?_
  rintro _ X1 hX1
  simp only [push_cast, seval]
  refine Go_loop (α := Unit) (fun _ => _) (fun _ => 0) () (Weak.refl _) ?_
  rintro _ X2 hX2
  simp only [Tryz.ntmps88, Tryz.results88, push_cast, seval]
theorem fold0 : PureFn Tryz.prog 39 [.agg bNew, .one (.sh 3 []), i64 1] [.agg bNew, .one nilS] := by
  refine PureFn_of_Go Tryz.func39 rfl (by decide) mo (by decide +kernel) ?_
  have k1 := copyBoard0
  have k2 := boardOkI_nil
  simp only [bNew] at k1 k2 ⊢
  simp only [Tryz.ntmps39, Tryz.results39, push_cast, seval]
  refine GoL_call rfl rfl k1 rfl rfl ?_
  simp only [push_cast, seval]
  refine GoL_call rfl rfl k2 rfl rfl ?_
  simp only [push_cast, seval]
  refine Go_loop (α := Unit) (fun _ => _) (fun _ => 0) () (Weak.refl _) ?_
  rintro _ X1 hX1
  simp only [Tryz.ntmps39, Tryz.results39, push_cast, seval]
theorem equalS0 : PureFn Tryz.prog 91 [.one nilS, .one nilS] [bo true] := by
  refine PureFn_of_Go Tryz.func91 rfl (by decide) mo (by decide +kernel) ?_
  simp only [Tryz.ntmps91, Tryz.results91, push_cast, seval]
  refine Go_loop (α := Unit) (fun _ => _) (fun _ => 0) () (Weak.refl _) ?_
  rintro _ X1 hX1
  simp only [Tryz.ntmps91, Tryz.results91, push_cast, seval]
theorem equalP0 (y : Value) : PureFn Tryz.prog 92 [.one nilS, .one nilS, .one (.v y)] [bo true] := by
  refine PureFn_of_Go Tryz.func92 rfl (by decide) mo (by decide +kernel) ?_
  simp only [Tryz.ntmps92, Tryz.results92, push_cast, seval]
  refine Go_loop (α := Unit) (fun _ => _) (fun _ => 0) () (Weak.refl _) ?_
  rintro _ X1 hX1
  simp only [Tryz.ntmps92, Tryz.results92, push_cast, seval]
theorem equalR0 (y : Value) : PureFn Tryz.prog 94 [.one nilS, .one nilS, .one (.v y)] [bo true] := by
  refine PureFn_of_Go Tryz.func94 rfl (by decide) mo (by decide +kernel) ?_
  simp only [Tryz.ntmps94, Tryz.results94, push_cast, seval]
  refine Go_loop (α := Unit) (fun _ => _) (fun _ => 0) () (Weak.refl _) ?_
  rintro _ X1 hX1
  simp only [Tryz.ntmps94, Tryz.results94, push_cast, seval]
theorem sameBoard0 : PureFn Tryz.prog 41 [.agg bNew, .agg bNew] [bo true] := by
  refine PureFn_of_Go Tryz.func41 rfl (by decide) mo (by decide +kernel) ?_
  have k1 := equalS0
  have k2 := equalP0
  have k3 := equalR0
  simp only [Tryz.ntmps41, Tryz.results41, push_cast, seval, bNew]
  refine GoL_call rfl rfl k1 rfl rfl ?_
  simp only [push_cast, seval]
  refine GoL_call rfl rfl (k2 _) rfl rfl ?_
  simp only [push_cast, seval]
  refine GoL_call rfl rfl (k3 _) rfl rfl ?_
  simp only [Tryz.ntmps41, Tryz.results41, push_cast, seval]
set_option maxHeartbeats 2000000 in
theorem serverOk_ok (l : List Int) (hc : confB l = true) :
    PureFn Tryz.prog 11 [.agg (srvC (.sh 1 (vR (ints l))) (.sh 3 []) (.sh 3 (vR (fils (fdL l)))) (.sh 3 []) 4)] [bo true] := by
  refine zero_case (i := 8) (k := 3) (show 8 < 30 by decide) rfl fun y hy => ?_
  refine PureFn_of_GoWX [4] Tryz.func11 rfl (by decide) mo (by decide +kernel) ?_
  have hcl := confB_len hc
  have k1 := boot_ok l hc 20 (by decide) (by decide)
  have k2 := sameJournal0
  have k3 : PureFn Tryz.prog 33 [.agg (nodC (.sh 1 (vR (ints l))) (.v y) 4)] [bo true] := zero_agg1 (i := 8) (k := 3) (cs := nodC (.sh 1 (vR (ints l))) (.sh 3 []) 4) hy rfl (nodeOk0 l hc 4 (by decide) (by decide))
  have k4 := equalInt_ok l (by omega)
  have k5 : PureFn Tryz.prog 30 [.agg (lg0 (.v y)), .agg (lg0 (.sh 3 []))] [bo true] := zero_agg2 (i := 2) (k := 3) (cs := lg0 (.sh 3 [])) hy rfl sameLog0
  have k6 := inRange_ok 0 0 0
  have k7 := isIndex_ok 0
  have k8 := isTerm_ok 0
  have k9 := entriesFrom0 hy
  have k10 := zero_one hy fold0
  have k11 := sameBoard0
  rw [show inR 0 0 1000000 = true from rfl] at k7
  rw [show inR 0 0 100000 = true from rfl] at k8
  obtain ⟨yp, yc, rfl⟩ := hy.form
  have hfl : (fdL l).length = 2 := rfl
  generalize fdL l = fl at *
  have hit := ints_take l
  have hft := fils_take fl
  have hfn := fils_length fl
  rw [hfl] at hft hfn
  have w1 : IntKind.i64.wrap (0 + 1) = 1 := rfl
  have hz0 : ((({ data := #[] } : ByteArray).size : Nat) : Int) = 0 := rfl
  simp only [jn0] at k2
  simp only [nodC] at k3
  simp only [lg0] at k5 k9
  simp only [bNew] at k10 k11
  simp only [srvC] at k1
  simp only [Tryz.ntmps11, Tryz.results11, push_cast, seval, srvC, List.set, slimX, List.contains_cons, List.contains_nil, Nat.reduceBEq, Bool.or_false, Bool.and_true, Bool.and_false, Bool.true_and, Bool.false_and, if_true, if_false, Bool.false_eq_true]
  refine GoL_call rfl (by simp only [push_cast, seval, hfn, hft]) k1 (by simp only [push_cast, seval]) rfl ?_
  simp only [push_cast, seval, ints_length, hit, hfn, hft]
  refine GoL_call rfl (by simp only [push_cast, seval]) k2 rfl rfl ?_
  simp only [push_cast, seval, ints_length, hit, hfn, hft]
  refine GoL_call rfl (by simp only [push_cast, seval, ints_length, hit]) k3 rfl rfl ?_
  simp only [push_cast, seval, ints_length, hit, hfn, hft]
  refine Go_anyF [0, 1, 2, 3] (by decide +kernel) fun K hK => ?_
  refine AnyF_fl 0 (by decide +kernel) rfl rfl rfl ?_
  simp only [push_cast, seval]
  refine AnyF_fl 1 (by decide +kernel) rfl rfl rfl ?_
  simp only [push_cast, seval]
  refine AnyF_fl 2 (by decide +kernel) rfl rfl rfl ?_
  simp only [push_cast, seval]
  refine AnyF_fl 3 (by decide +kernel) rfl rfl rfl ?_
  simp only [push_cast, seval]
  refine AnyF_2 4 5 [0, 1, 2, 3] [0, 1, 2, 3] (by decide +kernel) rfl rfl rfl (by decide +kernel) (by decide +kernel) ?_ ?_ <;> simp only [push_cast, seval]
  · refine AnyF_1 5 [0, 1, 2, 3] (by decide +kernel) rfl rfl (by decide +kernel) ?_
    simp only [push_cast, seval]
    refine AnyF_1 6 [2, 3] (by decide +kernel) rfl rfl (by decide +kernel) ?_
    simp only [push_cast, seval]
    refine AnyF_1 7 [] (by decide +kernel) rfl rfl (by decide +kernel) ?_
    simp only [push_cast, seval]
    refine AnyF_end (by decide +kernel) (hK _ ?_)
    simp only [push_cast, seval, ints_length, hit, hfn, hft]
    refine GoL_call rfl (by simp only [push_cast, seval, ints_length, hit]) k4 rfl rfl ?_
    simp only [push_cast, seval, ints_length, hit, hfn, hft]
    refine GoL_call rfl (by simp only [push_cast, seval]) k5 rfl rfl ?_
    simp only [push_cast, seval, ints_length, hit, hfn, hft]
    refine GoL_call rfl (by simp only [push_cast, seval]) k6 rfl rfl ?_
    simp only [push_cast, seval, ints_length, hit, hfn, hft, hz0]
    refine GoL_call rfl (by simp only [push_cast, seval]) k7 rfl rfl ?_
    simp only [push_cast, seval, ints_length, hit, hfn, hft]
    refine GoL_call rfl (by simp only [push_cast, seval]) k8 rfl rfl ?_
    simp only [push_cast, seval, ints_length, hit, hfn, hft]
    refine GoD_call rfl (by simp only [push_cast, seval]) k9 rfl rfl ?_
    simp only [push_cast, seval, ints_length, hit, hfn, hft, w1]
    refine GoD_call rfl (by simp only [push_cast, seval]; rfl) k10 rfl rfl ?_
    simp only [push_cast, seval, ints_length, hit, hfn, hft]
    refine GoL_call rfl (by simp only [push_cast, seval]) k11 rfl rfl ?_
    simp only [Tryz.ntmps11, Tryz.results11, push_cast, seval, ints_length, hit, hfn, hft]
    refine ⟨_, Weak.refl _, ?_⟩
    simp only [Tryz.ntmps11, Tryz.results11, push_cast, seval]
  · refine AnyF_1 4 [0, 1, 2, 3] (by decide +kernel) rfl rfl (by decide +kernel) ?_
    simp only [push_cast, seval]
    refine AnyF_1 6 [2, 3] (by decide +kernel) rfl rfl (by decide +kernel) ?_
    simp only [push_cast, seval]
    refine AnyF_1 7 [] (by decide +kernel) rfl rfl (by decide +kernel) ?_
    simp only [push_cast, seval]
    refine AnyF_end (by decide +kernel) (hK _ ?_)
    simp only [push_cast, seval, ints_length, hit, hfn, hft]
    refine GoL_call rfl (by simp only [push_cast, seval, ints_length, hit]) k4 rfl rfl ?_
    simp only [push_cast, seval, ints_length, hit, hfn, hft]
    refine GoL_call rfl (by simp only [push_cast, seval]) k5 rfl rfl ?_
    simp only [push_cast, seval, ints_length, hit, hfn, hft]
    refine GoL_call rfl (by simp only [push_cast, seval]) k6 rfl rfl ?_
    simp only [push_cast, seval, ints_length, hit, hfn, hft, hz0]
    refine GoL_call rfl (by simp only [push_cast, seval]) k7 rfl rfl ?_
    simp only [push_cast, seval, ints_length, hit, hfn, hft]
    refine GoL_call rfl (by simp only [push_cast, seval]) k8 rfl rfl ?_
    simp only [push_cast, seval, ints_length, hit, hfn, hft]
    refine GoD_call rfl (by simp only [push_cast, seval]) k9 rfl rfl ?_
    simp only [push_cast, seval, ints_length, hit, hfn, hft, w1]
    refine GoD_call rfl (by simp only [push_cast, seval]; rfl) k10 rfl rfl ?_
    simp only [push_cast, seval, ints_length, hit, hfn, hft]
    refine GoL_call rfl (by simp only [push_cast, seval]) k11 rfl rfl ?_
    simp only [Tryz.ntmps11, Tryz.results11, push_cast, seval, ints_length, hit, hfn, hft]
    refine ⟨_, Weak.refl _, ?_⟩
    simp only [Tryz.ntmps11, Tryz.results11, push_cast, seval]
end Go.Proofs.YthbfmegbnnmepaaGreatDoor

/- Drawn values: the cursor. -/
namespace Go.Proofs.YthbfmegbnnmepaaGreatDoor
open Go.RowKit Go.Rx
set_option linter.unusedSimpArgs false
set_option maxRecDepth 100000

theorem setA_setA (s : Store) (r : Root) (a b : Obj') : setA (setA s r a) r b = setA s r b := by
  induction s with
  | nil => rfl
  | cons p s ih =>
    obtain ⟨k, o⟩ := p
    by_cases h : k = r
    · simp only [setA, if_pos h]
    · simp only [setA, if_neg h, ih]
theorem getA_here {s : Store} {r : Root} {o : Obj'} (h : getA s r = some o) (ob : Obj') : getA (setA s r ob) r = some ob := by rw [getA_setA, if_pos rfl, h]; rfl
theorem belowS_setA (D : Nat) (r : Root) (ob : Obj') : ∀ s : Store, belowS D (setA s r ob) = belowS D s
  | [] => rfl
  | (k, o) :: s => by
    by_cases h : k = r
    · simp only [setA, if_pos h, belowS]
    · simp only [setA, if_neg h, belowS, belowS_setA D r ob s]
theorem upS_below {D : Nat} : ∀ {s : Store}, belowS D s = true → upS D s = []
  | [], _ => rfl
  | (k, o) :: s, h => by
    rw [belowS, Bool.and_eq_true, decide_eq_true_eq] at h
    rw [upS, if_neg (by omega), upS_below h.2]
theorem dnS_below {D : Nat} : ∀ {s : Store}, belowS D s = true → dnS D s = s
  | [], _ => rfl
  | (k, o) :: s, h => by
    rw [belowS, Bool.and_eq_true, decide_eq_true_eq] at h
    rw [dnS, if_pos h.1, dnS_below h.2]
theorem belowS_mono {D E : Nat} (h : D ≤ E) : ∀ {s : Store}, belowS D s = true → belowS E s = true
  | [], _ => rfl
  | (k, o) :: s, e => by
    rw [belowS, Bool.and_eq_true, decide_eq_true_eq] at e
    rw [belowS, belowS_mono h e.2, Bool.and_true, decide_eq_true_eq]; omega

/-! ### one octet -/
def curH (h : Int) : Int := IntKind.i64.wrap (IntKind.i64.wrap (h * 6364136223846793005) + 1442695040888963407)
def cur0 (h : Int) : Int := bits .and .i64 (bits .xor .i64 (shrI .i64 h 33) (shrI .i64 h 45)) 255
def curX (c : List UInt8) (p : Nat × Int) : Int := if p.1 < c.length then bits .and .i64 (IntKind.i64.wrap (cur0 (curH p.2) + ((c.getD p.1 0).toNat : Int))) 255 else cur0 (curH p.2)
def curN (c : List UInt8) (p : Nat × Int) : Nat × Int := (if p.1 < c.length then p.1 + 1 else p.1, curH p.2)
def curOb (c : List UInt8) (p : Nat × Int) : Obj' := ⟨.box, 3, [[.sh 1 (byR c), .v (.int .i64 p.1), .v (.int .i64 p.2)]]⟩
theorem and255 (x : Int) : 0 ≤ bits .and .i64 x 255 ∧ bits .and .i64 x 255 ≤ 255 := by
  have h : bits .and .i64 x 255 = IntKind.i64.wrap ((BitVec.ofInt 64 x &&& BitVec.ofInt 64 255).toNat : Int) := rfl
  have h2 : (BitVec.ofInt 64 x &&& BitVec.ofInt 64 255).toNat ≤ 255 := by
    rw [BitVec.toNat_and]
    exact Nat.le_trans Nat.and_le_right (by decide)
  rw [h, IntKind.wrap_i64]; omega
theorem curX_b (c : List UInt8) (p : Nat × Int) : 0 ≤ curX c p ∧ curX c p ≤ 255 := by
  unfold curX
  split
  · exact and255 _
  · exact and255 _
theorem curN_le {c : List UInt8} {p : Nat × Int} (h : p.1 ≤ c.length) : (curN c p).1 ≤ c.length := by
  simp only [curN]; split <;> omega
theorem byRL_getD (c : List UInt8) {i : Nat} (h : i < c.length) : (byR c).getD i [] = [.v (.int .u8 (c.getD i 0).toNat)] := by
  simp [byR, List.getD_eq_getElem?_getD, List.getElem?_map, List.getElem?_eq_getElem h]

variable {Q : Ex → St → Prop} {k : List Fr} {l : List SOp} {σ : St} {dst : Option Tmp} {a a2 : Operand} {ats : Array TypeId} {ty : TypeId}

theorem byte_go (D : Nat) (r : Root) {c : List UInt8} {p : Nat × Int} (hc : c.length ≤ 1048576) (hp : p.1 ≤ c.length)
    (ha : xsV [ev σ a] = some [.one (.pt r [] 3 0 0)]) (hr : getA σ.o r = some (curOb c p)) (hd : σ.d ≤ D) (hD : belowS D σ.o = true)
    (H : GoL Tryz.prog l k (exitSt σ.t σ.d dst ⟨[], D, [], setA σ.o r (curOb c (curN c p))⟩ [i64 (curX c p)]) Q) :
    GoL Tryz.prog (⟨dst, .call { callee := .value (.func 97), args := #[a], argTypes := ats }, ty, none⟩ :: l) k σ Q := by
  refine GoL_inl2 D Tryz.func97 rfl (by decide) mo (by decide +kernel) rfl ha hd hD fun K hK => ?_
  generalize σ.o = s at hr hD H hK
  obtain ⟨i, h⟩ := p
  simp only at hp
  have hr1 : ∀ ob, getA (setA s r ob) r = some ob := getA_here hr
  have hu : ∀ ob, upS D (setA s r ob) = [] := fun ob => upS_below (by rw [belowS_setA]; exact hD)
  have hn : ∀ ob, dnS D (setA s r ob) = setA s r ob := fun ob => dnS_below (by rw [belowS_setA]; exact hD)
  have hs : ∀ a b, setA (setA s r a) r b = setA s r b := setA_setA s r
  unfold curOb at hr
  simp only at hr
  obtain ⟨h1, hh1⟩ : ∃ h1, h1 = curH h := ⟨_, rfl⟩
  have e1 : IntKind.i64.wrap (IntKind.i64.wrap (h * 6364136223846793005) + 1442695040888963407) = h1 := hh1.symm
  obtain ⟨x0, hx0⟩ : ∃ x0, x0 = cur0 h1 := ⟨_, rfl⟩
  have e2 : bits .and .i64 (bits .xor .i64 (shrI .i64 h1 33) (shrI .i64 h1 45)) 255 = x0 := hx0.symm
  simp only [curX, curN, ← hh1, ← hx0] at H
  by_cases hlt : (i : Int) < (c.length : Int)
  · have hi : i < c.length := by omega
    rw [if_pos hi, if_pos hi] at H
    have hg := byRL_getD c hi
    obtain ⟨i', hi'⟩ : ∃ i', i' = i + 1 := ⟨_, rfl⟩
    have hw : IntKind.i64.wrap ((i : Int) + 1) = (i' : Int) := wN (by omega) (by omega)
    have hb := u8_lt (c.getD i 0)
    have hw2 : IntKind.i64.wrap ((c.getD i 0).toNat : Int) = ((c.getD i 0).toNat : Int) := wN rfl (by omega)
    rw [← hi'] at H
    simp only [Tryz.ntmps97, Tryz.results97, push_cast, seval, List.nil_append, hr, hr1, hs, hlt, hi, hg, hw, hw2, e1, e2]
    refine hK _ _ _ (Weak.refl _) rfl rfl rfl H
  · have hi : ¬ i < c.length := by omega
    rw [if_neg hi, if_neg hi] at H
    simp only [Tryz.ntmps97, Tryz.results97, push_cast, seval, List.nil_append, hr, hr1, hs, hlt, e1, e2]
    refine hK _ _ _ (Weak.refl _) rfl rfl rfl H
/-! ### a number below n -/
def curI (c : List UInt8) (p : Nat × Int) : Nat → Nat × Int
  | 0 => p
  | j + 1 => curN c (curI c p j)
theorem curI_le {c : List UInt8} {p : Nat × Int} (h : p.1 ≤ c.length) : ∀ j, (curI c p j).1 ≤ c.length
  | 0 => h
  | j + 1 => curN_le (curI_le h j)

theorem small_go (D : Nat) (r : Root) {c : List UInt8} {p : Nat × Int} {n : Int} (hn0 : 0 < n) (hn : n ≤ 256) (hc : c.length ≤ 1048576) (hp : p.1 ≤ c.length)
    (ha : xsV [ev σ a, ev σ a2] = some [.one (.pt r [] 3 0 0), i64 n]) (hr : getA σ.o r = some (curOb c p)) (hd : σ.d ≤ D) (hD : belowS D σ.o = true)
    (H : GoL Tryz.prog l k (exitSt σ.t σ.d dst ⟨[], D, [], setA σ.o r (curOb c (curN c p))⟩ [i64 ((curX c p).tmod n)]) Q) :
    GoL Tryz.prog (⟨dst, .call { callee := .value (.func 43), args := #[a, a2], argTypes := ats }, ty, none⟩ :: l) k σ Q := by
  refine GoL_inl2 D Tryz.func43 rfl (by decide) mo (by decide +kernel) rfl ha hd hD fun K hK => ?_
  generalize σ.o = s at hr hD H hK
  have hr1 : ∀ ob, getA (setA s r ob) r = some ob := getA_here hr
  have c1 : ¬ n ≤ 0 := by omega
  have c2 : ¬ n = 0 := by omega
  simp only [Tryz.ntmps43, Tryz.results43, push_cast, seval, c1, hn]
  refine byte_go (D + 1) r hc hp rfl hr (by simp only; omega) (belowS_mono (by omega) hD) ?_
  have hu : ∀ ob, upS D (setA s r ob) = [] := fun ob => upS_below (by rw [belowS_setA]; exact hD)
  have hv : ∀ ob, dnS D (setA s r ob) = setA s r ob := fun ob => dnS_below (by rw [belowS_setA]; exact hD)
  simp only [Tryz.ntmps43, Tryz.results43, push_cast, seval, List.nil_append, List.append_nil, hu, hv, hr1, c2]
  refine hK _ _ _ (Weak.refl _) rfl rfl rfl H
/-! ### a new cursor -/
def newK (c : List UInt8) : Nat → Int
  | 0 => IntKind.i64.wrap (27701 + c.length)
  | j + 1 => bits .and .i64 (IntKind.i64.wrap (IntKind.i64.wrap (IntKind.i64.wrap (newK c j * 131) + ((c.getD j 0).toNat : Int)) + 7)) 1073741823
def new0 (c : List UInt8) : Nat × Int := (0, newK c (min c.length 4000))
theorem new_go (D : Nat) {c : List UInt8} (hc : c.length ≤ 1048576)
    (ha : xsV [ev σ a] = some [.one (.sh 1 (byR c))]) (hd : σ.d ≤ D) (hD : belowS D σ.o = true)
    (H : GoL Tryz.prog l k (exitSt σ.t σ.d dst ⟨[], D, [((D, 1984), curOb c (new0 c))], σ.o⟩ [.one (.pt (D, 1984) [] 3 0 0)]) Q) :
    GoL Tryz.prog (⟨dst, .call { callee := .value (.func 13), args := #[a], argTypes := ats }, ty, none⟩ :: l) k σ Q := by
  refine GoL_inl2 D Tryz.func13 rfl (by decide) mo (by decide +kernel) rfl ha hd hD fun K hK => ?_
  generalize σ.o = s at hD H hK
  simp only [Tryz.ntmps13, Tryz.results13, push_cast, seval]
  refine Go_loop (α := {i : Nat // i ≤ c.length ∧ i ≤ 4000})
    (fun i => ⟨tp 32 [(0, .x (.one (.sh 1 (byR c)))), (3, .x (i64 (newK c i.1))), (4, int i.1)], D, [], s⟩)
    (fun i => c.length - i.1) ⟨0, by omega, by omega⟩ ?_ ?_
  · exact Weak.same (by simp only [push_cast, seval, Int.ofNat_zero, newK])
  · rintro ⟨i, hi, hi2⟩ X hX
    by_cases hlt : (i : Int) < (c.length : Int)
    · by_cases hl2 : (i : Int) < 4000
      · have hg := byRL_getD c (show i < c.length by omega)
        have hlt' : i < c.length := by omega
        obtain ⟨i', hi'⟩ : ∃ i', i' = i + 1 := ⟨_, rfl⟩
        have hw : IntKind.i64.wrap ((i : Int) + 1) = (i' : Int) := wN (by omega) (by omega)
        have hb := u8_lt (c.getD i 0)
        have hw2 : IntKind.i64.wrap ((c.getD i 0).toNat : Int) = ((c.getD i 0).toNat : Int) := wN rfl (by omega)
        have hk : newK c i' = bits .and .i64 (IntKind.i64.wrap (IntKind.i64.wrap (IntKind.i64.wrap (newK c i * 131) + ((c.getD i 0).toNat : Int)) + 7)) 1073741823 := by rw [hi']; rfl
        simp only [push_cast, seval, hlt, hl2, hlt', hg, hw, hw2, ← hk]
        refine ⟨_, ?_, hX ⟨i', by omega, by omega⟩ (by simp only; omega)⟩
        exact Weak.same (by simp only [push_cast, seval])
      · have hm : min c.length 4000 = i := by omega
        simp only [new0, hm] at H
        simp only [Tryz.ntmps13, Tryz.results13, push_cast, seval, hlt, hl2]
        refine hK _ _ _ (Weak.refl _) rfl rfl rfl H
    · have hm : min c.length 4000 = i := by omega
      simp only [new0, hm] at H
      simp only [Tryz.ntmps13, Tryz.results13, push_cast, seval, hlt]
      refine hK _ _ _ (Weak.refl _) rfl rfl rfl H
end Go.Proofs.YthbfmegbnnmepaaGreatDoor

/- A drawn conf. -/
namespace Go.Proofs.YthbfmegbnnmepaaGreatDoor
open Go.RowKit Go.Rx
set_option linter.unusedSimpArgs false
set_option maxRecDepth 100000

def cfL (c : List UInt8) (p : Nat × Int) : Nat → List Int
  | 0 => []
  | j + 1 => if (curX c (curI c p j)).tmod 2 = 0 then cfL c p j ++ [((j + 1 : Nat) : Int)] else cfL c p j
theorem cfL_len (c : List UInt8) (p : Nat × Int) : ∀ j, (cfL c p j).length ≤ j
  | 0 => Nat.le_refl _
  | j + 1 => by
    have := cfL_len c p j
    unfold cfL
    split
    · rw [List.length_append]; simp only [List.length_cons, List.length_nil]; omega
    · omega
def cfR (c : List UInt8) (p : Nat × Int) : List Int := if (cfL c p 4).length = 0 then [1] else cfL c p 4
def pk4 (n : Int) : Int := if n = 0 then 0 else if n = 1 then 4 else if n = 2 then 5 else 1
def dcL (c : List UInt8) : List Int :=
  if (curX c (curI c (new0 c) 4)).tmod 12 = 0 then cfR c (new0 c) ++ [pk4 ((curX c (curI c (new0 c) 5)).tmod 4)]
  else if (curX c (curI c (new0 c) 4)).tmod 12 = 1 then [] else cfR c (new0 c)
theorem cfR_len (c : List UInt8) (p : Nat × Int) : (cfR c p).length ≤ 4 := by
  have := cfL_len c p 4
  unfold cfR
  split
  · decide
  · exact this
theorem dcL_len (c : List UInt8) : (dcL c).length ≤ 5 := by
  have := cfR_len c (new0 c)
  unfold dcL
  split
  · rw [List.length_append]; simp only [List.length_cons, List.length_nil]; omega
  · split
    · exact Nat.zero_le _
    · omega
theorem ints_snoc (l : List Int) (x : Int) : vR (ints l) ++ [[C.v (.int .i64 x)]] = vR (ints (l ++ [x])) := by simp [vR, ints]

variable {Q : Ex → St → Prop} {k : List Fr} {l : List SOp} {σ : St} {dst : Option Tmp} {a a2 : Operand} {ats : Array TypeId} {ty : TypeId}
theorem once_go (D : Nat) (r : Root) {c : List UInt8} {p : Nat × Int} {n : Int} (hn0 : 0 < n) (hn : n ≤ 256) (hc : c.length ≤ 1048576) (hp : p.1 ≤ c.length)
    (ha : xsV [ev σ a, ev σ a2] = some [.one (.pt r [] 3 0 0), i64 n]) (hr : getA σ.o r = some (curOb c p)) (hd : σ.d ≤ D) (hD : belowS D σ.o = true)
    (H : GoL Tryz.prog l k (exitSt σ.t σ.d dst ⟨[], D, [], setA σ.o r (curOb c (curN c p))⟩ [bo (decide ((curX c p).tmod n = 0))]) Q) :
    GoL Tryz.prog (⟨dst, .call { callee := .value (.func 96), args := #[a, a2], argTypes := ats }, ty, none⟩ :: l) k σ Q := by
  refine GoL_inl2 D Tryz.func96 rfl (by decide) mo (by decide +kernel) rfl ha hd hD fun K hK => ?_
  generalize σ.o = s at hr hD H hK
  have hr1 : ∀ ob, getA (setA s r ob) r = some ob := getA_here hr
  simp only [Tryz.ntmps96, Tryz.results96, push_cast, seval]
  refine small_go (D + 1) r hn0 hn hc hp rfl hr (by simp only; omega) (belowS_mono (by omega) hD) ?_
  have hu : ∀ ob, upS D (setA s r ob) = [] := fun ob => upS_below (by rw [belowS_setA]; exact hD)
  have hv : ∀ ob, dnS D (setA s r ob) = setA s r ob := fun ob => dnS_below (by rw [belowS_setA]; exact hD)
  simp only [Tryz.ntmps96, Tryz.results96, push_cast, seval, List.nil_append, List.append_nil, hu, hv, hr1]
  refine hK _ _ _ (Weak.refl _) rfl rfl rfl H

set_option maxHeartbeats 1000000 in
theorem drawConf_ok (c : List UInt8) (hc : c.length ≤ 1048576) : PureFn Tryz.prog 5 [.one (.sh 1 (byR c))] [.one (.own 1 (vR (ints (dcL c))))] := by
  refine PureFn_of_GoW Tryz.func5 rfl (by decide) mo (by decide +kernel) ?_
  simp only [Tryz.ntmps5, Tryz.results5, push_cast, seval]
  refine new_go 1 hc rfl (Nat.zero_le _) rfl ?_
  have hdc : dcL c = if (curX c (curI c (new0 c) 4)).tmod 12 = 0 then cfR c (new0 c) ++ [pk4 ((curX c (curI c (new0 c) 5)).tmod 4)] else if (curX c (curI c (new0 c) 4)).tmod 12 = 1 then [] else cfR c (new0 c) := rfl
  have hp0 : (new0 c).1 ≤ c.length := Nat.zero_le _
  rw [hdc]
  generalize new0 c = p0 at hp0
  unfold curOb
  simp only [Tryz.ntmps5, Tryz.results5, push_cast, seval, List.nil_append, List.append_nil]
  refine GoL_inl2 2 Tryz.func12 rfl (by decide) mo (by decide +kernel) rfl rfl (show 0 ≤ 2 by decide) rfl fun K hK => ?_
  simp only [Tryz.ntmps12, Tryz.results12, push_cast, seval]
  refine GoL_inl2 3 Tryz.func42 rfl (by decide) mo (by decide +kernel) rfl rfl (show 2 ≤ 3 by decide) rfl fun K2 hK2 => ?_
  have hcr := cfR_len c p0
  have hfin : ∀ σ1 : St, Weak σ1 ⟨tp 23 [(2, .x (.one (.rs (3, 1344) [] 1 0 (cfR c p0).length)))], 3, [((3, 1344), ⟨.sl, 1, vR (ints (cfR c p0))⟩)], [((1, 1984), curOb c (curI c p0 4))]⟩ → σ1.d = 3 → K2 σ1 := by
    intro σ1 hw hd1
    have hp4 := curI_le (c := c) hp0 4
    have hp5 := curI_le (c := c) hp0 5
    refine hK2 σ1 _ _ hw hd1 rfl (by simp only [Tryz.ntmps42, Tryz.results42, push_cast, seval]; rfl) ?_
    obtain ⟨F, hF⟩ : ∃ F, cfR c p0 = F := ⟨_, rfl⟩
    rw [hF] at hcr ⊢
    unfold curOb
    simp only [Tryz.ntmps12, Tryz.results12, push_cast, seval, List.nil_append, List.append_nil]
    refine small_go 4 (1, 1984) (by decide) (by decide) hc hp4 rfl rfl (show 2 ≤ 4 by decide) rfl ?_
    unfold curOb
    rw [show curN c (curI c p0 4) = curI c p0 5 from rfl]
    have hFl : (ints F).length = F.length := ints_length F
    obtain ⟨x, hx⟩ : ∃ x, (curX c (curI c p0 4)).tmod 12 = x := ⟨_, rfl⟩
    rw [hx]
    by_cases h0 : x = 0
    · simp only [push_cast, seval, List.nil_append, List.append_nil, h0]
      refine GoL_inl2 5 Tryz.func44 rfl (by decide) mo (by decide +kernel) rfl rfl (show 2 ≤ 5 by decide) rfl fun K3 hK3 => ?_
      simp only [Tryz.ntmps44, Tryz.results44, push_cast, seval]
      refine small_go 6 (1, 1984) (by decide) (by decide) hc hp5 rfl rfl (show 5 ≤ 6 by decide) rfl ?_
      unfold curOb
      have hb := curX_b c (curI c p0 5)
      have hy0 := Int.tmod_nonneg 4 hb.1
      have hy4 := Int.tmod_lt_of_pos (curX c (curI c p0 5)) (show (0 : Int) < 4 by decide)
      obtain ⟨y, hye⟩ : ∃ y, (curX c (curI c p0 5)).tmod 4 = y := ⟨_, rfl⟩
      rw [hye] at hy0 hy4 ⊢
      have hsn := ints_snoc F (pk4 y)
      have a0 : F.length + 1 ≤ 4294967296 := by omega
      have a1 := max_len a0
      have a2 := room_le (b := 8) a0 (by decide)
      have hy : y = 0 ∨ y = 1 ∨ y = 2 ∨ y = 3 := by omega
      rcases hy with rfl | rfl | rfl | rfl
      all_goals
        simp only [pk4, Int.reduceEq, if_true, if_false] at hsn
        simp only [Tryz.ntmps44, Tryz.results44, push_cast, seval, List.nil_append, List.append_nil]
        refine hK3 _ _ _ (Weak.refl _) rfl rfl rfl ?_
        simp only [Tryz.ntmps12, Tryz.results12, push_cast, seval, List.nil_append, List.append_nil, hFl, hsn, a1, a2]
        refine hK _ _ _ (Weak.refl _) rfl rfl (by simp only [Tryz.ntmps12, Tryz.results12, push_cast, seval]; rfl) ?_
        simp only [Tryz.ntmps5, Tryz.results5, push_cast, seval, List.nil_append, List.append_nil]
        refine ⟨_, Weak.refl _, ?_⟩
        rw [hF, hx, if_pos h0, hye]
        simp only [Tryz.ntmps5, Tryz.results5, push_cast, seval, pk4, hsn, ints_length, List.length_append, List.length_cons, List.length_nil]
    · by_cases h1 : x = 1
      · simp only [Tryz.ntmps12, Tryz.results12, push_cast, seval, List.nil_append, List.append_nil, h0, h1]
        refine hK _ _ _ (Weak.refl _) rfl rfl (by simp only [Tryz.ntmps12, Tryz.results12, push_cast, seval]; rfl) ?_
        simp only [Tryz.ntmps5, Tryz.results5, push_cast, seval, List.nil_append, List.append_nil]
        refine ⟨_, Weak.refl _, ?_⟩
        rw [hx, if_neg h0, if_pos h1]
        simp only [Tryz.ntmps5, Tryz.results5, push_cast, seval, ints_length]
        rfl
      · simp only [Tryz.ntmps12, Tryz.results12, push_cast, seval, List.nil_append, List.append_nil, h0, h1]
        refine hK _ _ _ (Weak.refl _) rfl rfl (by simp only [Tryz.ntmps12, Tryz.results12, push_cast, seval]; rfl) ?_
        simp only [Tryz.ntmps5, Tryz.results5, push_cast, seval, List.nil_append, List.append_nil]
        refine ⟨_, Weak.refl _, ?_⟩
        rw [hF, hx, if_neg h0, if_neg h1]
        simp only [Tryz.ntmps5, Tryz.results5, push_cast, seval, hFl]
  simp only [Tryz.ntmps42, Tryz.results42, push_cast, seval]
  refine Go_loop (α := {j : Nat // j ≤ 4})
    (fun j => ⟨tp 23 [(0, .x (.one (.pt (1, 1984) [] 3 0 0))), (3, .x (.one (.rs (3, 960) [] 1 0 (cfL c p0 j.1).length))), (4, .x (i64 ((j.1 : Int) + 1)))], 3, [((3, 960), ⟨.sl, 1, vR (ints (cfL c p0 j.1))⟩)], [((1, 1984), curOb c (curI c p0 j.1))]⟩)
    (fun j => 4 - j.1) ⟨0, by omega⟩ ?_ ?_
  · refine Weak.trans (Weak.rename' (3, 320) (3, 960) (Nat.le_refl _) (Nat.le_refl _) (by decide) rfl) ?_
    unfold curOb
    rw [show vR (ints (cfL c p0 (⟨0, by omega⟩ : {j : Nat // j ≤ 4}).1)) = [] from rfl]
    simp only [push_cast, seval, ren_vR', cfL, curI]
    exact Weak.same (by simp only [push_cast, seval])
  · rintro ⟨j, hj⟩ X hX
    have hpj := curI_le (c := c) hp0 j
    by_cases hlt : (j : Int) + 1 ≤ 4
    · have hcl := cfL_len c p0 j
      obtain ⟨j', hj1⟩ : ∃ j', j' = j + 1 := ⟨_, rfl⟩
      have ws : IntKind.i64.wrap ((j : Int) + 1 + 1) = (j' : Int) + 1 := by
        have := wN (x := (j : Int) + 1 + 1) (m := j' + 1) (by omega) (by omega)
        rw [this]; omega
      have hcn : curN c (curI c p0 j) = curI c p0 j' := by rw [hj1]; rfl
      simp only [push_cast, seval, hlt]
      refine once_go 4 (1, 1984) (by decide) (by decide) hc hpj rfl rfl (show 3 ≤ 4 by decide) rfl ?_
      unfold curOb
      rw [hcn]
      simp only [push_cast, seval, List.nil_append, List.append_nil]
      have hcl' := cfL_len c p0 j
      by_cases he : (curX c (curI c p0 j)).tmod 2 = 0
      · have hcf : cfL c p0 j' = cfL c p0 j ++ [(j' : Int)] := by rw [hj1, cfL, if_pos he]
        have hsn := ints_snoc (cfL c p0 j) ((j : Int) + 1)
        have hjj : (j : Int) + 1 = (j' : Int) := by omega
        rw [hjj] at hsn
        have a0 : (cfL c p0 j).length + 1 ≤ 4294967296 := by omega
        have a1 := max_len a0
        have a2 := room_le (b := 8) a0 (by decide)
        have hlen : (ints (cfL c p0 j)).length = (cfL c p0 j).length := ints_length _
        rw [hjj] at ws
        rw [hjj]
        simp only [push_cast, seval, he, hlen, hsn, a1, a2, ws, flatRows, flatRow]
        refine ⟨_, ?_, hX ⟨j', by omega⟩ (by simp only; omega)⟩
        have hll : (cfL c p0 j').length = (cfL c p0 j).length + 1 := by rw [hcf, List.length_append]; rfl
        rw [hll, hcf]
        unfold curOb
        exact Weak.drop (by simp only [push_cast, seval]) (by simp only [push_cast, seval]) (by simp only [push_cast, seval])
      · have hcf : cfL c p0 j' = cfL c p0 j := by rw [hj1, cfL, if_neg he]
        have hlen : (ints (cfL c p0 j)).length = (cfL c p0 j).length := ints_length _
        simp only [push_cast, seval, he, ws]
        refine ⟨_, ?_, hX ⟨j', by omega⟩ (by simp only; omega)⟩
        rw [hcf]
        unfold curOb
        exact Weak.drop (by simp only [push_cast, seval, hlen]) (by simp only [push_cast, seval, hlen]) (by simp only [push_cast, seval, hlen])
    · have hj4 : j = 4 := by omega
      subst hj4
      have hcl := cfL_len c p0 4
      have hr : cfR c p0 = if (cfL c p0 4).length = 0 then [1] else cfL c p0 4 := rfl
      by_cases h0 : (cfL c p0 4).length = 0
      · have h00 : ((cfL c p0 4).length : Int) = 0 := by omega
        rw [if_pos h0] at hr
        have hnil := List.eq_nil_of_length_eq_zero h0
        rw [hnil]
        have hil : (ints ([] : List Int)).length = 0 := rfl
        simp only [Tryz.ntmps42, Tryz.results42, push_cast, seval, hlt, List.length_nil, hil, curOb]
        refine hfin _ ?_ rfl
        rw [hr, show vR (ints ([] : List Int)) ++ [[C.v (.int .i64 1)]] = vR (ints [1]) from rfl]
        unfold curOb
        exact Weak.drop (by simp only [push_cast, seval, List.length_cons, List.length_nil, Nat.zero_add]) (by simp only [push_cast, seval, List.length_cons, List.length_nil, Nat.zero_add]) (by simp only [push_cast, seval, List.length_cons, List.length_nil, Nat.zero_add])
      · have h00 : ¬ ((cfL c p0 4).length : Int) = 0 := by omega
        rw [if_neg h0] at hr
        simp only [push_cast, seval, hlt, h00]
        refine hfin _ ?_ rfl
        rw [hr]
        refine Weak.trans (Weak.rename' (3, 960) (3, 1344) (Nat.le_refl _) (Nat.le_refl _) (by decide) rfl) ?_
        unfold curOb
        simp only [push_cast, seval, ren_vR']
        exact Weak.drop (by simp only [push_cast, seval]) (by simp only [push_cast, seval]) (by simp only [push_cast, seval])
end Go.Proofs.YthbfmegbnnmepaaGreatDoor

/- FnFormats: the law. -/
namespace Go.Proofs.YthbfmegbnnmepaaGreatDoor
open Go.RowKit Go.Rx
set_option linter.unusedSimpArgs false
set_option maxRecDepth 100000

theorem bigF_ok (c : List UInt8) : PureFn Tryz.prog 4 [.one (.sh 1 (byR c))] [bo (decide ((1048576 : Int) < (c.length : Int)))] := by
  refine PureFn_of_Go Tryz.func4 rfl (by decide) mo (by decide +kernel) ?_
  simp only [Tryz.ntmps4, Tryz.results4, push_cast, seval]
theorem snF_confL (l : List Int) (h : confB l = false) : snF (fdS l) = false := by
  simp [snF, snB, fdS, h]
set_option maxHeartbeats 1000000 in
theorem lawFormats_ok (c : List UInt8) : PureFn Tryz.prog 3 [.one (.sh 1 (byR c))] [bo true] := by
  refine PureFn_of_Go Tryz.func3 rfl (by decide) mo (by decide +kernel) ?_
  simp only [Tryz.ntmps3, Tryz.results3, push_cast, seval]
  refine GoL_call rfl rfl (bigF_ok c) rfl rfl ?_
  cases cb : decide ((1048576 : Int) < (c.length : Int)) with
  | true => simp only [Tryz.ntmps3, Tryz.results3, push_cast, seval]
  | false =>
    have hc : c.length ≤ 1048576 := by have := of_decide_eq_false cb; omega
    have hdl := dcL_len c
    have k1 := drawConf_ok c hc
    generalize dcL c = l at hdl k1
    have hit := ints_take l
    have k2 := formatDiskI_ok l (by omega)
    have k3 := confOkS_ok l (by omega)
    simp only [Tryz.ntmps3, Tryz.results3, push_cast, seval]
    refine GoL_call rfl rfl k1 (by simp only [push_cast, seval]) rfl ?_
    cases hb : confB l with
    | false =>
      rw [fdX, snF_confL l hb] at k2
      rw [hb] at k3
      simp only [Bool.false_eq_true, if_false] at k2
      simp only [Tryz.ntmps3, Tryz.results3, push_cast, seval, ints_length]
      refine GoL_call rfl (by simp only [push_cast, seval, ints_length, hit]) k2 (by simp only [push_cast, seval]) rfl ?_
      simp only [Tryz.ntmps3, Tryz.results3, push_cast, seval, ints_length, hit]
      refine GoL_call rfl (by simp only [push_cast, seval, ints_length, hit]) k3 rfl rfl ?_
      simp only [Tryz.ntmps3, Tryz.results3, push_cast, seval, ints_length, hit]
    | true =>
      obtain ⟨f1, f2, f3, f4, f5, f6, f7⟩ := fd_facts hb
      rw [fdX, f1] at k2
      rw [hb] at k3
      simp only [if_true] at k2
      have k4 := boot_ok l hb 4 (by decide) (by decide)
      have k5 := sameInts_ok l (by omega)
      have k6 := lawLast0 (.sh 3 []) rfl
      have k7 := serverOk_ok l hb
      have hfl : (fdL l).length = 2 := rfl
      generalize fdL l = fl at *
      have hft := fils_take fl
      have hfn := fils_length fl
      rw [hfl] at hft hfn
      simp only [lg0] at k6
      simp only [srvC] at k4 k7
      simp only [Tryz.ntmps3, Tryz.results3, push_cast, seval, ints_length]
      refine GoL_call rfl (by simp only [push_cast, seval, ints_length, hit]) k2 (by simp only [push_cast, seval]) rfl ?_
      simp only [Tryz.ntmps3, Tryz.results3, push_cast, seval, ints_length, hit, hfn, hft]
      refine GoL_call rfl (by simp only [push_cast, seval, ints_length, hit]) k3 rfl rfl ?_
      simp only [Tryz.ntmps3, Tryz.results3, push_cast, seval, ints_length, hit, hfn, hft]
      refine GoL_call rfl (by simp only [push_cast, seval, hfn, hft]) k4 (by simp only [push_cast, seval]) rfl ?_
      simp only [Tryz.ntmps3, Tryz.results3, push_cast, seval, ints_length, hit, hfn, hft]
      refine GoL_call rfl (by simp only [push_cast, seval, ints_length, hit]) k5 rfl rfl ?_
      simp only [Tryz.ntmps3, Tryz.results3, push_cast, seval, ints_length, hit, hfn, hft]
      refine GoL_call rfl (by simp only [push_cast, seval]) k6 rfl rfl ?_
      simp only [Tryz.ntmps3, Tryz.results3, push_cast, seval, ints_length, hit, hfn, hft]
      refine GoL_call rfl (by simp only [push_cast, seval, ints_length, hit, hfn, hft]) k7 rfl rfl ?_
      simp only [Tryz.ntmps3, Tryz.results3, push_cast, seval, ints_length, hit, hfn, hft]
theorem ofNat_toNat {n : Nat} (h : n < 256) : (UInt8.ofNat n).toNat = n := by simp; omega
theorem byR_dec : ∀ R : List (List C), (∀ r ∈ R, HasKt (.int .u8) r) → ∃ l, R = byR l
  | [], _ => ⟨[], rfl⟩
  | r :: R, h => by
    obtain ⟨l, rfl⟩ := byR_dec R fun r' hr => h r' (List.mem_cons_of_mem _ hr)
    obtain ⟨n, rfl, hn⟩ := h r (List.mem_cons_self ..)
    have hn2 : 0 ≤ n ∧ n < 256 := by
      have h1 : IntKind.u8.min = 0 := rfl
      have h2 : IntKind.u8.max = 255 := rfl
      simp only [Lit.wf, Bool.and_eq_true, decide_eq_true_eq] at hn
      omega
    refine ⟨UInt8.ofNat n.toNat :: l, ?_⟩
    have : ((UInt8.ofNat n.toNat).toNat : Int) = n := by rw [ofNat_toNat (by omega)]; omega
    simp only [byR, List.map_cons, this]
theorem lawFormats (xs : List X) (h : HasXs [.sl 1 1 (.int .u8)] xs) : PureFn Tryz.prog 3 xs [.one (.v (.bool true))] := by
  obtain ⟨x, _, rfl, ⟨c, rfl, hc⟩, rfl⟩ := h
  simp only [HasKt] at hc
  obtain ⟨R, hR, _, _, h2⟩ := hc
  cases hR
  obtain ⟨l, rfl⟩ := byR_dec R fun r hr => h2 r hr
  exact lawFormats_ok l
end Go.Proofs.YthbfmegbnnmepaaGreatDoor
