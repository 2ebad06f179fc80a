/- The newest snapshot. -/
import Derived.Test.YtennhlaibefacaaDoorK5
namespace Go.Proofs.YtennhlaibefacaaDoor
open Go.RowKit Go.Rx
set_option linter.unusedSimpArgs false
set_option maxRecDepth 100000

def snOf (f : Fil) : Snp := zX (uT f.text) (!uB f.text)
def fIx (f : Fil) : Nat := nmN 115 f.name
def goodF (f : Fil) : Bool := nmB 115 1000000 f.name && (sOk f.text && decide ((snOf f).idx = (fIx f : Int)))
def stepN (b : Option Snp) (f : Fil) : Option Snp := if goodF f then (match b with
  | none => some (snOf f)
  | some x => if x.idx < (fIx f : Int) then some (snOf f) else some x) else b
def nsTo (l : List Fil) : Nat → Option Snp
  | 0 => none
  | i + 1 => stepN (nsTo l i) (fAt l i)
def nsO (l : List Fil) : Option Snp := if dkB l then nsTo l l.length else none
def snN : Snp := ⟨0, 0, [], ⟨#[]⟩⟩
def nsS (o : Option Snp) : Snp := o.getD snN
def nsX (o : Option Snp) : List X := [.agg ((nsS o).enc (.own 1)), bo o.isSome]
theorem good_name {f : Fil} (h : goodF f = true) : f.name = nmT 115 (fIx f) ∧ sOk f.text = true ∧ (snOf f).idx = (fIx f : Int) := by
  simp only [goodF, Bool.and_eq_true, decide_eq_true_eq] at h
  exact ⟨(nm_spec h.1).1, h.2.1, h.2.2⟩
/-- Whence the best one is. -/
def FromL (l : List Fil) (i : Nat) (o : Option Snp) : Prop := ∀ x, o = some x → ∃ k, k < i ∧ goodF (fAt l k) = true ∧ x.idx = (fIx (fAt l k) : Int)
theorem from_step {l : List Fil} {i : Nat} {o : Option Snp} (h : FromL l i o) : FromL l (i + 1) (stepN o (fAt l i)) := by
  intro x hx
  unfold stepN at hx
  split at hx
  · rename_i hg
    split at hx
    · cases hx
      exact ⟨i, by omega, hg, (good_name hg).2.2⟩
    · rename_i y
      split at hx
      · cases hx; exact ⟨i, by omega, hg, (good_name hg).2.2⟩
      · obtain ⟨k, h1, h2⟩ := h y rfl
        cases hx
        exact ⟨k, by omega, h2⟩
  · obtain ⟨k, h1, h2⟩ := h x hx
    exact ⟨k, by omega, h2⟩
theorem from_to (l : List Fil) : ∀ i, FromL l i (nsTo l i)
  | 0 => fun x h => by cases h
  | i + 1 => from_step (from_to l i)
theorem no_tie {l : List Fil} (hd : dkB l = true) {i : Nat} (hi : i < l.length) (hg : goodF (fAt l i) = true) {x : Snp} (hx : nsTo l i = some x) : x.idx ≠ (fIx (fAt l i) : Int) := by
  intro he
  obtain ⟨k, h1, h2, h3⟩ := from_to l i x hx
  refine dk_ne hd h1 hi ?_
  rw [(good_name h2).1, (good_name hg).1]
  congr 1
  omega
theorem step_bad {o : Option Snp} {f : Fil} (h : goodF f = false) : stepN o f = o := by unfold stepN; rw [h]; rfl
theorem step_low {x : Snp} {f : Fil} (h : (fIx f : Int) < x.idx) : stepN (some x) f = some x := by
  unfold stepN
  split
  · simp only; rw [if_neg (by omega)]
  · rfl
theorem step_good {o : Option Snp} {f : Fil} (h : goodF f = true) (h2 : ∀ x, o = some x → x.idx < (fIx f : Int)) : stepN o f = some (snOf f) := by
  unfold stepN
  rw [if_pos h]
  cases o with
  | none => rfl
  | some x => simp only; rw [if_pos (h2 x rfl)]
def bxS (x : Snp) (c : C) : List C := [.v (.int .i64 x.idx), .v (.int .i64 x.term), c, .v (.string x.body)]
theorem snN_rows : vR (ints snN.conf) = [] := rfl

set_option maxHeartbeats 1000000 in
theorem newestI_ok (l : List Fil) (h : filSm l) : PureFn Tryd.prog 8 [.agg [.sh 3 (vR (fils l))]] (nsX (nsO l)) := by
  refine PureFn_of_GoW Tryd.func8 rfl (by decide) mo (by decide +kernel) ?_
  have k0 := diskOkI_ok l h
  obtain ⟨hl, hs⟩ := h
  simp only [Tryd.ntmps8, Tryd.results8, push_cast, seval, fils_length]
  refine GoL_call rfl (by simp only [push_cast, seval, fils_length, fils_take]) k0 rfl rfl ?_
  cases hd : dkB l with
  | false =>
    rw [nsO, hd, if_neg Bool.false_ne_true]
    simp only [Tryd.ntmps8, Tryd.results8, push_cast, seval]
    refine ⟨_, Weak.nilCell (0, 129) (0, 128) 1 2 rfl rfl rfl rfl, ?_⟩
    simp only [Tryd.ntmps8, Tryd.results8, push_cast, seval, nsX, nsS, snN, Snp.enc, List.set, show vR (ints []) = [] from rfl, Option.getD_none]
  | true =>
    rw [nsO, hd, if_pos rfl]
    simp only [Tryd.ntmps8, Tryd.results8, push_cast, seval, fils_length]
    refine Go_loop (α := {i : Nat // i ≤ l.length})
      (fun i => ⟨tp 57 [(1, .x (.one (.pt (0, 64) [] 1 0 0))), (2, .x (.one (.pt (0, 128) [] 4 0 0))), (4, .x (.one (.pt (0, 256) [] 4 0 0))), (5, .x (bo (nsTo l i.1).isSome)), (17, .x (.one (.sh 3 (vR (fils l))))), (18, int l.length), (19, int i.1)], 0,
        [((0, 257), ⟨.sl, 1, vR (ints (nsS (nsTo l i.1)).conf)⟩), ((0, 256), ⟨.box, 4, [bxS (nsS (nsTo l i.1)) (.rs (0, 257) [] 1 0 (nsS (nsTo l i.1)).conf.length)]⟩), ((0, 128), ⟨.box, 4, [[.v (.int .i64 0), .v (.int .i64 0), .v (.slice none 0 0), .v (.string ⟨#[]⟩)]]⟩), ((0, 64), ⟨.box, 1, [[.sh 3 (vR (fils l))]]⟩)], []⟩) (fun i => l.length - i.1) ⟨0, Nat.zero_le _⟩ ?_ ?_
    · refine Weak.trans (Weak.nilCell (0, 257) (0, 256) 1 2 rfl rfl rfl rfl) ?_
      simp only [push_cast, seval, nsTo, nsS, snN, bxS, Int.ofNat_zero, List.set, Option.getD_none, show vR (ints []) = [] from rfl]
      exact Weak.same (by simp only [push_cast, seval])
    · rintro ⟨i, hi⟩ X hX
      simp only
      by_cases hlt : (i : Int) < (l.length : Int)
      · have hi' : i < l.length := by omega
        have hg := fils_getD l hi'
        have hmem := getD_mem' l i hi'
        have ws := wsucc hi' (by omega)
        have hst : nsTo l (i + 1) = stepN (nsTo l i) (l.getD i default) := rfl
        have htie := fun (hg : goodF (fAt l i) = true) (x : Snp) (hx : nsTo l i = some x) => no_tie hd hi' hg hx
        rw [show fAt l i = l.getD i default from rfl] at htie
        obtain ⟨i', hi1⟩ : ∃ i', i' = i + 1 := ⟨_, rfl⟩
        rw [← hi1] at ws hst
        obtain ⟨f, hf⟩ : ∃ f, f = l.getD i default := ⟨_, rfl⟩
        rw [← hf] at hg hmem hst htie
        obtain ⟨x, hx, k1⟩ := snapIndexI_ok f.name (hs f hmem).1
        simp only [push_cast, seval, hlt, fils_length, hi', hg, filV, vR_getD, bxS]
        refine GoL_call rfl rfl k1 rfl rfl ?_
        cases c1 : nmB 115 1000000 f.name with
        | false =>
          have hbad : goodF f = false := by simp [goodF, c1]
          simp only [push_cast, seval, ws]
          refine ⟨_, ?_, hX ⟨i', by omega⟩ (by simp only; omega)⟩
          rw [hst, step_bad hbad]
          exact Weak.drop (by simp only [push_cast, seval, bxS]) (by simp only [push_cast, seval, bxS]) (by simp only [push_cast, seval, bxS])
        | true =>
          have hx := hx c1
          rw [show (nmN 115 f.name : Int) = (fIx f : Int) from rfl] at hx
          subst hx
          cases hon : (nsTo l i).isSome with
          | false =>
            have hno : nsTo l i = none := by cases e : nsTo l i with | none => rfl | some y => rw [e] at hon; cases hon
            simp only [push_cast, seval]
            have kr := readSnapI_ok f.text (hs f hmem).2
            cases c2 : sOk f.text with
            | false =>
              have hbad : goodF f = false := by simp [goodF, c2]
              rw [sR_false c2, snZ] at kr
              refine GoL_call rfl rfl kr rfl rfl ?_
              simp only [push_cast, seval, ws]
              refine ⟨_, ?_, hX ⟨i', by omega⟩ (by simp only; omega)⟩
              rw [hst, step_bad hbad]
              exact Weak.drop (by simp only [push_cast, seval, bxS, hon]) (by simp only [push_cast, seval, bxS, hon]) (by simp only [push_cast, seval, bxS, hon])
            | true =>
              rw [sR_true c2, show (zX (uT f.text) (!uB f.text)) = snOf f from rfl, Snp.enc] at kr
              refine GoL_call rfl rfl kr (by simp only [push_cast, seval]) rfl ?_
              by_cases c3 : (snOf f).idx = (fIx f : Int)
              · have hgood : goodF f = true := by simp [goodF, c1, c2, c3]
                have hlow := step_good (o := nsTo l i) hgood (fun x h => by rw [hno] at h; cases h)
                simp only [push_cast, seval, c3, ws]
                refine ⟨_, ?_, hX ⟨i', by omega⟩ (by simp only; omega)⟩
                rw [hst, hlow]
                refine Weak.trans (σ' := ⟨tp 57 [(1, .x (.one (.pt (0, 64) [] 1 0 0))), (2, .x (.one (.pt (0, 128) [] 4 0 0))), (4, .x (.one (.pt (0, 256) [] 4 0 0))), (5, .x (bo true)), (17, .x (.one (.sh 3 (vR (fils l))))), (18, int l.length), (19, int i')], 0,
                  [((0, 2754), ⟨.sl, 1, vR (ints (snOf f).conf)⟩), ((0, 256), ⟨.box, 4, [bxS (snOf f) (.rs (0, 2754) [] 1 0 (snOf f).conf.length)]⟩), ((0, 128), ⟨.box, 4, [[.v (.int .i64 0), .v (.int .i64 0), .v (.slice none 0 0), .v (.string ⟨#[]⟩)]]⟩), ((0, 64), ⟨.box, 1, [[.sh 3 (vR (fils l))]]⟩)], []⟩) (Weak.drop (by simp only [push_cast, seval, bxS, ints_length, c3]) (by simp only [push_cast, seval, bxS, ints_length, c3]) (by simp only [push_cast, seval, bxS, ints_length, c3])) ?_
                refine Weak.trans (Weak.rename (0, 2754) (0, 257) rfl rfl (by decide) rfl) ?_
                simp only [push_cast, seval, bxS, ren_vR', nsS, Option.getD_some, Option.isSome_some]
                exact Weak.refl _
              · have hbad : goodF f = false := by simp [goodF, c3]
                simp only [push_cast, seval, c3, ws]
                refine ⟨_, ?_, hX ⟨i', by omega⟩ (by simp only; omega)⟩
                rw [hst, step_bad hbad]
                exact Weak.drop (by simp only [push_cast, seval, bxS, hon]) (by simp only [push_cast, seval, bxS, hon]) (by simp only [push_cast, seval, bxS, hon])
          | true =>
            obtain ⟨y, hy⟩ := Option.isSome_iff_exists.1 hon
            have hyS : nsS (nsTo l i) = y := by rw [hy]; rfl
            by_cases c0 : (fIx f : Int) < (nsS (nsTo l i)).idx
            · simp only [push_cast, seval, c0, ws]
              refine ⟨_, ?_, hX ⟨i', by omega⟩ (by simp only; omega)⟩
              rw [hst, show stepN (nsTo l i) f = nsTo l i by rw [hy]; exact step_low (by rw [← hyS]; exact c0)]
              exact Weak.drop (by simp only [push_cast, seval, bxS, hon]) (by simp only [push_cast, seval, bxS, hon]) (by simp only [push_cast, seval, bxS, hon])
            · simp only [push_cast, seval, c0]
              have kr := readSnapI_ok f.text (hs f hmem).2
              cases c2 : sOk f.text with
              | false =>
                have hbad : goodF f = false := by simp [goodF, c2]
                rw [sR_false c2, snZ] at kr
                refine GoL_call rfl rfl kr rfl rfl ?_
                simp only [push_cast, seval, ws]
                refine ⟨_, ?_, hX ⟨i', by omega⟩ (by simp only; omega)⟩
                rw [hst, step_bad hbad]
                exact Weak.drop (by simp only [push_cast, seval, bxS, hon]) (by simp only [push_cast, seval, bxS, hon]) (by simp only [push_cast, seval, bxS, hon])
              | true =>
                rw [sR_true c2, show (zX (uT f.text) (!uB f.text)) = snOf f from rfl, Snp.enc] at kr
                refine GoL_call rfl rfl kr (by simp only [push_cast, seval]) rfl ?_
                by_cases c3 : (snOf f).idx = (fIx f : Int)
                · have hgood : goodF f = true := by simp [goodF, c1, c2, c3]
                  have hlow := step_good (o := nsTo l i) hgood (fun x h => by have := htie hgood x h; rw [hy] at h; cases h; rw [hyS] at c0; omega)
                  simp only [push_cast, seval, c3, ws]
                  refine ⟨_, ?_, hX ⟨i', by omega⟩ (by simp only; omega)⟩
                  rw [hst, hlow]
                  refine Weak.trans (σ' := ⟨tp 57 [(1, .x (.one (.pt (0, 64) [] 1 0 0))), (2, .x (.one (.pt (0, 128) [] 4 0 0))), (4, .x (.one (.pt (0, 256) [] 4 0 0))), (5, .x (bo true)), (17, .x (.one (.sh 3 (vR (fils l))))), (18, int l.length), (19, int i')], 0,
                    [((0, 2754), ⟨.sl, 1, vR (ints (snOf f).conf)⟩), ((0, 256), ⟨.box, 4, [bxS (snOf f) (.rs (0, 2754) [] 1 0 (snOf f).conf.length)]⟩), ((0, 128), ⟨.box, 4, [[.v (.int .i64 0), .v (.int .i64 0), .v (.slice none 0 0), .v (.string ⟨#[]⟩)]]⟩), ((0, 64), ⟨.box, 1, [[.sh 3 (vR (fils l))]]⟩)], []⟩) (Weak.drop (by simp only [push_cast, seval, bxS, ints_length, c3]) (by simp only [push_cast, seval, bxS, ints_length, c3]) (by simp only [push_cast, seval, bxS, ints_length, c3])) ?_
                  refine Weak.trans (Weak.rename (0, 2754) (0, 257) rfl rfl (by decide) rfl) ?_
                  simp only [push_cast, seval, bxS, ren_vR', nsS, Option.getD_some, Option.isSome_some]
                  exact Weak.refl _
                · have hbad : goodF f = false := by simp [goodF, c3]
                  simp only [push_cast, seval, c3, ws]
                  refine ⟨_, ?_, hX ⟨i', by omega⟩ (by simp only; omega)⟩
                  rw [hst, step_bad hbad]
                  exact Weak.drop (by simp only [push_cast, seval, bxS, hon]) (by simp only [push_cast, seval, bxS, hon]) (by simp only [push_cast, seval, bxS, hon])
      · obtain rfl : i = l.length := by omega
        have ht := ints_take (nsS (nsTo l l.length)).conf
        simp only [Tryd.ntmps8, Tryd.results8, push_cast, seval, hlt, bxS]
        refine ⟨_, Weak.refl _, ?_⟩
        simp only [Tryd.ntmps8, Tryd.results8, push_cast, seval, nsX, Snp.enc, ints_length, ht]
end Go.Proofs.YtennhlaibefacaaDoor

