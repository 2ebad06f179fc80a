/- The newest snapshot, by the document. -/
import Derived.Test.YtennhlaibefacaaDoorK6
namespace Go.Proofs.YtennhlaibefacaaDoor
open Go.RowKit Go.Rx
set_option linter.unusedSimpArgs false
set_option maxRecDepth 100000

def snP : Snp := ⟨-1, 0, [], ⟨#[]⟩⟩
def nsP (o : Option Snp) : Snp := o.getD snP
theorem idx_pos {l : List Fil} {i : Nat} {x : Snp} (h : nsTo l i = some x) : 0 ≤ x.idx := by
  obtain ⟨k, _, _, h3⟩ := from_to l i x h
  omega
theorem step_stay {o : Option Snp} {f : Fil} (h : ¬ (nsP o).idx < (fIx f : Int)) (hp : ∀ x, o = some x → 0 ≤ x.idx) : stepN o f = o := by
  cases o with
  | none => exfalso; exact h (by show (-1 : Int) < _; omega)
  | some x =>
    unfold stepN
    split
    · simp only; rw [if_neg (show ¬ x.idx < _ from h)]
    · rfl

set_option maxHeartbeats 1000000 in
theorem newestS_ok (l : List Fil) (h : filSm l) : PureFn Tryd.prog 6 [.agg [.sh 3 (vR (fils l))]] (nsX (nsO l)) := by
  refine PureFn_of_GoW Tryd.func6 rfl (by decide) mo (by decide +kernel) ?_
  have k0 := diskOkS_ok l h
  obtain ⟨hl, hs⟩ := h
  simp only [Tryd.ntmps6, Tryd.results6, push_cast, seval]
  cases hd : dkB l with
  | false =>
    rw [nsO, hd, if_neg Bool.false_ne_true]
    rw [hd] at k0
    refine Go_loop (α := Unit) (fun _ => ⟨tp 61 [(1, .x (.one (.pt (0, 64) [] 1 0 0))), (2, .x (.one (.pt (0, 128) [] 4 0 0))), (4, .x (.one (.pt (0, 256) [] 4 0 0))), (5, int 0)], 0,
        [((0, 256), ⟨.box, 4, [[.v (.int .i64 (-1)), .v (.int .i64 0), .v (.slice none 0 0), .v (.string ⟨#[]⟩)]]⟩), ((0, 128), ⟨.box, 4, [[.v (.int .i64 0), .v (.int .i64 0), .v (.slice none 0 0), .v (.string ⟨#[]⟩)]]⟩), ((0, 64), ⟨.box, 1, [[.sh 3 (vR (fils l))]]⟩)], []⟩) (fun _ => 0) () ?_ ?_
    · exact Weak.same (by simp only [push_cast, seval, Int.ofNat_zero])
    · rintro _ X hX
      have hlt : (0 : Int) < (l.length : Int) := by
        rcases Nat.eq_zero_or_pos l.length with e | e
        · rw [List.eq_nil_of_length_eq_zero e] at hd; cases hd
        · omega
      simp only [push_cast, seval, hlt, fils_length]
      refine GoL_call rfl (by simp only [push_cast, seval, fils_length, fils_take]) k0 rfl rfl ?_
      simp only [Tryd.ntmps6, Tryd.results6, push_cast, seval]
      refine ⟨_, Weak.nilCell (0, 129) (0, 128) 1 2 rfl rfl rfl rfl, ?_⟩
      simp only [Tryd.ntmps6, Tryd.results6, push_cast, seval, nsX, nsS, snN, Snp.enc, List.set, show vR (ints []) = [] from rfl, Option.getD_none]
  | true =>
    rw [nsO, hd, if_pos rfl]
    rw [hd] at k0
    refine Go_loop (α := {i : Nat // i ≤ l.length})
      (fun i => ⟨tp 61 [(1, .x (.one (.pt (0, 64) [] 1 0 0))), (2, .x (.one (.pt (0, 128) [] 4 0 0))), (4, .x (.one (.pt (0, 256) [] 4 0 0))), (5, int i.1)], 0,
        [((0, 257), ⟨.sl, 1, vR (ints (nsP (nsTo l i.1)).conf)⟩), ((0, 256), ⟨.box, 4, [bxS (nsP (nsTo l i.1)) (.rs (0, 257) [] 1 0 (nsP (nsTo l i.1)).conf.length)]⟩), ((0, 128), ⟨.box, 4, [[.v (.int .i64 0), .v (.int .i64 0), .v (.slice none 0 0), .v (.string ⟨#[]⟩)]]⟩), ((0, 64), ⟨.box, 1, [[.sh 3 (vR (fils l))]]⟩)], []⟩) (fun i => l.length - i.1) ⟨0, Nat.zero_le _⟩ ?_ ?_
    · refine Weak.trans (Weak.nilCell (0, 257) (0, 256) 1 2 rfl rfl rfl rfl) ?_
      simp only [push_cast, seval, nsTo, nsP, snP, bxS, Int.ofNat_zero, List.set, Option.getD_none, show vR (ints []) = [] from rfl]
      exact Weak.same (by simp only [push_cast, seval])
    · rintro ⟨i, hi⟩ X hX
      simp only
      by_cases hlt : (i : Int) < (l.length : Int)
      · have hi' : i < l.length := by omega
        have hg := fils_getD l hi'
        have hmem := getD_mem' l i hi'
        have ws := wsucc hi' (by omega)
        have hst : nsTo l (i + 1) = stepN (nsTo l i) (l.getD i default) := rfl
        have hpos := fun x (h : nsTo l i = some x) => idx_pos h
        obtain ⟨i', hi1⟩ : ∃ i', i' = i + 1 := ⟨_, rfl⟩
        rw [← hi1] at ws hst
        obtain ⟨f, hf⟩ : ∃ f, f = l.getD i default := ⟨_, rfl⟩
        rw [← hf] at hg hmem hst
        have k1 := l08Index_ok f.name (hs f hmem).1
        have kr := readSnapS_ok f.text (hs f hmem).2
        simp only [push_cast, seval, hlt, fils_length, bxS]
        refine GoL_call rfl (by simp only [push_cast, seval, fils_length, fils_take]) k0 rfl rfl ?_
        simp only [push_cast, seval, hlt, fils_length, hi', hg, filV, vR_getD]
        refine GoL_call rfl rfl k1 rfl rfl ?_
        simp only [push_cast, seval, hlt, fils_length, hi', hg, filV, vR_getD]
        cases c2 : sOk f.text with
        | false =>
          have hbad : goodF f = false := by simp [goodF, c2]
          rw [sR_false c2, snZ] at kr
          refine GoL_call rfl rfl kr rfl rfl ?_
          cases c1 : nmB 115 1000000 f.name with
          | false =>
            simp only [push_cast, seval, ws, if_neg Bool.false_ne_true]
            refine ⟨_, ?_, hX ⟨i', by omega⟩ (by simp only; omega)⟩
            rw [hst, step_bad hbad]
            exact Weak.drop (by simp only [push_cast, seval, bxS]) (by simp only [push_cast, seval, bxS]) (by simp only [push_cast, seval, bxS])
          | true =>
            have hn0 : (0 : Int) ≤ (nmN 115 f.name : Int) := by omega
            simp only [push_cast, seval, ws, if_pos rfl, hn0]
            refine ⟨_, ?_, hX ⟨i', by omega⟩ (by simp only; omega)⟩
            rw [hst, step_bad hbad]
            exact Weak.drop (by simp only [push_cast, seval, bxS]) (by simp only [push_cast, seval, bxS]) (by simp only [push_cast, seval, bxS])
        | true =>
          rw [sR_true c2, show (zX (uT f.text) (!uB f.text)) = snOf f from rfl, Snp.enc] at kr
          refine GoL_call rfl rfl kr (by simp only [push_cast, seval]) rfl ?_
          cases c1 : nmB 115 1000000 f.name with
          | false =>
            have hbad : goodF f = false := by simp [goodF, c1]
            simp only [push_cast, seval, ws, if_neg Bool.false_ne_true]
            refine ⟨_, ?_, hX ⟨i', by omega⟩ (by simp only; omega)⟩
            rw [hst, step_bad hbad]
            exact Weak.drop (by simp only [push_cast, seval, bxS]) (by simp only [push_cast, seval, bxS]) (by simp only [push_cast, seval, bxS])
          | true =>
            have hn0 : (0 : Int) ≤ (nmN 115 f.name : Int) := by omega
            by_cases c3 : (snOf f).idx = (nmN 115 f.name : Int)
            · have hgood : goodF f = true := by
                rw [show (nmN 115 f.name : Int) = (fIx f : Int) from rfl] at c3
                simp [goodF, c1, c2, c3]
              by_cases c4 : (nsP (nsTo l i)).idx < (nmN 115 f.name : Int)
              · have hlow := step_good (o := nsTo l i) hgood (fun x h => by rw [h] at c4; exact c4)
                simp only [push_cast, seval, ws, if_pos rfl, hn0, c3, c4]
                refine ⟨_, ?_, hX ⟨i', by omega⟩ (by simp only; omega)⟩
                rw [hst, hlow]
                refine Weak.trans (σ' := ⟨tp 61 [(1, .x (.one (.pt (0, 64) [] 1 0 0))), (2, .x (.one (.pt (0, 128) [] 4 0 0))), (4, .x (.one (.pt (0, 256) [] 4 0 0))), (5, int i')], 0,
                  [((0, 2242), ⟨.sl, 1, vR (ints (snOf f).conf)⟩), ((0, 256), ⟨.box, 4, [bxS (snOf f) (.rs (0, 2242) [] 1 0 (snOf f).conf.length)]⟩), ((0, 128), ⟨.box, 4, [[.v (.int .i64 0), .v (.int .i64 0), .v (.slice none 0 0), .v (.string ⟨#[]⟩)]]⟩), ((0, 64), ⟨.box, 1, [[.sh 3 (vR (fils l))]]⟩)], []⟩) (Weak.drop (by simp only [push_cast, seval, bxS, ints_length, c3]) (by simp only [push_cast, seval, bxS, ints_length, c3]) (by simp only [push_cast, seval, bxS, ints_length, c3])) ?_
                refine Weak.trans (Weak.rename (0, 2242) (0, 257) rfl rfl (by decide) rfl) ?_
                simp only [push_cast, seval, bxS, ren_vR', nsP, Option.getD_some]
                exact Weak.refl _
              · simp only [push_cast, seval, ws, if_pos rfl, hn0, c3, c4]
                refine ⟨_, ?_, hX ⟨i', by omega⟩ (by simp only; omega)⟩
                rw [hst, step_stay c4 hpos]
                exact Weak.drop (by simp only [push_cast, seval, bxS]) (by simp only [push_cast, seval, bxS]) (by simp only [push_cast, seval, bxS])
            · have hbad : goodF f = false := by
                rw [show (nmN 115 f.name : Int) = (fIx f : Int) from rfl] at c3
                simp [goodF, c3]
              simp only [push_cast, seval, ws, if_pos rfl, hn0, c3]
              refine ⟨_, ?_, hX ⟨i', by omega⟩ (by simp only; omega)⟩
              rw [hst, step_bad hbad]
              exact Weak.drop (by simp only [push_cast, seval, bxS]) (by simp only [push_cast, seval, bxS]) (by simp only [push_cast, seval, bxS])
      · obtain rfl : i = l.length := by omega
        cases ho : nsTo l l.length with
        | none =>
          simp only [Tryd.ntmps6, Tryd.results6, push_cast, seval, hlt, fils_length, bxS, nsP, snP, Option.getD_none]
          refine ⟨_, Weak.nilCell (0, 129) (0, 128) 1 2 rfl rfl rfl rfl, ?_⟩
          simp only [Tryd.ntmps6, Tryd.results6, push_cast, seval, nsX, nsS, snN, Snp.enc, List.set, show vR (ints []) = [] from rfl, Option.getD_none]
        | some x =>
          have h0 : ¬ x.idx < 0 := by have := idx_pos ho; omega
          have ht := ints_take x.conf
          simp only [Tryd.ntmps6, Tryd.results6, push_cast, seval, hlt, fils_length, bxS, nsP, Option.getD_some, h0]
          refine ⟨_, Weak.refl _, ?_⟩
          simp only [Tryd.ntmps6, Tryd.results6, push_cast, seval, nsX, nsS, Snp.enc, ints_length, ht, Option.getD_some, Option.isSome_some]
end Go.Proofs.YtennhlaibefacaaDoor

