/- Entries, the document's way. -/
import Derived.Test.YtcdjpfikpliagaaV4
namespace Go.Proofs.Ytcdjpfikpliagaa
open Go.RowKit Go.Rx
set_option linter.unusedSimpArgs false
set_option maxRecDepth 100000

/-! ### what stands at an index -/
def first : List Ap → Int → Option Ent
  | [], _ => none
  | a :: l, j => if a.index = j then some a.e else first l j
theorem first_none {j : Int} : ∀ {l : List Ap}, (∀ i, i < l.length → ix l i ≠ j) → first l j = none
  | [], _ => rfl
  | a :: l, h => by
    have h0 : a.index ≠ j := h 0 (by simp)
    rw [first, if_neg h0]
    exact first_none fun i hi => h (i + 1) (by simpa using hi)
theorem first_at {j : Int} : ∀ {l : List Ap} {i : Nat}, i < l.length → ix l i = j → (∀ k, k < i → ix l k ≠ j) → first l j = some (en l i)
  | a :: l, 0, _, h, _ => by
    have h0 : a.index = j := h
    rw [first, if_pos h0]; rfl
  | a :: l, i + 1, hi, h, hno => by
    have h0 : a.index ≠ j := hno 0 (by omega)
    rw [first, if_neg h0]
    exact first_at (by simpa using hi) h fun k hk => hno (k + 1) (by omega)
theorem first_some {j : Int} {e : Ent} : ∀ {l : List Ap}, first l j = some e → ∃ i, i < l.length ∧ ix l i = j ∧ en l i = e
  | [], h => by cases h
  | a :: l, h => by
    unfold first at h
    split at h
    · rename_i c
      cases h
      exact ⟨0, by simp, c, rfl⟩
    · obtain ⟨i, h1, h2, h3⟩ := first_some h
      exact ⟨i + 1, by simpa using h1, h2, h3⟩
theorem first_filter {c j : Int} (h : j ≠ c) : ∀ l : List Ap, first (l.filter fun a => decide (a.index ≠ c)) j = first l j
  | [] => rfl
  | a :: l => by
    by_cases h1 : a.index = c
    · rw [List.filter_cons_of_neg (by simp [h1]), first_filter h l, first, if_neg (by rw [h1]; exact Ne.symm h)]
    · rw [List.filter_cons_of_pos (by simp [h1]), first, first, first_filter h l]
theorem pig : ∀ (m : Nat) (l : List Ap), (∀ j : Nat, 1 ≤ j → j ≤ m → first l (j : Int) ≠ none) → m ≤ l.length
  | 0, _, _ => Nat.zero_le _
  | m + 1, l, h => by
    have h1 := h (m + 1) (by omega) (by omega)
    obtain ⟨e, he⟩ := Option.ne_none_iff_exists'.1 h1
    obtain ⟨i, h2, h3, _⟩ := first_some he
    have h4 := pig m (l.filter fun a => decide (a.index ≠ ((m + 1 : Nat) : Int))) fun j hj hjm => by
      rw [first_filter (by omega)]; exact h j hj (by omega)
    have h5 : (l.filter fun a => decide (a.index ≠ ((m + 1 : Nat) : Int))).length < l.length := by
      rw [List.length_filter_lt_length_iff_exists]
      exact ⟨l.getD i default, getD_mem' l i h2, by simp; exact h3⟩
    omega

/-! ### the entries from the first on -/
def seqE (l : List Ap) : Nat → Nat → List Ent
  | 0, _ => []
  | f + 1, j => match first l (j : Int) with
    | none => []
    | some e => e :: seqE l f (j + 1)
def EE (l : List Ap) : List Ent := seqE l (l.length + 1) 1
structure Sq (l : List Ap) (out : List Ent) : Prop where
  le : out.length ≤ l.length
  has : ∀ j : Nat, 1 ≤ j → j ≤ out.length → first l (j : Int) ≠ none
  eq : out ++ seqE l (l.length + 1 - out.length) (out.length + 1) = EE l
theorem Sq.nil (l : List Ap) : Sq l [] := ⟨Nat.zero_le _, fun j h1 h2 => by simp at h2; omega, rfl⟩
theorem Sq.step {l : List Ap} {out : List Ent} {e : Ent} (h : Sq l out) (he : first l ((out.length + 1 : Nat) : Int) = some e) : Sq l (out ++ [e]) := by
  have hh : ∀ j : Nat, 1 ≤ j → j ≤ out.length + 1 → first l (j : Int) ≠ none := fun j h1 h2 => by
    by_cases c : j = out.length + 1
    · rw [c, he]; simp
    · exact h.has j h1 (by omega)
  have hle := pig _ l hh
  refine ⟨by simpa using hle, fun j h1 h2 => hh j h1 (by simpa using h2), ?_⟩
  rw [← h.eq, show l.length + 1 - out.length = (l.length + 1 - (out.length + 1)) + 1 by omega]
  simp only [seqE, he, List.length_append, List.length_cons, List.length_nil, List.append_assoc, List.cons_append, List.nil_append, Nat.zero_add]
theorem Sq.done {l : List Ap} {out : List Ent} (h : Sq l out) (he : first l ((out.length + 1 : Nat) : Int) = none) : out = EE l := by
  have := h.le
  rw [← h.eq, show l.length + 1 - out.length = (l.length - out.length) + 1 by omega]
  simp only [seqE, he, List.append_nil]
def enE (l : List Ap) : List Ent := if saB l then EE l else []
def enR (l : List Ap) : List X := [.one (.own 3 (vR (ents (enE l)))), bo (saB l)]
theorem ents_app (l : List Ent) (e : Ent) : vR (ents l) ++ [[.v (.int .i64 e.term), .v (.int .i64 e.kind), .v (.string e.data)]] = vR (ents (l ++ [e])) := by
  simp [vR, ents, entV]
theorem ents_nil : vR (ents []) = [] := rfl
set_option maxHeartbeats 1000000 in
theorem entriesS_ok (l : List Ap) (hl : l.length ≤ 1048576) : PureFn Try.prog 16 [.one (.sh 6 (vR (aps l)))] (enR l) := by
  refine PureFn_of_Go Try.func16 rfl (by decide) mo (by decide +kernel) ?_
  have ks := sameAppliedS_ok l hl
  unfold enR enE
  simp only [Try.ntmps16, Try.results16, push_cast, Nat.reduceAdd, Nat.reduceSub, Nat.reduceMul, Nat.reduceLeDiff, Nat.reduceEqDiff, Nat.reduceLT, Int.reduceLT, Int.reduceLE, Int.reduceEq, Int.reduceNeg, Int.reduceToNat]
  refine GoL_call rfl rfl ks rfl rfl ?_
  cases hb : saB l with
  | false =>
    simp only [Try.ntmps16, Try.results16, push_cast, Nat.reduceAdd, Nat.reduceSub, Nat.reduceMul, Nat.reduceLeDiff, Nat.reduceEqDiff, Nat.reduceLT, Int.reduceLT, Int.reduceLE, Int.reduceEq, Int.reduceNeg, Int.reduceToNat, Bool.false_eq_true, ents_nil]
  | true =>
  simp only [Try.ntmps16, Try.results16, push_cast, Nat.reduceAdd, Nat.reduceSub, Nat.reduceMul, Nat.reduceLeDiff, Nat.reduceEqDiff, Nat.reduceLT, Int.reduceLT, Int.reduceLE, Int.reduceEq, Int.reduceNeg, Int.reduceToNat]
  refine Go_loop (α := {p : List Ent × Bool // Sq l p.1 ∧ (p.2 = false → first l ((p.1.length + 1 : Nat) : Int) = none)})
    (fun p => ⟨tp 41 [(0, .x (.one (.sh 6 (vR (aps l))))), (4, .x (.one (.rs (0, 2496) [] 3 0 p.1.1.length))), (5, .x (bo p.1.2))], 0, [((0, 2496), ⟨.sl, 3, vR (ents p.1.1)⟩)], []⟩)
    (fun p => 2 * (l.length + 1 - p.1.1.length) + (if p.1.2 then 1 else 0)) ⟨([], true), Sq.nil l, fun h => by cases h⟩ ?_ ?_
  · refine Weak.trans (Weak.rename (0, 448) (0, 2496) rfl rfl (by decide) rfl) ?_
    simp only [push_cast, Nat.reduceAdd, Nat.reduceSub, Nat.reduceMul, Nat.reduceLeDiff, Nat.reduceEqDiff, Nat.reduceLT, Int.reduceLT, Int.reduceLE, Int.reduceEq, Int.reduceNeg, Int.reduceToNat, ents_nil]
    exact Weak.drop (by simp only [push_cast, Nat.reduceAdd, Nat.reduceSub, Nat.reduceMul, Nat.reduceLeDiff, Nat.reduceEqDiff, Nat.reduceLT, Int.reduceLT, Int.reduceLE, Int.reduceEq, Int.reduceNeg, Int.reduceToNat, ents_nil]) (by simp only [push_cast, Nat.reduceAdd, Nat.reduceSub, Nat.reduceMul, Nat.reduceLeDiff, Nat.reduceEqDiff, Nat.reduceLT, Int.reduceLT, Int.reduceLE, Int.reduceEq, Int.reduceNeg, Int.reduceToNat, ents_nil]) (by simp only [push_cast, Nat.reduceAdd, Nat.reduceSub, Nat.reduceMul, Nat.reduceLeDiff, Nat.reduceEqDiff, Nat.reduceLT, Int.reduceLT, Int.reduceLE, Int.reduceEq, Int.reduceNeg, Int.reduceToNat, ents_nil])
  · rintro ⟨⟨out, found⟩, hsq, hend⟩ X hX
    simp only at hsq hend
    cases found with
    | false =>
      have hout := hsq.done (hend rfl)
      rw [← hout]
      simp only [Try.ntmps16, Try.results16, push_cast, Nat.reduceAdd, Nat.reduceSub, Nat.reduceMul, Nat.reduceLeDiff, Nat.reduceEqDiff, Nat.reduceLT, Int.reduceLT, Int.reduceLE, Int.reduceEq, Int.reduceNeg, Int.reduceToNat, ents_length]
    | true =>
      have hle := hsq.le
      have wl : IntKind.i64.wrap ((out.length : Int) + 1) = ((out.length + 1 : Nat) : Int) := wN (by omega) (by omega)
      obtain ⟨j, hj⟩ : ∃ j, j = out.length + 1 := ⟨_, rfl⟩
      simp only [push_cast, Nat.reduceAdd, Nat.reduceSub, Nat.reduceMul, Nat.reduceLeDiff, Nat.reduceEqDiff, Nat.reduceLT, Int.reduceLT, Int.reduceLE, Int.reduceEq, Int.reduceNeg, Int.reduceToNat]
      refine Go_loop (α := {q : Nat × List Ent × Bool // q.1 ≤ l.length ∧ ((q.2.2 = false ∧ q.2.1 = out ∧ ∀ k, k < q.1 → ix l k ≠ (j : Int)) ∨ (q.2.2 = true ∧ ∃ e, first l (j : Int) = some e ∧ q.2.1 = out ++ [e]))})
        (fun q => ⟨tp 41 [(0, .x (.one (.sh 6 (vR (aps l))))), (4, .x (.one (.rs (0, 2496) [] 3 0 q.1.2.1.length))), (5, .x (bo q.1.2.2)), (6, int q.1.1)], 0, [((0, 2496), ⟨.sl, 3, vR (ents q.1.2.1)⟩)], []⟩)
        (fun q => l.length - q.1.1) ⟨(0, out, false), Nat.zero_le _, .inl ⟨rfl, rfl, fun k hk => by simp only at hk; omega⟩⟩ ?_ ?_
      · exact Weak.drop (by simp only [push_cast, Nat.reduceAdd, Nat.reduceSub, Nat.reduceMul, Nat.reduceLeDiff, Nat.reduceEqDiff, Nat.reduceLT, Int.reduceLT, Int.reduceLE, Int.reduceEq, Int.reduceNeg, Int.reduceToNat, Int.ofNat_zero]) (by simp only [push_cast, Nat.reduceAdd, Nat.reduceSub, Nat.reduceMul, Nat.reduceLeDiff, Nat.reduceEqDiff, Nat.reduceLT, Int.reduceLT, Int.reduceLE, Int.reduceEq, Int.reduceNeg, Int.reduceToNat, Int.ofNat_zero]) (by simp only [push_cast, Nat.reduceAdd, Nat.reduceSub, Nat.reduceMul, Nat.reduceLeDiff, Nat.reduceEqDiff, Nat.reduceLT, Int.reduceLT, Int.reduceLE, Int.reduceEq, Int.reduceNeg, Int.reduceToNat, Int.ofNat_zero])
      · rintro ⟨⟨i, out', f'⟩, hi, hinv⟩ Y hY
        simp only at hi hinv
        rcases hinv with ⟨rfl, rfl, hno⟩ | ⟨rfl, e, he, rfl⟩
        · by_cases hlt : (i : Int) < (l.length : Int)
          · have hi' : i < l.length := by omega
            have ws := wsucc hi' (by omega)
            have hgi := aps_getD l hi'
            obtain ⟨a, ha⟩ : ∃ a, a = l.getD i default := ⟨_, rfl⟩
            have hai : ix l i = a.index := by rw [ix, ← ha]
            have hae : en l i = a.e := by rw [en, ← ha]
            rw [← ha] at hgi
            obtain ⟨i', hi1⟩ : ∃ i', i' = i + 1 := ⟨_, rfl⟩
            rw [← hi1] at ws
            rw [← hj] at wl
            cases c1 : decide (a.index = (j : Int)) with
            | false =>
              simp only [push_cast, Nat.reduceAdd, Nat.reduceSub, Nat.reduceMul, Nat.reduceLeDiff, Nat.reduceEqDiff, Nat.reduceLT, Int.reduceLT, Int.reduceLE, Int.reduceEq, Int.reduceNeg, Int.reduceToNat, aps_length, ents_length, hlt, hi', hgi, apV, vR_getD, wl, c1, ws]
              refine ⟨_, ?_, hY ⟨(i', out', false), by simp only; omega, .inl ⟨rfl, rfl, fun k hk => ?_⟩⟩ (by simp only; omega)⟩
              · exact Weak.drop (by simp only [push_cast, Nat.reduceAdd, Nat.reduceSub, Nat.reduceMul, Nat.reduceLeDiff, Nat.reduceEqDiff, Nat.reduceLT, Int.reduceLT, Int.reduceLE, Int.reduceEq, Int.reduceNeg, Int.reduceToNat]) (by simp only [push_cast, Nat.reduceAdd, Nat.reduceSub, Nat.reduceMul, Nat.reduceLeDiff, Nat.reduceEqDiff, Nat.reduceLT, Int.reduceLT, Int.reduceLE, Int.reduceEq, Int.reduceNeg, Int.reduceToNat]) (by simp only [push_cast, Nat.reduceAdd, Nat.reduceSub, Nat.reduceMul, Nat.reduceLeDiff, Nat.reduceEqDiff, Nat.reduceLT, Int.reduceLT, Int.reduceLE, Int.reduceEq, Int.reduceNeg, Int.reduceToNat])
              · simp only at hk
                by_cases ek : k = i
                · rw [ek, hai]; exact of_decide_eq_false c1
                · exact hno k (by omega)
            | true =>
              have c1' := of_decide_eq_true c1
              have hf : first l (j : Int) = some a.e := by rw [← hae]; exact first_at hi' (by rw [hai]; exact c1') hno
              have happ := ents_app out' a.e
              have x1 : out'.length + 1 ≤ 4294967296 := by omega
              have x2 := max_len x1
              have x3 := room_le (b := 32) x1 (by decide)
              simp only [push_cast, Nat.reduceAdd, Nat.reduceSub, Nat.reduceMul, Nat.reduceLeDiff, Nat.reduceEqDiff, Nat.reduceLT, Int.reduceLT, Int.reduceLE, Int.reduceEq, Int.reduceNeg, Int.reduceToNat, aps_length, ents_length, hlt, hi', hgi, apV, vR_getD, wl, c1, x1, x2, x3, happ, ws]
              refine ⟨_, ?_, hY ⟨(i', out' ++ [a.e], true), by simp only; omega, .inr ⟨rfl, a.e, hf, rfl⟩⟩ (by simp only; omega)⟩
              exact Weak.drop (by simp only [push_cast, Nat.reduceAdd, Nat.reduceSub, Nat.reduceMul, Nat.reduceLeDiff, Nat.reduceEqDiff, Nat.reduceLT, Int.reduceLT, Int.reduceLE, Int.reduceEq, Int.reduceNeg, Int.reduceToNat, List.length_append, List.length_cons, List.length_nil]) (by simp only [push_cast, Nat.reduceAdd, Nat.reduceSub, Nat.reduceMul, Nat.reduceLeDiff, Nat.reduceEqDiff, Nat.reduceLT, Int.reduceLT, Int.reduceLE, Int.reduceEq, Int.reduceNeg, Int.reduceToNat, List.length_append, List.length_cons, List.length_nil]) (by simp only [push_cast, Nat.reduceAdd, Nat.reduceSub, Nat.reduceMul, Nat.reduceLeDiff, Nat.reduceEqDiff, Nat.reduceLT, Int.reduceLT, Int.reduceLE, Int.reduceEq, Int.reduceNeg, Int.reduceToNat, List.length_append, List.length_cons, List.length_nil])
          · have hnone : first l ((out'.length + 1 : Nat) : Int) = none := first_none fun k hk => by rw [← hj]; exact hno k (by omega)
            simp only [push_cast, Nat.reduceAdd, Nat.reduceSub, Nat.reduceMul, Nat.reduceLeDiff, Nat.reduceEqDiff, Nat.reduceLT, Int.reduceLT, Int.reduceLE, Int.reduceEq, Int.reduceNeg, Int.reduceToNat, aps_length, hlt]
            refine ⟨_, ?_, hX ⟨(out', false), hsq, fun _ => hnone⟩ (by simp)⟩
            exact Weak.drop (by simp only [push_cast, Nat.reduceAdd, Nat.reduceSub, Nat.reduceMul, Nat.reduceLeDiff, Nat.reduceEqDiff, Nat.reduceLT, Int.reduceLT, Int.reduceLE, Int.reduceEq, Int.reduceNeg, Int.reduceToNat]) (by simp only [push_cast, Nat.reduceAdd, Nat.reduceSub, Nat.reduceMul, Nat.reduceLeDiff, Nat.reduceEqDiff, Nat.reduceLT, Int.reduceLT, Int.reduceLE, Int.reduceEq, Int.reduceNeg, Int.reduceToNat]) (by simp only [push_cast, Nat.reduceAdd, Nat.reduceSub, Nat.reduceMul, Nat.reduceLeDiff, Nat.reduceEqDiff, Nat.reduceLT, Int.reduceLT, Int.reduceLE, Int.reduceEq, Int.reduceNeg, Int.reduceToNat])
        · rw [hj] at he
          have hsq' := hsq.step he
          have hgo := hX ⟨(out ++ [e], true), hsq', fun h => by cases h⟩ (by simp only [List.length_append, List.length_cons, List.length_nil, if_true]; omega)
          by_cases hlt : (i : Int) < (l.length : Int)
          · simp only [push_cast, Nat.reduceAdd, Nat.reduceSub, Nat.reduceMul, Nat.reduceLeDiff, Nat.reduceEqDiff, Nat.reduceLT, Int.reduceLT, Int.reduceLE, Int.reduceEq, Int.reduceNeg, Int.reduceToNat, aps_length, hlt]
            refine ⟨_, ?_, hgo⟩
            exact Weak.drop (by simp only [push_cast, Nat.reduceAdd, Nat.reduceSub, Nat.reduceMul, Nat.reduceLeDiff, Nat.reduceEqDiff, Nat.reduceLT, Int.reduceLT, Int.reduceLE, Int.reduceEq, Int.reduceNeg, Int.reduceToNat]) (by simp only [push_cast, Nat.reduceAdd, Nat.reduceSub, Nat.reduceMul, Nat.reduceLeDiff, Nat.reduceEqDiff, Nat.reduceLT, Int.reduceLT, Int.reduceLE, Int.reduceEq, Int.reduceNeg, Int.reduceToNat]) (by simp only [push_cast, Nat.reduceAdd, Nat.reduceSub, Nat.reduceMul, Nat.reduceLeDiff, Nat.reduceEqDiff, Nat.reduceLT, Int.reduceLT, Int.reduceLE, Int.reduceEq, Int.reduceNeg, Int.reduceToNat])
          · simp only [push_cast, Nat.reduceAdd, Nat.reduceSub, Nat.reduceMul, Nat.reduceLeDiff, Nat.reduceEqDiff, Nat.reduceLT, Int.reduceLT, Int.reduceLE, Int.reduceEq, Int.reduceNeg, Int.reduceToNat, aps_length, hlt]
            refine ⟨_, ?_, hgo⟩
            exact Weak.drop (by simp only [push_cast, Nat.reduceAdd, Nat.reduceSub, Nat.reduceMul, Nat.reduceLeDiff, Nat.reduceEqDiff, Nat.reduceLT, Int.reduceLT, Int.reduceLE, Int.reduceEq, Int.reduceNeg, Int.reduceToNat]) (by simp only [push_cast, Nat.reduceAdd, Nat.reduceSub, Nat.reduceMul, Nat.reduceLeDiff, Nat.reduceEqDiff, Nat.reduceLT, Int.reduceLT, Int.reduceLE, Int.reduceEq, Int.reduceNeg, Int.reduceToNat]) (by simp only [push_cast, Nat.reduceAdd, Nat.reduceSub, Nat.reduceMul, Nat.reduceLeDiff, Nat.reduceEqDiff, Nat.reduceLT, Int.reduceLT, Int.reduceLE, Int.reduceEq, Int.reduceNeg, Int.reduceToNat])
end Go.Proofs.Ytcdjpfikpliagaa
