/- Forgetting (temporaries, roots). -/
import Derived.Test.YtbnabpmfdnfigaaRxK
namespace Go.Rx
open Go.RowKit

theorem nrRR_all (R : List (List C)) : nrRR R = R.all nrR := by induction R <;> simp_all [nrRR]

theorem getD_flat (cells : Array Value) (n : Nat) (h : n < cells.size) : cells.toList.getD n undef = cells.getD n undef := by
  simp [List.getD_eq_getElem?_getD, Array.getD, h]

def T2 : List V → List V → Prop
  | [], [] => True
  | a :: as, b :: bs => (b = a ∨ b = .x (.one .bad)) ∧ T2 as bs
  | _, _ => False

theorem T2_len : ∀ {t t' : List V}, T2 t t' → t'.length = t.length
  | [], [], _ => rfl
  | _ :: _, _ :: _, h => by simp [T2_len h.2]
theorem T2_get : ∀ {t t' : List V}, T2 t t' → ∀ i, t'.getD i (.x (.one .bad)) = t.getD i (.x (.one .bad)) ∨ t'.getD i (.x (.one .bad)) = .x (.one .bad)
  | [], [], _, _ => .inl rfl
  | _ :: _, _ :: _, h, 0 => h.1
  | _ :: _, _ :: _, h, i + 1 => T2_get h.2 i

/-- All references to the activation's own roots that are left are to roots that are left. -/
def refOkC (d : Nat) (l : Store) (c : C) : Bool := match refRoot c with | some r => decide (r.1 ≠ d) || (getA l r).isSome | none => true
def refOkX (d : Nat) (l : Store) : X → Bool
  | .one c => refOkC d l c
  | .agg cs => cs.all (refOkC d l)
def refOkV (d : Nat) (l : Store) : V → Bool
  | .x x => refOkX d l x
  | .tup xs => xs.all (refOkX d l)
def refOkO (d : Nat) (l : Store) (ob : Obj') : Bool := match ob.kind with | .box => ob.rows.all fun row => row.all (refOkC d l) | _ => true
/-- Roots of the second store, as they are in the first. -/
def SubS (l : Store) : Store → Prop
  | [] => True
  | (k, ob) :: s => getA l k = some ob ∧ SubS l s

theorem SubS_get {l : Store} : ∀ {s : Store}, SubS l s → ∀ r ob, getA s r = some ob → getA l r = some ob
  | [], _, r, ob, h => by cases h
  | (k, o) :: s, hs, r, ob, h => by
    simp only [getA] at h
    split at h
    · rename_i e; cases h; rw [← e]; exact hs.1
    · exact SubS_get hs.2 r ob h

theorem Rel.same {t t' : List V} {d : Nat} {l g : Store} {g0 gh : Gh} {w0 w : World} {a : Act} (h : T2 t t') (hr : Rel g0 w0 ⟨t, d, l, g⟩ gh a w) : Rel g0 w0 ⟨t', d, l, g⟩ gh a w :=
  ⟨hr.defers, by rw [T2_len h]; exact hr.size, fun i hi => by
    rcases T2_get h i with e | e
    · show VR w _ gh (t'.getD i _) _
      rw [e]; exact hr.tmps i (by show i < t.length; rw [← T2_len h]; exact hi)
    · show VR w _ gh (t'.getD i _) _
      rw [e]; trivial, hr.heap, hr.keep, hr.loc, hr.out, hr.obj, hr.gref, hr.pin⟩
theorem nr_refRoot {c : C} (h : nr c = true) : refRoot c = none := by cases c <;> first | rfl | simp [nr] at h

theorem cellAt_mem {R : List (List C)} {i j : Nat} {r : Root} (h : refRoot (cellAt R i j) = some r) : i < R.length ∧ j < (R.getD i []).length := by
  unfold cellAt at h
  by_cases hi : i < R.length
  · refine ⟨hi, ?_⟩
    by_cases hj : j < (R.getD i []).length
    · exact hj
    · rw [List.getD_eq_getElem?_getD (l := R.getD i []), List.getElem?_eq_none (by omega)] at h; cases h
  · rw [List.getD_eq_getElem?_getD (l := R), List.getElem?_eq_none (by omega)] at h; cases h

theorem live_ref {ob : Obj'} {p : Path} {sz : Nat} {R : List (List C)} {i j : Nat} {r : Root} (h : okObj ob = true) (hR : rowsAt ob.sz ob.rows p = some (sz, R)) (hc : refRoot (cellAt R i j) = some r) :
    ob.kind = .box ∧ p = [] ∧ R = ob.rows := by
  unfold okObj at h
  split at h
  · have := nr_refRoot (nrRR_get (nrRR_rowsAt h hR) i j)
    rw [this] at hc; cases hc
  · rename_i hk
    cases p with
    | nil => simp only [rowsAt, Option.some.injEq, Prod.mk.injEq] at hR; exact ⟨hk, rfl, hR.2.symm⟩
    | cons q p =>
      obtain ⟨a, b⟩ := q
      simp only [rowsAt] at hR
      split at hR
      · rename_i s' R' hcell
        rw [Option.bind_eq_some_iff] at hcell
        obtain ⟨row, h1, h2⟩ := hcell
        rw [List.all_eq_true] at h
        have h3 := List.all_eq_true.1 (h row (List.mem_of_getElem? h1)) _ (List.mem_of_getElem? h2)
        have h4 : nrRR R' = true := by simpa [refOr, nr] using h3
        have := nr_refRoot (nrRR_get (nrRR_rowsAt h4 hR) i j)
        rw [this] at hc; cases hc
      · cases hR
  · cases h

theorem getA_mem {l : Store} {r : Root} {ob : Obj'} (h : getA l r = some ob) : ∃ k, (k, ob) ∈ l := by
  induction l with
  | nil => cases h
  | cons hd tl ih =>
    obtain ⟨k, o⟩ := hd
    simp only [getA] at h
    split at h
    · cases h; exact ⟨k, .head _⟩
    · obtain ⟨k', hk'⟩ := ih h; exact ⟨k', .tail _ hk'⟩

def dropOk (d : Nat) (l : Store) (t : List V) : Bool := t.all (refOkV d l) && l.all fun e => refOkO d l e.2

theorem Rel.drop {t t' : List V} {d : Nat} {l l' g : Store} {g0 gh : Gh} {w0 w : World} {a : Act} (h : T2 t t') (hl' : ∀ r ob, getA l' r = some ob → getA l r = some ob) (hd : dropOk d l' t' = true) (hr : Rel g0 w0 ⟨t, d, l, g⟩ gh a w) : Rel g0 w0 ⟨t', d, l', g⟩ gh a w := by
  have h2 : Rel g0 w0 ⟨t', d, l, g⟩ gh a w := Rel.same h hr
  have eqo : ∀ (s : Store) r, getA (s ++ g) r = match getA s r with | some ob => some ob | none => getA g r := fun s r => getA_append s g r
  have back : ∀ r ob, getA (l' ++ g) r = some ob → getA (l ++ g) r = some ob := fun r ob hr' => by
    rw [eqo] at hr' ⊢
    cases e : getA l' r with
    | some ob' =>
      rw [e] at hr'; rw [hl' r ob' e]; exact hr'
    | none =>
      rw [e] at hr'
      cases e2 : getA l r with
      | none => exact hr'
      | some ob' =>
        have k1 := hr.loc r ob' e2
        have k2 := hr.out r ob hr'
        exact absurd k1 (by simp only at k1 k2 ⊢; omega)
  have fwd : ∀ r ob, (r.1 ≠ d ∨ (getA l' r).isSome = true) → getA (l ++ g) r = some ob → getA (l' ++ g) r = some ob := fun r ob hc hr' => by
    rw [eqo] at hr' ⊢
    cases e : getA l' r with
    | some ob' => rw [hl' r ob' e] at hr'; exact hr'
    | none =>
      rw [e] at hc
      have hne : r.1 ≠ d := by simpa using hc
      cases e2 : getA l r with
      | none => rw [e2] at hr'; exact hr'
      | some ob' => exact absurd (hr.loc r ob' e2) hne
  have liveB : ∀ r p sz R, Live (l' ++ g) r p sz R → Live (l ++ g) r p sz R := fun r p sz R ⟨ob, h1, h2⟩ => ⟨ob, back _ _ h1, h2⟩
  have liveF : ∀ r p sz R, (r.1 ≠ d ∨ (getA l' r).isSome = true) → Live (l ++ g) r p sz R → Live (l' ++ g) r p sz R := fun r p sz R hc ⟨ob, h1, h2⟩ => ⟨ob, fwd _ _ hc h1, h2⟩
  have hCR : ∀ loc c y, (∀ r, refRoot c = some r → r.1 ≠ d ∨ (getA l' r).isSome = true) → CR w (l ++ g) gh loc c y → CR w (l' ++ g) gh loc c y := fun loc c y hc hy => by
    cases c with
    | v x => exact hy
    | sh sz R => exact hy
    | ps cs => exact hy
    | own sz R => exact hy
    | bad => trivial
    | rs r p sz off len => obtain ⟨R, k1, k2⟩ := hy; exact ⟨R, liveF _ _ _ _ (hc r rfl) k1, k2⟩
    | pt r p sz row off => obtain ⟨R, b, k1, k2⟩ := hy; exact ⟨R, b, liveF _ _ _ _ (hc r rfl) k1, k2⟩
  have okC : ∀ c, refOkC d l' c = true → ∀ r, refRoot c = some r → r.1 ≠ d ∨ (getA l' r).isSome = true := fun c hc r hr' => by
    unfold refOkC at hc
    rw [hr'] at hc
    simpa using hc
  have hXR : ∀ x y, refOkX d l' x = true → XR w (l ++ g) gh x y → XR w (l' ++ g) gh x y := fun x y hx hy => by
    cases x with
    | one c => exact hCR none c y (okC c hx) hy
    | agg cs =>
      obtain ⟨ys, k1, k2, k3⟩ := hy
      refine ⟨ys, k1, k2, fun j hj => hCR _ _ _ (okC _ ?_) (k3 j hj)⟩
      have hx' := List.all_eq_true.1 hx
      refine hx' _ ?_
      rw [List.getD_eq_getElem?_getD, List.getElem?_eq_getElem hj]; exact List.getElem_mem hj
  simp only [dropOk, Bool.and_eq_true, List.all_eq_true] at hd
  refine ⟨h2.defers, h2.size, fun i hi => ?_, ⟨fun r p sz R b hlv hg => ?_, fun r p ob sz R h1 h2 h3 => hr.heap.none r p ob sz R (back _ _ h1) h2 h3, fun r p sz R r' p' sz' R' b k1 k2 k3 k4 => hr.heap.inj r p sz R r' p' sz' R' b (liveB _ _ _ _ k1) (liveB _ _ _ _ k2) k3 k4, hr.heap.S⟩,
    hr.keep, fun r ob h1 => hr.loc r ob (hl' _ _ h1), hr.out, fun r ob h1 => hr.obj r ob (back _ _ h1), hr.gref, hr.pin⟩
  · have k1 := h2.tmps i hi
    have k2 : refOkV d l' (t'.getD i (.x (.one .bad))) = true := hd.1 _ (by
      have hi' : i < t'.length := hi
      rw [List.getD_eq_getElem?_getD, List.getElem?_eq_getElem hi']; exact List.getElem_mem hi')
    show VR w (l' ++ g) gh (t'.getD i (.x (.one .bad))) _
    have k1' : VR w (l ++ g) gh (t'.getD i (.x (.one .bad))) (a.tmps.getD i undef) := k1
    revert k1' k2
    cases t'.getD i (.x (.one .bad)) with
    | x x => exact fun k2 k1 => hXR x _ k2 k1
    | tup xs =>
      intro k2 ⟨ys, e1, e2, e3⟩
      refine ⟨ys, e1, e2, fun j hj => hXR _ _ ?_ (e3 j hj)⟩
      have hx' := List.all_eq_true.1 k2
      refine hx' _ ?_
      rw [List.getD_eq_getElem?_getD, List.getElem?_eq_getElem hj]; exact List.getElem_mem hj
  · obtain ⟨k1, k2, cells, e, f, k3, k4, k5, k6⟩ := hr.heap.rows r p sz R b (liveB _ _ _ _ hlv) hg
    refine ⟨k1, k2, cells, e, f, k3, k4, k5, fun i j hi hj => hCR _ _ _ (fun r' hr' => ?_) (k6 i j hi hj)⟩
    obtain ⟨ob, q1, q2⟩ := hlv
    obtain ⟨hk, rfl, rfl⟩ := live_ref (hr.obj r ob (back _ _ q1)) q2 hr'
    obtain ⟨m1, m2⟩ := cellAt_mem hr'
    by_cases hin : (getA l' r).isSome = true
    · obtain ⟨ob', e1⟩ := Option.isSome_iff_exists.1 hin
      have e2 : ob' = ob := by
        have q2 : getA (l' ++ g) r = some ob := q1
        rw [eqo, e1] at q2; exact Option.some.inj q2
      subst e2
      have mem := getA_mem e1
      obtain ⟨k, hk'⟩ := mem
      have := hd.2 _ hk'
      simp only [refOkO, hk, List.all_eq_true] at this
      refine okC _ (this (ob'.rows.getD i []) ?_ (cellAt ob'.rows i j) ?_) r' hr'
      · rw [List.getD_eq_getElem?_getD, List.getElem?_eq_getElem m1]; exact List.getElem_mem m1
      · unfold cellAt; rw [List.getD_eq_getElem?_getD (l := ob'.rows.getD i []), List.getElem?_eq_getElem m2]; exact List.getElem_mem m2
    · have e1 : getA l' r = none := by simpa using hin
      have q1' : getA g r = some ob := by
        have q2 : getA (l' ++ g) r = some ob := q1
        rw [eqo, e1] at q2; exact q2
      have := hr.gref r ob q1' i j r' m1 m2 hr'
      exact .inl (by simp only at this; omega)
end Go.Rx
