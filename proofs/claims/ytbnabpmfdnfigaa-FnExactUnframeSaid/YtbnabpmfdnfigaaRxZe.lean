/- A root under another name. -/
import Derived.Test.YtbnabpmfdnfigaaRxZd
namespace Go.Rx
open Go.RowKit

def renR (a b q : Root) : Root := if q = a then b else q
def renC (a b : Root) : C → C
  | .rs r p sz off len => .rs (renR a b r) p sz off len
  | .pt r p sz row off => .pt (renR a b r) p sz row off
  | c => c
def renX (a b : Root) : X → X
  | .one c => .one (renC a b c)
  | .agg cs => .agg (cs.map (renC a b))
def renV (a b : Root) : V → V
  | .x x => .x (renX a b x)
  | .tup xs => .tup (xs.map (renX a b))
def renO (a b : Root) (ob : Obj') : Obj' := { ob with rows := ob.rows.map (·.map (renC a b)) }
def renL (a b : Root) : Store → Store
  | [] => []
  | (k, ob) :: l => (renR a b k, renO a b ob) :: renL a b l

section
variable {a b : Root}
theorem renR_back {q : Root} (h : q ≠ b) : renR b a (renR a b q) = q := by
  unfold renR
  by_cases e : q = a
  · subst e; simp
  · simp [e, h]
theorem getA_renL {l : Store} (hb : getA l b = none) (q : Root) : getA (renL a b l) q = if q = a ∧ a ≠ b then none else (getA l (renR b a q)).map (renO a b) := by
  induction l with
  | nil => simp [renL, getA]
  | cons x l ih =>
    obtain ⟨k, ob⟩ := x
    have hkb : k ≠ b := fun e => by subst e; simp [getA] at hb
    have hb' : getA l b = none := by simp only [getA, if_neg hkb] at hb; exact hb
    have ih := ih hb'
    simp only [renL, getA]
    by_cases hk : k = a
    · subst hk
      have e1 : renR k b k = b := by simp [renR]
      rw [e1]
      by_cases hq : b = q
      · subst hq
        have e2 : renR b k b = k := by simp [renR]
        rw [e2, if_pos rfl, if_pos rfl, if_neg (fun h => hkb h.1.symm)]; rfl
      · rw [if_neg hq, ih]
        have hq' : q ≠ b := fun e => hq e.symm
        have e2 : renR b k q = q := by simp [renR, hq']
        rw [e2]
        by_cases hqk : q = k
        · subst hqk; rw [if_pos ⟨rfl, hkb⟩, if_pos ⟨rfl, hkb⟩]
        · rw [if_neg (fun h => hqk h.1), if_neg (fun h => hqk h.1), if_neg (fun e => hqk e.symm)]
    · have e1 : renR a b k = k := by simp [renR, hk]
      rw [e1, ih]
      by_cases hq : k = q
      · subst hq
        have e2 : renR b a k = k := by simp [renR, hkb]
        rw [if_pos rfl, e2, if_pos rfl, if_neg (fun h => hk h.1)]; rfl
      · rw [if_neg hq]
        by_cases hqa : q = a ∧ a ≠ b
        · rw [if_pos hqa, if_pos hqa]
        · rw [if_neg hqa, if_neg hqa]
          have : k ≠ renR b a q := by
            unfold renR
            by_cases e : q = b
            · rw [if_pos e]; exact hk
            · rw [if_neg e]; exact hq
          rw [if_neg this]
end

theorem nr_renC {a b : Root} {c : C} (h : nr c = true) : renC a b c = c := by cases c <;> first | rfl | simp [nr] at h
theorem renC_own {a b : Root} {c : C} {sz : Nat} {R : List (List C)} : renC a b c = .own sz R ↔ c = .own sz R := by cases c <;> simp [renC]

theorem renC_ne {a b : Root} {c : C} {r : Root} (h : refRoot c = some r) (hn : r ≠ a) : renC a b c = c := by
  cases c with
  | rs r2 p sz off len =>
    have : r2 = r := by simpa [refRoot] using h
    subst this; simp [renC, renR, hn]
  | pt r2 p sz row off =>
    have : r2 = r := by simpa [refRoot] using h
    subst this; simp [renC, renR, hn]
  | _ => rfl

theorem cellAt_ren {a b : Root} {R : List (List C)} {i j : Nat} : cellAt (R.map (·.map (renC a b))) i j = renC a b (cellAt R i j) := by
  unfold cellAt
  simp only [List.getD_eq_getElem?_getD, List.getElem?_map]
  cases hi : R[i]? with
  | none => rfl
  | some row =>
    simp only [Option.map_some, Option.getD_some, List.getElem?_map]
    cases row[j]? <;> rfl

theorem rowsAt_ren {a b : Root} {p : Path} {sz n : Nat} {R Q : List (List C)} (h : rowsAt sz (R.map (·.map (renC a b))) p = some (n, Q)) : ∃ Q0, rowsAt sz R p = some (n, Q0) ∧ ((p = [] ∧ Q = Q0.map (·.map (renC a b))) ∨ (p ≠ [] ∧ Q = Q0)) := by
  cases p with
  | nil =>
    simp only [rowsAt, Option.some.injEq, Prod.mk.injEq] at h ⊢
    obtain ⟨rfl, rfl⟩ := h
    exact ⟨R, ⟨rfl, rfl⟩, .inl ⟨trivial, rfl⟩⟩
  | cons x p =>
    obtain ⟨i, j⟩ := x
    simp only [rowsAt] at h
    split at h
    · rename_i s K hb
      obtain ⟨k1, k2, k3⟩ := bind_cell hb
      rw [cellAt_ren, renC_own] at k3
      have k1' : i < R.length := by simpa using k1
      have k2' : j < (R.getD i []).length := by
        simp only [List.getD_eq_getElem?_getD, List.getElem?_map, List.getElem?_eq_getElem k1', Option.map_some, Option.getD_some, List.length_map] at k2 ⊢
        exact k2
      refine ⟨Q, ?_, .inr ⟨by simp, rfl⟩⟩
      simp only [rowsAt, cell_bind k1' k2', k3]; exact h
    · cases h
theorem rowsAt_ren' {a b : Root} {p : Path} {sz n : Nat} {R Q : List (List C)} (h : rowsAt sz R p = some (n, Q)) : ∃ Q', rowsAt sz (R.map (·.map (renC a b))) p = some (n, Q') ∧ Q'.length = Q.length := by
  cases p with
  | nil =>
    simp only [rowsAt, Option.some.injEq, Prod.mk.injEq] at h ⊢
    obtain ⟨rfl, rfl⟩ := h
    exact ⟨_, ⟨rfl, rfl⟩, by simp⟩
  | cons x p =>
    obtain ⟨i, j⟩ := x
    simp only [rowsAt] at h
    split at h
    · rename_i s K hb
      obtain ⟨k1, k2, k3⟩ := bind_cell hb
      refine ⟨Q, ?_, rfl⟩
      have e1 : i < (R.map (·.map (renC a b))).length := by simpa using k1
      have e2 : j < ((R.map (·.map (renC a b))).getD i []).length := by
        simp only [List.getD_eq_getElem?_getD, List.getElem?_map, List.getElem?_eq_getElem k1, Option.map_some, Option.getD_some, List.length_map] at k2 ⊢
        exact k2
      simp only [rowsAt, cell_bind e1 e2, cellAt_ren, k3, renC]; exact h
    · cases h

theorem Rel.rename {t : List V} {d : Nat} {l g : Store} {g0 gh : Gh} {w0 w : World} {ac : Act} {a b : Root} (hr : Rel g0 w0 ⟨t, d, l, g⟩ gh ac w) (ha : a.1 = d) (hb : b.1 = d) (hab : a ≠ b) (hf : getA l b = none) :
    Rel g0 w0 ⟨t.map (renV a b), d, renL a b l, g⟩ (renG (fun q p => if q = a then none else some (renR b a q, p)) gh) ac w := by
  have hgn : ∀ q : Root, q.1 = d → getA g q = none := fun q hq => by
    cases h : getA g q with
    | none => rfl
    | some ob => have := hr.out q ob h; simp only at this; omega
  have hget : ∀ q, getA (renL a b l ++ g) q = if q = a then none else match getA l (renR b a q) with | some ob => some (renO a b ob) | none => getA g q := fun q => by
    rw [getA_append, getA_renL hf]
    by_cases hq : q = a
    · rw [if_pos ⟨hq, hab⟩, if_pos hq, hq]; exact hgn a ha
    · rw [if_neg (fun h => hq h.1), if_neg hq]
      cases getA l (renR b a q) <;> rfl
  have hgg : ∀ q, q ≠ b → renR b a q = q := fun q h => by simp [renR, h]
  -- old from new
  have back : ∀ q p m Q, Live (renL a b l ++ g) q p m Q → q ≠ a ∧ ∃ Q0, Live (l ++ g) (renR b a q) p m Q0 ∧ ((p = [] ∧ Q = Q0.map (·.map (renC a b))) ∨ Q = Q0) := by
    rintro q p m Q ⟨ob, h1, h2⟩
    rw [hget] at h1
    by_cases hq : q = a
    · rw [if_pos hq] at h1; cases h1
    · rw [if_neg hq] at h1
      refine ⟨hq, ?_⟩
      cases h3 : getA l (renR b a q) with
      | some ob0 =>
        rw [h3] at h1
        cases h1
        obtain ⟨Q0, k1, k2⟩ := rowsAt_ren h2
        refine ⟨Q0, ⟨ob0, by rw [getA_append, h3], k1⟩, ?_⟩
        rcases k2 with k2 | k2
        · exact .inl k2
        · exact .inr k2.2
      | none =>
        rw [h3] at h1
        have hqb : q ≠ b := fun e => by subst e; rw [hgn q hb] at h1; cases h1
        rw [hgg q hqb] at h3 ⊢
        exact ⟨Q, ⟨ob, by rw [getA_append, h3]; exact h1, h2⟩, .inr rfl⟩
  have forth : ∀ q p m Q, Live (l ++ g) q p m Q → ∃ Q', Live (renL a b l ++ g) (renR a b q) p m Q' ∧ Q'.length = Q.length := by
    rintro q p m Q ⟨ob, h1, h2⟩
    have hqb : q ≠ b := fun e => by
      subst e
      rw [getA_append, hf] at h1
      rw [show getA g q = none from hgn q hb] at h1; cases h1
    have hne : renR a b q ≠ a := by
      unfold renR
      by_cases e : q = a
      · rw [if_pos e]; exact fun h => hab h.symm
      · rw [if_neg e]; exact e
    rw [getA_append] at h1
    cases h3 : getA l q with
    | some ob0 =>
      rw [h3] at h1
      cases h1
      obtain ⟨Q', k1, k2⟩ := rowsAt_ren' (a := a) (b := b) h2
      exact ⟨Q', ⟨renO a b ob, by rw [hget, if_neg hne, renR_back hqb, h3], k1⟩, k2⟩
    | none =>
      rw [h3] at h1
      have hqa : q ≠ a := fun e => by subst e; rw [show getA g q = none from hgn q ha] at h1; cases h1
      have e1 : renR a b q = q := by simp [renR, hqa]
      rw [e1]
      exact ⟨Q, ⟨ob, by rw [hget, if_neg hqa, hgg q hqb, h3]; exact h1, h2⟩, rfl⟩
  have notb : ∀ q p m Q, Live (l ++ g) q p m Q → q ≠ b := fun q p m Q ⟨ob, h1, _⟩ e => by
    subst e
    rw [getA_append, hf] at h1
    rw [show getA g q = none from hgn q hb] at h1; cases h1
  let ρ : Root → Path → Option (Root × Path) := fun q p => if q = a then none else some (renR b a q, p)
  have hρ : ∀ q p, q ≠ b → (renG ρ gh).G (renR a b q) p = gh.G q p := fun q p h => by
    have hne : renR a b q ≠ a := by
      unfold renR
      by_cases e : q = a
      · rw [if_pos e]; exact fun h => hab h.symm
      · rw [if_neg e]; exact e
    exact renG_some (by simp only [ρ]; rw [if_neg hne, renR_back h])
  -- a cell that stands nowhere, or somewhere
  have cell : ∀ loc loc' c y, (∀ sz R, c = .own sz R → ∃ q p i j, loc = some (q, p, i, j) ∧ loc' = some (renR a b q, p, i, j) ∧ q ≠ b) → CR w (l ++ g) gh loc c y → CR w (renL a b l ++ g) (renG ρ gh) loc' (renC a b c) y := by
    intro loc loc' c y hloc hc
    cases c with
    | v x => exact hc
    | sh sz R => exact hc
    | ps cs => exact hc
    | bad => trivial
    | own sz R =>
      obtain ⟨q, p, i, j, rfl, rfl, hq⟩ := hloc sz R rfl
      exact SlAt.ren (g := gh) (hρ q _ hq) hc
    | rs r p sz off len =>
      obtain ⟨R, k1, k2, k3⟩ := hc
      obtain ⟨R', k4, k5⟩ := forth _ _ _ _ k1
      exact ⟨R', k4, by omega, SlAt.ren (g := gh) (hρ r p (notb _ _ _ _ k1)) k3⟩
    | pt r p sz row off =>
      obtain ⟨R, bb, k1, k2, k3, k4⟩ := hc
      obtain ⟨R', k5, k6⟩ := forth _ _ _ _ k1
      exact ⟨R', bb, k5, by omega, by rw [hρ r p (notb _ _ _ _ k1)]; exact k3, k4⟩
  have xcell : ∀ x y, XR w (l ++ g) gh x y → XR w (renL a b l ++ g) (renG ρ gh) (renX a b x) y := by
    intro x y hx
    cases x with
    | one c => exact cell none none c y (fun sz R e => by subst e; exact False.elim hx) hx
    | agg cs =>
      obtain ⟨ys, e1, e2, e3⟩ := hx
      refine ⟨ys, e1, by simpa using e2, fun j hj => ?_⟩
      have hj' : j < cs.length := by simpa using hj
      have := e3 j hj'
      have hg : (cs.map (renC a b)).getD j .bad = renC a b (cs.getD j .bad) := by
        simp [List.getD_eq_getElem?_getD, List.getElem?_map, List.getElem?_eq_getElem hj']
      rw [hg]
      exact cell none none _ _ (fun sz R e => by rw [e] at this; exact False.elim this) this
  have vcell : ∀ v y, VR w (l ++ g) gh v y → VR w (renL a b l ++ g) (renG ρ gh) (renV a b v) y := by
    intro v y hv
    cases v with
    | x x => exact xcell x y hv
    | tup xs =>
      obtain ⟨ys, e1, e2, e3⟩ := hv
      refine ⟨ys, e1, by simpa using e2, fun j hj => ?_⟩
      have hj' : j < xs.length := by simpa using hj
      have hg : (xs.map (renX a b)).getD j (.one .bad) = renX a b (xs.getD j (.one .bad)) := by
        simp [List.getD_eq_getElem?_getD, List.getElem?_map, List.getElem?_eq_getElem hj']
      rw [hg]
      exact xcell _ _ (e3 j hj')
  have ren : Ren w (l ++ g) (renL a b l ++ g) ρ gh := by
    refine ⟨fun q p m Q hl => ?_, fun q p m Q q' p' m' Q' s _ _ h1 h2 => ?_, fun q ob h1 hk => by have := hr.obj q ob h1; simp [okObj, hk] at this⟩
    · obtain ⟨hq, Q0, k1, k2⟩ := back q p m Q hl
      refine .inr ⟨renR b a q, p, Q0, by simp only [ρ]; rw [if_neg hq], k1, ?_, ?_, ?_⟩
      · rcases k2 with ⟨_, rfl⟩ | rfl
        · simp
        · rfl
      · intro i hi
        rcases k2 with ⟨_, rfl⟩ | rfl
        · simp [List.getD_eq_getElem?_getD, List.getElem?_map, List.getElem?_eq_getElem hi]
        · rfl
      · intro i j y hi hj hc
        have hqb := notb _ _ _ _ k1
        have hback : renR a b (renR b a q) = q := renR_back hq
        have := cell (some (renR b a q, p, i, j)) (some (q, p, i, j)) _ y (fun sz R _ => ⟨_, p, i, j, rfl, by rw [hback], hqb⟩) hc
        rcases k2 with ⟨_, rfl⟩ | rfl
        · rw [cellAt_ren]; exact this
        · -- no references there: a root's rows are renamed at the top alone
          by_cases hrow : refRoot (cellAt Q i j) = none
          · have e1 : renC a b (cellAt Q i j) = cellAt Q i j := by
              generalize cellAt Q i j = c at hrow
              cases c <;> first | rfl | cases hrow
            rw [e1] at this; exact this
          · obtain ⟨r', hr'⟩ := Option.ne_none_iff_exists'.1 hrow
            obtain ⟨ob, q1, q2⟩ := id k1
            obtain ⟨hkind, rfl, rfl⟩ := live_ref (hr.obj _ ob q1) q2 hr'
            -- the root is one of the callers': what it refers to is not ours
            have hm := cellAt_mem hr'
            obtain ⟨ob', p1, p2⟩ := hl
            rw [hget, if_neg hq] at p1
            cases h3 : getA l (renR b a q) with
            | some ob3 =>
              rw [h3] at p1; cases p1
              rw [getA_append, h3] at q1; cases q1
              simp only [renO, rowsAt, Option.some.injEq, Prod.mk.injEq] at p2
              obtain ⟨_, p2⟩ := p2
              have hcc : cellAt (ob.rows.map (·.map (renC a b))) i j = cellAt ob.rows i j := by rw [p2]
              rw [cellAt_ren] at hcc
              rw [hcc] at this; exact this
            | none =>
              rw [getA_append, h3] at q1
              have hlt : r'.1 < d := hr.gref _ ob q1 i j r' hm.1 hm.2 hr'
              have hra : r' ≠ a := fun e => by subst e; omega
              rw [renC_ne hr' hra] at this; exact this
    · simp only [ρ] at h1 h2
      split at h1
      · cases h1
      · split at h2
        · cases h2
        · rename_i n1 n2
          have hh := Option.some.inj (h1.trans h2.symm)
          obtain ⟨e1, e2⟩ := Prod.mk.inj hh
          have : renR a b (renR b a q) = renR a b (renR b a q') := by rw [e1]
          rw [renR_back n1, renR_back n2] at this
          exact ⟨this, e2⟩
  refine ⟨hr.defers, by simpa using hr.size, fun i hi => ?_, hr.heap.ren ren, ⟨hr.keep.os, hr.keep.tape, hr.keep.output, hr.keep.size, hr.keep.S, hr.keep.block⟩, ?_, hr.out, ?_, hr.gref, ?_⟩
  · have hi' : i < t.length := by simpa using hi
    have hg : (t.map (renV a b)).getD i (.x (.one .bad)) = renV a b (t.getD i (.x (.one .bad))) := by
      simp [List.getD_eq_getElem?_getD, List.getElem?_map, List.getElem?_eq_getElem hi']
    show VR w _ _ ((t.map (renV a b)).getD i (.x (.one .bad))) _
    rw [hg]
    exact vcell _ _ (hr.tmps i hi')
  · intro q ob h
    have h' : getA (renL a b l) q = some ob := h
    rw [getA_renL hf] at h'
    split at h'
    · cases h'
    · obtain ⟨ob0, h1, _⟩ := Option.map_eq_some_iff.1 h'
      have := hr.loc _ ob0 h1
      unfold renR at this
      split at this
      · rename_i e; rw [e]; exact hb
      · exact this
  · intro q ob h
    have h' : getA (renL a b l ++ g) q = some ob := h
    rw [hget] at h'
    split at h'
    · cases h'
    · rename_i hq
      cases h3 : getA l (renR b a q) with
      | none =>
        rw [h3] at h'
        have hqb : q ≠ b := fun e => by subst e; rw [hgn q hb] at h'; cases h'
        rw [hgg q hqb] at h3
        exact hr.obj q ob (by show getA (l ++ g) q = _; rw [getA_append, h3]; exact h')
      | some ob0 =>
        rw [h3] at h'
        cases h'
        have hok := hr.obj (renR b a q) ob0 (by show getA (l ++ g) _ = _; rw [getA_append, h3])
        unfold okObj at hok ⊢
        simp only [renO]
        split at hok
        · rename_i hk
          have : ob0.rows.map (·.map (renC a b)) = ob0.rows := by
            rw [nrRR_all, List.all_eq_true] at hok
            conv => rhs; rw [← List.map_id ob0.rows]
            apply List.map_congr_left
            intro r hr'
            have h5 := hok r hr'
            show r.map (renC a b) = r
            clear hr'
            induction r with
            | nil => rfl
            | cons c r ih =>
              simp only [nrR, Bool.and_eq_true] at h5
              rw [List.map_cons, nr_renC h5.1, ih h5.2]
          rw [this]; exact hok
        · rename_i hk
          simp only [List.all_map, List.all_eq_true, Function.comp_apply] at hok ⊢
          intro r hr' c hc
          have := hok r hr' c hc
          cases c <;> first | rfl | exact this
        · cases hok
  · intro q bb hq
    obtain ⟨⟨ob, h1⟩, h2, h3⟩ := hr.pin q bb hq
    refine ⟨⟨ob, h1⟩, ?_, h3⟩
    have hd := hr.out q ob h1
    have hqa : q ≠ a := fun e => by subst e; simp only at hd; omega
    have hqb : q ≠ b := fun e => by subst e; simp only at hd; omega
    have := hρ q [] hqb
    rw [show renR a b q = q by simp [renR, hqa]] at this
    rw [← h2]; exact this

theorem Weak.rename {t : List V} {d : Nat} {l g : Store} (a b : Root) (ha : a.1 = d) (hb : b.1 = d) (hab : a ≠ b) (hf : getA l b = none) :
    Weak ⟨t, d, l, g⟩ ⟨t.map (renV a b), d, renL a b l, g⟩ := fun _ _ _ _ _ hr => ⟨_, hr.rename ha hb hab hf⟩
attribute [push_cast] renR renC renX renV renO renL
end Go.Rx
