/- A function of data: what its call comes to; its rows handed over. -/
import Derived.Test.YtbnabpmfdnfigaaRxI
namespace Go.Rx
open Go.RowKit

/-- The root of a row of results. -/
def rho : Root := (0, 0)

def cellsOf : X → List C
  | .one c => [c]
  | .agg cs => cs
def retRow : List X → List C
  | [] => []
  | x :: xs => cellsOf x ++ retRow xs
def retStore (xs : List X) : Store := [(rho, ⟨.vr, (retRow xs).length, [retRow xs]⟩)]

/-- Values out of their cells, by the shape. -/
def packX : List X → List Value → List Value
  | [], _ => []
  | .one _ :: xs, zs => zs.headD undef :: packX xs (zs.drop 1)
  | .agg cs :: xs, zs => .agg (zs.take cs.length).toArray :: packX xs (zs.drop cs.length)
def packV : List Value → Value
  | [z] => z
  | zs => .tuple zs.toArray

structure RetR (w : World) (g : Gh) (xs : List X) (zs : List Value) : Prop where
  heap : HeapRel w (retStore xs) g
  nr : nrR (retRow xs) = true
  len : zs.length = (retRow xs).length
  cells : ∀ j, j < (retRow xs).length → CR w (retStore xs) g (some (rho, [], 0, j)) ((retRow xs).getD j .bad) (zs.getD j undef)

/-- 'f', called with what reads as 'args', hands back what reads as 'ret', all of it new, and turns nothing. -/
def Callable (P : Program) (f : FuncId) : Prop := ∃ fn, P.funcs[f]? = some fn ∧ fn.name ≠ "runtime.NumGoroutine" ∧ fn.body.isNone = false
def PureFn (P : Program) (f : FuncId) (args ret : List X) : Prop :=
  Callable P f ∧ ∀ (w : World) (ys : List Value), ys.length = args.length → (∀ i, i < args.length → XR w [] (Sall w) (args.getD i (.one .bad)) (ys.getD i undef)) →
    Calls P f ys.toArray w fun e w' => ∃ g zs, e = .returned (packV (packX ret zs)) ∧ RetR w' g ret zs ∧ Keep (Sall w) w g w'

/-! ### handing over -/

/-- A result's cell: rows of the activation's own go along. -/
def expC (o : Store) : C → Option C
  | .v x => some (.v x)
  | .sh sz R => some (.sh sz R)
  | .ps cs => some (.ps cs)
  | .bad => some .bad
  | .rs r p sz off len => match getA o r with
    | some ob => match rowsAt ob.sz ob.rows p with
      | some (sz', R) => if sz' = sz ∧ off = 0 ∧ len = R.length ∧ nrRR R = true then some (.own sz R) else none
      | none => none
    | none => none
  | _ => none
def expR (o : Store) : List C → Option (List C)
  | [] => some []
  | c :: cs => match expC o c, expR o cs with
    | some c, some cs => some (c :: cs)
    | _, _ => none

def locC : C → Option (Root × Path)
  | .rs r p _ _ _ => some (r, p)
  | _ => none

/-- Two places of which neither lies in the other. -/
def apart (a b : Root × Path) : Bool := a.1 != b.1 || (!(a.2.isPrefixOf b.2) && !(b.2.isPrefixOf a.2))
def apartAll : List (Option (Root × Path)) → Bool
  | [] => true
  | none :: ls => apartAll ls
  | some a :: ls => ls.all (fun b => match b with | some b => apart a b | none => true) && apartAll ls

section
variable {P : Program} {w w0 w' : World} {g g0 gr : Gh} {σ : St} {a : Act} {o : Store}

theorem expR_length {cs ds : List C} (h : expR o cs = some ds) : ds.length = cs.length := by
  induction cs generalizing ds with
  | nil => simp [expR] at h; simp [← h]
  | cons c cs ih =>
    simp only [expR] at h
    split at h
    · rename_i c' cs' h1 h2; cases h; simp [ih h2]
    · cases h
theorem expR_get {cs ds : List C} (h : expR o cs = some ds) (j : Nat) (hj : j < cs.length) : expC o (cs.getD j .bad) = some (ds.getD j .bad) := by
  induction cs generalizing ds j with
  | nil => simp at hj
  | cons c cs ih =>
    simp only [expR] at h
    split at h
    · rename_i c' cs' h1 h2
      cases h
      cases j with
      | zero => simpa using h1
      | succ j => simpa using ih h2 j (by simpa using hj)
    · cases h

theorem expC_own {c : C} {sz : Nat} {R : List (List C)} (h : expC o c = some (.own sz R)) : ∃ r p, c = .rs r p sz 0 R.length ∧ Live o r p sz R ∧ nrRR R = true := by
  unfold expC at h
  split at h <;> try cases h
  rename_i r p sz' off len
  split at h
  · rename_i ob hob
    split at h
    · rename_i s' R' hR
      split at h
      · rename_i hc
        obtain ⟨rfl, rfl, rfl, hn⟩ := hc
        cases h
        exact ⟨r, p, rfl, ⟨ob, hob, hR⟩, hn⟩
      · cases h
    · cases h
  · cases h

theorem expC_nr {c d : C} (h : expC o c = some d) : nr d = true := by
  unfold expC at h
  split at h <;> first | (cases h; rfl) | skip
  · rename_i r p sz' off len
    split at h
    · split at h
      · split at h
        · rename_i hc; cases h; simpa [nr] using hc.2.2.2
        · cases h
      · cases h
    · cases h
  · cases h

theorem expR_nr {cs ds : List C} (h : expR o cs = some ds) : nrR ds = true := by
  induction cs generalizing ds with
  | nil => simp only [expR, Option.some.injEq] at h; subst h; rfl
  | cons c cs ih =>
    simp only [expR] at h
    split at h
    · rename_i c' cs' h1 h2; cases h; simp [nrR, expC_nr h1, ih h2]
    · cases h

theorem apartAll_spec {ls : List (Option (Root × Path))} (h : apartAll ls = true) : ∀ (i j : Nat) (x y : Root × Path), ls[i]? = some (some x) → ls[j]? = some (some y) → i < j → apart x y = true := by
  induction ls with
  | nil => intro i j x y hi; simp at hi
  | cons l ls ih =>
    intro i j x y hi hj hij
    have hrest : apartAll ls = true := by
      cases l with
      | none => exact h
      | some b => simp only [apartAll, Bool.and_eq_true] at h; exact h.2
    cases j with
    | zero => omega
    | succ j =>
      simp only [List.getElem?_cons_succ] at hj
      cases i with
      | zero =>
        simp only [List.getElem?_cons_zero, Option.some.injEq] at hi
        subst hi
        simp only [apartAll, Bool.and_eq_true, List.all_eq_true] at h
        exact h.1 (some y) (List.mem_of_getElem? hj)
      | succ i =>
        simp only [List.getElem?_cons_succ] at hi
        exact ih hrest i j x y hi hj (by omega)

theorem isPrefixOf_append (p q : Path) : p.isPrefixOf (p ++ q) = true := by
  induction p with
  | nil => simp
  | cons x p ih => simp [ih]

theorem prefix_of_eq : ∀ (p q p' q' : Path), p ++ q = p' ++ q' → p.isPrefixOf p' = true ∨ p'.isPrefixOf p = true
  | [], _, _, _, _ => .inl (by simp)
  | _ :: _, _, [], _, _ => .inr (by simp)
  | x :: p, q, y :: p', q', h => by
    simp only [List.cons_append, List.cons.injEq] at h
    obtain ⟨rfl, h⟩ := h
    rcases prefix_of_eq p q p' q' h with h1 | h1
    · left; simp [List.isPrefixOf, h1]
    · right; simp [List.isPrefixOf, h1]

/-- Where a result's rows lay. -/
def retG (g : Gh) (cs : List C) : Gh := { g with G := fun r p => if r = rho then (match p with
  | (0, j) :: q => (match cs.getD j .bad with | .rs r' p' _ _ _ => g.G r' (p' ++ q) | _ => none)
  | _ => none) else none }

theorem export_rel (hh : HeapRel w o g) (hk : ∀ r ob, getA o r = some ob → ob.kind ≠ .vr) {cs : List C} {xs : List X} {zs : List Value} (he : expR o cs = some (retRow xs)) (ha : apartAll (cs.map locC) = true)
    (hz : zs.length = cs.length) (hc : ∀ j, j < cs.length → CR w o g none (cs.getD j .bad) (zs.getD j undef)) : RetR w (retG g cs) xs zs := by
  have hlen := expR_length he
  generalize hrow : retRow xs = row at *
  have hstore : ∀ r ob, getA (retStore xs) r = some ob → r = rho ∧ ob = ⟨.vr, row.length, [row]⟩ := by
    intro r ob h
    simp only [retStore, getA, hrow] at h
    split at h
    · rename_i e; cases h; exact ⟨e.symm, rfl⟩
    · cases h
  have key : ∀ r p m K, Live (retStore xs) r p m K → (r = rho ∧ p = [] ∧ K = [row]) ∨
      ∃ j q r' p' s R, j < cs.length ∧ r = rho ∧ p = (0, j) :: q ∧ cs.getD j .bad = .rs r' p' s 0 R.length ∧ Live o r' p' s R ∧ nrRR R = true ∧ rowsAt s R q = some (m, K) := by
    rintro r p m K ⟨ob, h1, h2⟩
    obtain ⟨rfl, rfl⟩ := hstore r ob h1
    cases p with
    | nil =>
      simp only [rowsAt, Option.some.injEq, Prod.mk.injEq] at h2
      exact .inl ⟨rfl, rfl, h2.2.symm⟩
    | cons x q =>
      obtain ⟨i, j⟩ := x
      simp only [rowsAt] at h2
      split at h2
      · rename_i s R hb
        obtain ⟨k1, k2, k3⟩ := bind_cell hb
        obtain rfl : i = 0 := by simp at k1; omega
        have hj : j < cs.length := by rw [← hlen]; simpa using k2
        have k3' : row.getD j .bad = .own s R := by simpa [cellAt] using k3
        have := expR_get he j hj
        rw [k3'] at this
        obtain ⟨r', p', e1, e2, e3⟩ := expC_own this
        exact .inr ⟨j, q, r', p', s, R, hj, rfl, rfl, e1, e2, e3, h2⟩
      · cases h2
  have hG : ∀ j q r' p' s n, cs.getD j .bad = .rs r' p' s 0 n → (retG g cs).G rho ((0, j) :: q) = g.G r' (p' ++ q) := fun j q r' p' s n h => by
    simp only [retG, if_true, h]
  have hSl : ∀ r p r' p' s off len y, (retG g cs).G r p = g.G r' p' → SlAt g w r' p' s off len y → SlAt (retG g cs) w r p s off len y := fun r p r' p' s off len y he h => by
    unfold SlAt at *; rw [he]; exact h
  have hold : ∀ r' p' s R q m K, Live o r' p' s R → rowsAt s R q = some (m, K) → Live o r' (p' ++ q) m K := fun r' p' s R q m K ⟨ob, h1, h2⟩ hq => ⟨ob, h1, rowsAt_append h2 hq⟩
  refine ⟨⟨?_, ?_, ?_, hh.S⟩, by rw [hrow]; exact expR_nr he, by rw [hrow]; omega, fun j hj => ?_⟩
  · intro r p m K b hl hg
    rcases key r p m K hl with ⟨rfl, rfl, rfl⟩ | ⟨j, q, r', p', s, R, hj, rfl, rfl, e1, e2, e3, e4⟩
    · simp [retG] at hg
    · rw [hG j q r' p' s _ e1] at hg
      obtain ⟨k1, k2, cells, e, f, k3, kf, k4, k5⟩ := hh.rows r' (p' ++ q) m K b (hold _ _ _ _ _ _ _ e2 e4) hg
      refine ⟨k1, k2, cells, e, f, k3, kf, k4, fun i k hi hk' => ?_⟩
      have hn := nrRR_get (nrRR_rowsAt e3 e4) i k
      have hc' := k5 i k hi hk'
      generalize cellAt K i k = c at hn hc' ⊢
      cases c with
      | v x => exact hc'
      | sh s1 Q => exact hc'
      | ps cs => exact hc'
      | bad => trivial
      | rs => simp [nr] at hn
      | pt => simp [nr] at hn
      | own s1 Q =>
        refine hSl _ _ r' (p' ++ q ++ [(i, k)]) _ _ _ _ ?_ hc'
        rw [List.cons_append, hG j _ r' p' s _ e1, List.append_assoc]
  · intro r p ob m K h1 h2 hg
    rcases key r p m K ⟨ob, h1, h2⟩ with ⟨rfl, rfl, rfl⟩ | ⟨j, q, r', p', s, R, hj, rfl, rfl, e1, e2, e3, e4⟩
    · obtain ⟨_, rfl⟩ := hstore _ _ h1
      exact .inr ⟨rfl, rfl⟩
    · rw [hG j q r' p' s _ e1] at hg
      obtain ⟨ob', f1, f2⟩ := hold _ _ _ _ _ _ _ e2 e4
      rcases hh.none r' _ ob' m K f1 f2 hg with h | ⟨h, _⟩
      · exact .inl h
      · exact absurd h (hk _ _ f1)
  · intro r p m K r2 p2 m2 K2 b hl hl2 hg hg2
    rcases key r p m K hl with ⟨rfl, rfl, rfl⟩ | ⟨j, q, r', p', s, R, hj, rfl, rfl, e1, e2, e3, e4⟩
    · simp [retG] at hg
    rcases key r2 p2 m2 K2 hl2 with ⟨rfl, rfl, rfl⟩ | ⟨j', q', r'', p'', s', R', hj', rfl, rfl, e1', e2', e3', e4'⟩
    · simp [retG] at hg2
    rw [hG j q r' p' s _ e1] at hg
    rw [hG j' q' r'' p'' s' _ e1'] at hg2
    obtain ⟨rfl, hpq⟩ := hh.inj _ _ _ _ _ _ _ _ b (hold _ _ _ _ _ _ _ e2 e4) (hold _ _ _ _ _ _ _ e2' e4') hg hg2
    have hloc : ∀ j r p s n, j < cs.length → cs.getD j .bad = .rs r p s 0 n → (cs.map locC)[j]? = some (some (r, p)) := fun j r p s n hj h => by
      have : cs[j]? = some (.rs r p s 0 n) := by
        rw [← h, List.getD_eq_getElem?_getD, List.getElem?_eq_getElem hj]; rfl
      simp [List.getElem?_map, this, locC]
    have hnot : apart (r', p') (r', p'') = true → False := fun h => by
      rcases prefix_of_eq p' q p'' q' hpq with h1 | h1 <;> simp [apart, h1] at h
    have hnot' : apart (r', p'') (r', p') = true → False := fun h => by
      rcases prefix_of_eq p' q p'' q' hpq with h1 | h1 <;> simp [apart, h1] at h
    rcases Nat.lt_trichotomy j j' with hlt | heq | hgt
    · exact (hnot (apartAll_spec ha j j' _ _ (hloc _ _ _ _ _ hj e1) (hloc _ _ _ _ _ hj' e1') hlt)).elim
    · subst heq
      rw [e1] at e1'
      obtain ⟨_, hp, _⟩ := C.rs.inj e1'
      subst hp
      exact ⟨rfl, by rw [List.append_cancel_left hpq]⟩
    · exact (hnot' (apartAll_spec ha j' j _ _ (hloc _ _ _ _ _ hj' e1') (hloc _ _ _ _ _ hj e1) hgt)).elim
  · rw [hrow] at hj ⊢
    have hj' : j < cs.length := by omega
    have h1 := expR_get he j hj'
    have h2 := hc j hj'
    generalize hd : row.getD j .bad = d at h1 ⊢
    cases d with
    | own s R =>
      obtain ⟨r', p', e1, e2, e3⟩ := expC_own h1
      rw [e1] at h2
      obtain ⟨_, _, _, hs⟩ := h2
      refine hSl _ _ r' p' _ _ _ _ ?_ hs
      rw [List.nil_append, hG j [] r' p' s _ e1, List.append_nil]
    | bad => trivial
    | _ =>
      unfold expC at h1
      split at h1 <;> first
        | (rename_i e; rw [e] at h2; cases h1; exact h2)
        | (cases h1; done)
        | (exfalso; split at h1 <;> (try split at h1) <;> (try split at h1) <;> cases h1)

end
end Go.Rx
