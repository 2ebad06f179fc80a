/- An abstract machine over data, part II. -/
import Derived.Test.YthhgmnpodgmlkaaRxI
import Derived.Deep.AppendSrc
import Derived.Deep.DeepAppendWide
import Derived.Laws.IdiomStrings
namespace Go.Rx
open Go.RowKit
def rho : Root := (0, 0)
def cellsOf : X → List C
  | .one c => [c]
  | .agg cs => cs
def retRow : List X → List C
  | [] => []
  | x :: xs => cellsOf x ++ retRow xs
def retStore (xs : List X) : Store := [(rho, ⟨.vr, (retRow xs).length, [retRow xs]⟩)]
def packX : List X → List Value → List Value
  | [], _ => []
  | .one _ :: xs, zs => zs.headD undef :: packX xs (zs.drop 1)
  | .agg cs :: xs, zs => .agg (zs.take cs.length).toArray :: packX xs (zs.drop cs.length)
def packV : List Value → Value
  | [z] => z
  | zs => .tuple zs.toArray
structure RetR (w : World) (g : Gh) (xs : List X) (zs : List Value) : Prop where
  heap : HeapRel w (retStore xs) g
  nr : nrR (retRow xs) = true
  len : zs.length = (retRow xs).length
  cells : ∀ j, j < (retRow xs).length → CR w (retStore xs) g (some (rho, [], 0, j)) ((retRow xs).getD j .bad) (zs.getD j undef)
def Callable (P : Program) (f : FuncId) : Prop := ∃ fn, P.funcs[f]? = some fn ∧ fn.name ≠ "runtime.NumGoroutine" ∧ fn.body.isNone = false
def PureFn (P : Program) (f : FuncId) (args ret : List X) : Prop :=
  Callable P f ∧ ∀ (w : World) (ys : List Value) [Tb P (Sall w) w], ys.length = args.length → (∀ i, i < args.length → XR w [] (Sall w) (args.getD i (.one .bad)) (ys.getD i undef)) →
    Calls P f ys.toArray w fun e w' => ∃ g zs, e = .returned (packV (packX ret zs)) ∧ RetR w' g ret zs ∧ Keep (Sall w) w g w'
def expC (o : Store) : C → Option C
  | .v x => some (.v x)
  | .sh sz R => some (.sh sz R)
  | .ps cs => some (.ps cs)
  | .bad => some .bad
  | .rs r p sz off len => match getA o r with
    | some ob => match rowsAt ob.sz ob.rows p with
      | some (sz', R) => if sz' = sz ∧ off = 0 ∧ len = R.length ∧ nrRR R = true then some (.own sz R) else none
      | none => none
    | none => none
  | _ => none
def expR (o : Store) : List C → Option (List C)
  | [] => some []
  | c :: cs => match expC o c, expR o cs with
    | some c, some cs => some (c :: cs)
    | _, _ => none
def locC : C → Option (Root × Path)
  | .rs r p _ _ _ => some (r, p)
  | _ => none
def apart (a b : Root × Path) : Bool := a.1 != b.1 || (!(a.2.isPrefixOf b.2) && !(b.2.isPrefixOf a.2))
def apartAll : List (Option (Root × Path)) → Bool
  | [] => true
  | none :: ls => apartAll ls
  | some a :: ls => ls.all (fun b => match b with | some b => apart a b | none => true) && apartAll ls
section
variable {P : Program} {w w0 w' : World} {g g0 gr : Gh} {σ : St} {a : Act} {o : Store}
theorem expR_length {cs ds : List C} (h : expR o cs = some ds) : ds.length = cs.length := by
  induction cs generalizing ds with
  | nil => simp [expR] at h; simp [← h]
  | cons c cs ih =>
    simp only [expR] at h
    split at h
    · rename_i c' cs' h1 h2; cases h; simp [ih h2]
    · cases h
theorem expR_get {cs ds : List C} (h : expR o cs = some ds) (j : Nat) (hj : j < cs.length) : expC o (cs.getD j .bad) = some (ds.getD j .bad) := by
  induction cs generalizing ds j with
  | nil => simp at hj
  | cons c cs ih =>
    simp only [expR] at h
    split at h
    · rename_i c' cs' h1 h2
      cases h
      cases j with
      | zero => simpa using h1
      | succ j => simpa using ih h2 j (by simpa using hj)
    · cases h
theorem expC_own {c : C} {sz : Nat} {R : List (List C)} (h : expC o c = some (.own sz R)) : ∃ r p, c = .rs r p sz 0 R.length ∧ Live o r p sz R ∧ nrRR R = true := by
  unfold expC at h
  split at h <;> try cases h
  rename_i r p sz' off len
  split at h
  · rename_i ob hob
    split at h
    · rename_i s' R' hR
      split at h
      · rename_i hc
        obtain ⟨rfl, rfl, rfl, hn⟩ := hc
        cases h
        exact ⟨r, p, rfl, ⟨ob, hob, hR⟩, hn⟩
      · cases h
    · cases h
  · cases h
theorem expC_nr {c d : C} (h : expC o c = some d) : nr d = true := by
  unfold expC at h
  split at h <;> first | (cases h; rfl) | skip
  · rename_i r p sz' off len
    split at h
    · split at h
      · split at h
        · rename_i hc; cases h; simpa [nr] using hc.2.2.2
        · cases h
      · cases h
    · cases h
  · cases h
theorem expR_nr {cs ds : List C} (h : expR o cs = some ds) : nrR ds = true := by
  induction cs generalizing ds with
  | nil => simp only [expR, Option.some.injEq] at h; subst h; rfl
  | cons c cs ih =>
    simp only [expR] at h
    split at h
    · rename_i c' cs' h1 h2; cases h; simp [nrR, expC_nr h1, ih h2]
    · cases h
theorem apartAll_spec {ls : List (Option (Root × Path))} (h : apartAll ls = true) : ∀ (i j : Nat) (x y : Root × Path), ls[i]? = some (some x) → ls[j]? = some (some y) → i < j → apart x y = true := by
  induction ls with
  | nil => intro i j x y hi; simp at hi
  | cons l ls ih =>
    intro i j x y hi hj hij
    have hrest : apartAll ls = true := by
      cases l with
      | none => exact h
      | some b => simp only [apartAll, Bool.and_eq_true] at h; exact h.2
    cases j with
    | zero => omega
    | succ j =>
      simp only [List.getElem?_cons_succ] at hj
      cases i with
      | zero =>
        simp only [List.getElem?_cons_zero, Option.some.injEq] at hi
        subst hi
        simp only [apartAll, Bool.and_eq_true, List.all_eq_true] at h
        exact h.1 (some y) (List.mem_of_getElem? hj)
      | succ i =>
        simp only [List.getElem?_cons_succ] at hi
        exact ih hrest i j x y hi hj (by omega)
theorem prefix_of_eq : ∀ (p q p' q' : Path), p ++ q = p' ++ q' → p.isPrefixOf p' = true ∨ p'.isPrefixOf p = true
  | [], _, _, _, _ => .inl (by simp)
  | _ :: _, _, [], _, _ => .inr (by simp)
  | x :: p, q, y :: p', q', h => by
    simp only [List.cons_append, List.cons.injEq] at h
    obtain ⟨rfl, h⟩ := h
    rcases prefix_of_eq p q p' q' h with h1 | h1
    · left; simp [List.isPrefixOf, h1]
    · right; simp [List.isPrefixOf, h1]
def retG (g : Gh) (cs : List C) : Gh := { g with G := fun r p => if r = rho then (match p with
  | (0, j) :: q => (match cs.getD j .bad with | .rs r' p' _ _ _ => g.G r' (p' ++ q) | _ => none)
  | _ => none) else none }
theorem export_rel (hh : HeapRel w o g) (hk : ∀ r ob, getA o r = some ob → ob.kind ≠ .vr) {cs : List C} {xs : List X} {zs : List Value} (he : expR o cs = some (retRow xs)) (ha : apartAll (cs.map locC) = true)
    (hz : zs.length = cs.length) (hc : ∀ j, j < cs.length → CR w o g none (cs.getD j .bad) (zs.getD j undef)) : RetR w (retG g cs) xs zs := by
  have hlen := expR_length he
  generalize hrow : retRow xs = row at *
  have hstore : ∀ r ob, getA (retStore xs) r = some ob → r = rho ∧ ob = ⟨.vr, row.length, [row]⟩ := by
    intro r ob h
    simp only [retStore, getA, hrow] at h
    split at h
    · rename_i e; cases h; exact ⟨e.symm, rfl⟩
    · cases h
  have key : ∀ r p m K, Live (retStore xs) r p m K → (r = rho ∧ p = [] ∧ K = [row]) ∨
      ∃ j q r' p' s R, j < cs.length ∧ r = rho ∧ p = (0, j) :: q ∧ cs.getD j .bad = .rs r' p' s 0 R.length ∧ Live o r' p' s R ∧ nrRR R = true ∧ rowsAt s R q = some (m, K) := by
    rintro r p m K ⟨ob, h1, h2⟩
    obtain ⟨rfl, rfl⟩ := hstore r ob h1
    cases p with
    | nil =>
      simp only [rowsAt, Option.some.injEq, Prod.mk.injEq] at h2
      exact .inl ⟨rfl, rfl, h2.2.symm⟩
    | cons x q =>
      obtain ⟨i, j⟩ := x
      simp only [rowsAt] at h2
      split at h2
      · rename_i s R hb
        obtain ⟨k1, k2, k3⟩ := bind_cell hb
        obtain rfl : i = 0 := by simp at k1; omega
        have hj : j < cs.length := by rw [← hlen]; simpa using k2
        have k3' : row.getD j .bad = .own s R := by simpa [cellAt] using k3
        have := expR_get he j hj
        rw [k3'] at this
        obtain ⟨r', p', e1, e2, e3⟩ := expC_own this
        exact .inr ⟨j, q, r', p', s, R, hj, rfl, rfl, e1, e2, e3, h2⟩
      · cases h2
  have hG : ∀ j q r' p' s n, cs.getD j .bad = .rs r' p' s 0 n → (retG g cs).G rho ((0, j) :: q) = g.G r' (p' ++ q) := fun j q r' p' s n h => by
    simp only [retG, if_true, h]
  have hSl : ∀ r p r' p' s off len y, (retG g cs).G r p = g.G r' p' → SlAt g w r' p' s off len y → SlAt (retG g cs) w r p s off len y := fun r p r' p' s off len y he h => by
    unfold SlAt at *; rw [he]; exact h
  have hold : ∀ r' p' s R q m K, Live o r' p' s R → rowsAt s R q = some (m, K) → Live o r' (p' ++ q) m K := fun r' p' s R q m K ⟨ob, h1, h2⟩ hq => ⟨ob, h1, rowsAt_append h2 hq⟩
  refine ⟨⟨?_, ?_, ?_, hh.S⟩, by rw [hrow]; exact expR_nr he, by rw [hrow]; omega, fun j hj => ?_⟩
  · intro r p m K b hl hg
    rcases key r p m K hl with ⟨rfl, rfl, rfl⟩ | ⟨j, q, r', p', s, R, hj, rfl, rfl, e1, e2, e3, e4⟩
    · simp [retG] at hg
    · rw [hG j q r' p' s _ e1] at hg
      obtain ⟨k1, k2, cells, e, f, k3, kf, k4, k5⟩ := hh.rows r' (p' ++ q) m K b (hold _ _ _ _ _ _ _ e2 e4) hg
      refine ⟨k1, k2, cells, e, f, k3, kf, k4, fun i k hi hk' => ?_⟩
      have hn := nrRR_get (nrRR_rowsAt e3 e4) i k
      have hc' := k5 i k hi hk'
      generalize cellAt K i k = c at hn hc' ⊢
      cases c with
      | v x => exact hc'
      | sh s1 Q => exact hc'
      | ps cs => exact hc'
      | bad => trivial
      | rs => simp [nr] at hn
      | pt => simp [nr] at hn
      | own s1 Q =>
        refine hSl _ _ r' (p' ++ q ++ [(i, k)]) _ _ _ _ ?_ hc'
        rw [List.cons_append, hG j _ r' p' s _ e1, List.append_assoc]
  · intro r p ob m K h1 h2 hg
    rcases key r p m K ⟨ob, h1, h2⟩ with ⟨rfl, rfl, rfl⟩ | ⟨j, q, r', p', s, R, hj, rfl, rfl, e1, e2, e3, e4⟩
    · obtain ⟨_, rfl⟩ := hstore _ _ h1
      exact .inr ⟨rfl, rfl⟩
    · rw [hG j q r' p' s _ e1] at hg
      obtain ⟨ob', f1, f2⟩ := hold _ _ _ _ _ _ _ e2 e4
      rcases hh.none r' _ ob' m K f1 f2 hg with h | ⟨h, _⟩
      · exact .inl h
      · exact absurd h (hk _ _ f1)
  · intro r p m K r2 p2 m2 K2 b hl hl2 hg hg2
    rcases key r p m K hl with ⟨rfl, rfl, rfl⟩ | ⟨j, q, r', p', s, R, hj, rfl, rfl, e1, e2, e3, e4⟩
    · simp [retG] at hg
    rcases key r2 p2 m2 K2 hl2 with ⟨rfl, rfl, rfl⟩ | ⟨j', q', r'', p'', s', R', hj', rfl, rfl, e1', e2', e3', e4'⟩
    · simp [retG] at hg2
    rw [hG j q r' p' s _ e1] at hg
    rw [hG j' q' r'' p'' s' _ e1'] at hg2
    obtain ⟨rfl, hpq⟩ := hh.inj _ _ _ _ _ _ _ _ b (hold _ _ _ _ _ _ _ e2 e4) (hold _ _ _ _ _ _ _ e2' e4') hg hg2
    have hloc : ∀ j r p s n, j < cs.length → cs.getD j .bad = .rs r p s 0 n → (cs.map locC)[j]? = some (some (r, p)) := fun j r p s n hj h => by
      have : cs[j]? = some (.rs r p s 0 n) := by
        rw [← h, List.getD_eq_getElem?_getD, List.getElem?_eq_getElem hj]; rfl
      simp [List.getElem?_map, this, locC]
    have hnot : apart (r', p') (r', p'') = true → False := fun h => by
      rcases prefix_of_eq p' q p'' q' hpq with h1 | h1 <;> simp [apart, h1] at h
    have hnot' : apart (r', p'') (r', p') = true → False := fun h => by
      rcases prefix_of_eq p' q p'' q' hpq with h1 | h1 <;> simp [apart, h1] at h
    rcases Nat.lt_trichotomy j j' with hlt | heq | hgt
    · exact (hnot (apartAll_spec ha j j' _ _ (hloc _ _ _ _ _ hj e1) (hloc _ _ _ _ _ hj' e1') hlt)).elim
    · subst heq
      rw [e1] at e1'
      obtain ⟨_, hp, _⟩ := C.rs.inj e1'
      subst hp
      exact ⟨rfl, by rw [List.append_cancel_left hpq]⟩
    · exact (hnot' (apartAll_spec ha j' j _ _ (hloc _ _ _ _ _ hj' e1') (hloc _ _ _ _ _ hj e1) hgt)).elim
  · rw [hrow] at hj ⊢
    have hj' : j < cs.length := by omega
    have h1 := expR_get he j hj'
    have h2 := hc j hj'
    generalize hd : row.getD j .bad = d at h1 ⊢
    cases d with
    | own s R =>
      obtain ⟨r', p', e1, e2, e3⟩ := expC_own h1
      rw [e1] at h2
      obtain ⟨_, _, _, hs⟩ := h2
      refine hSl _ _ r' p' _ _ _ _ ?_ hs
      rw [List.nil_append, hG j [] r' p' s _ e1, List.append_nil]
    | bad => trivial
    | _ =>
      unfold expC at h1
      split at h1 <;> first
        | (rename_i e; rw [e] at h2; cases h1; exact h2)
        | (cases h1; done)
        | (exfalso; split at h1 <;> (try split at h1) <;> (try split at h1) <;> cases h1)
end
end Go.Rx
namespace Go.Rx
open Go.RowKit
def newRoots (d N : Nat) : Nat → List C → Store
  | _, [] => []
  | j, c :: cs => match c with
    | .own sz R => ((d, N * 64 + j), ⟨.sl, sz, R⟩) :: newRoots d N (j + 1) cs
    | _ => newRoots d N (j + 1) cs
def impC (d N j : Nat) : C → C
  | .own sz R => .rs (d, N * 64 + j) [] sz 0 R.length
  | c => c
def impCs (d N : Nat) : Nat → List C → List C
  | _, [] => []
  | j, c :: cs => impC d N j c :: impCs d N (j + 1) cs
def impXs (d N : Nat) : Nat → List X → List X
  | _, [] => []
  | j, .one c :: xs => .one (impC d N j c) :: impXs d N (j + 1) xs
  | j, .agg cs :: xs => .agg (impCs d N j cs) :: impXs d N (j + cs.length) xs
def packT : List X → V
  | [x] => .x x
  | xs => .tup xs
def freshR (l : Store) : Store → Bool
  | [] => true
  | (k, _) :: s => (getA l k).isNone && freshR l s
def impSt (σ : St) (N : Nat) (ret : List X) : St := { σ with l := newRoots σ.d N 0 (retRow ret) ++ σ.l }
theorem getA_newRoots (d N : Nat) : ∀ (cs : List C) (j : Nat) (r : Root) (ob : Obj'), getA (newRoots d N j cs) r = some ob →
    ∃ i sz R, i < cs.length ∧ cs.getD i .bad = .own sz R ∧ r = (d, N * 64 + (j + i)) ∧ ob = ⟨.sl, sz, R⟩
  | [], j, r, ob, h => by simp [newRoots, getA] at h
  | c :: cs, j, r, ob, h => by
    have rest : getA (newRoots d N (j + 1) cs) r = some ob → ∃ i sz R, i < (c :: cs).length ∧ (c :: cs).getD i .bad = .own sz R ∧ r = (d, N * 64 + (j + i)) ∧ ob = ⟨.sl, sz, R⟩ := fun h => by
      obtain ⟨i, sz, R, h1, h2, h3, h4⟩ := getA_newRoots d N cs (j + 1) r ob h
      exact ⟨i + 1, sz, R, by simpa using h1, by simpa using h2, by rw [h3]; congr 2; omega, h4⟩
    cases c with
    | own sz R =>
      simp only [newRoots, getA] at h
      split at h
      · rename_i e
        cases h
        exact ⟨0, sz, R, by simp, by simp, by rw [← e]; rfl, rfl⟩
      · exact rest h
    | _ => exact rest h
theorem newRoots_getA (d N : Nat) : ∀ (cs : List C) (j i : Nat) (sz : Nat) (R : List (List C)), i < cs.length → cs.getD i .bad = .own sz R →
    getA (newRoots d N j cs) (d, N * 64 + (j + i)) = some ⟨.sl, sz, R⟩
  | [], j, i, sz, R, h, _ => absurd h (Nat.not_lt_zero _)
  | c :: cs, j, i, sz, R, h, hc => by
    cases i with
    | zero =>
      simp only [List.getD_cons_zero] at hc
      subst hc
      simp [newRoots, getA]
    | succ i =>
      have ih := newRoots_getA d N cs (j + 1) i sz R (by simpa using h) (by simpa using hc)
      rw [show j + 1 + i = j + (i + 1) by omega] at ih
      cases c with
      | own s Q =>
        simp only [newRoots, getA]
        rw [if_neg (by simp), ih]
      | _ => exact ih
theorem freshR_spec {l s : Store} (h : freshR l s = true) {r : Root} {ob : Obj'} (hr : getA s r = some ob) : getA l r = none := by
  induction s with
  | nil => simp [getA] at hr
  | cons x s ih =>
    obtain ⟨k, o⟩ := x
    simp only [freshR, Bool.and_eq_true, Option.isNone_iff_eq_none] at h
    simp only [getA] at hr
    split at hr
    · rename_i e; rw [← e]; exact h.1
    · exact ih h.2 hr
section
variable {P : Program} {w w0 w' : World} {g g0 gr : Gh} {σ : St} {a : Act} {o : Store}
theorem impXs_rel {d N : Nat} : ∀ (xs : List X) (j : Nat) (zs : List Value), zs.length = (retRow xs).length →
    (∀ i, i < (retRow xs).length → CR w o g none (impC d N (j + i) ((retRow xs).getD i .bad)) (zs.getD i undef)) →
    (packX xs zs).length = (impXs d N j xs).length ∧ ∀ k, k < (impXs d N j xs).length → XR w o g ((impXs d N j xs).getD k (.one .bad)) ((packX xs zs).getD k undef)
  | [], j, zs, _, _ => by simp [packX, impXs]
  | .one c :: xs, j, zs, hz, h => by
    simp only [retRow, cellsOf, List.length_append, List.length_cons, List.length_nil] at hz h
    obtain ⟨l1, l2⟩ := impXs_rel xs (j + 1) (zs.drop 1) (by simp; omega) (fun i hi => by
      have := h (i + 1) (by omega)
      rw [show j + (i + 1) = j + 1 + i by omega] at this
      simpa [List.getD_eq_getElem?_getD, List.getElem?_drop, Nat.add_comm] using this)
    refine ⟨by simp only [packX, impXs, List.length_cons, l1], fun k hk => ?_⟩
    cases k with
    | zero =>
      have := h 0 (by omega)
      simp only [packX, impXs, List.getD_cons_zero]
      cases zs with
      | nil => simp only [List.length_nil] at hz; omega
      | cons z zs =>
        simp only [List.headD_cons]
        show CR w o g none _ _
        simpa using this
    | succ k =>
      simp only [packX, impXs, List.getD_cons_succ]
      exact l2 k (by simpa [impXs] using hk)
  | .agg cs :: xs, j, zs, hz, h => by
    simp only [retRow, cellsOf, List.length_append] at hz h
    obtain ⟨l1, l2⟩ := impXs_rel xs (j + cs.length) (zs.drop cs.length) (by simp; omega) (fun i hi => by
      have := h (cs.length + i) (by omega)
      rw [← Nat.add_assoc] at this
      simpa [List.getD_eq_getElem?_getD, List.getElem?_drop, List.getElem?_append_right] using this)
    refine ⟨by simp only [packX, impXs, List.length_cons, l1], fun k hk => ?_⟩
    have hlen : ∀ (cs : List C) (j : Nat), (impCs d N j cs).length = cs.length := by
      intro cs; induction cs with
      | nil => intro j; rfl
      | cons c cs ih => intro j; simp [impCs, ih]
    have hget : ∀ (cs : List C) (j i : Nat), i < cs.length → (impCs d N j cs).getD i .bad = impC d N (j + i) (cs.getD i .bad) := by
      intro cs; induction cs with
      | nil => intro j i hi; simp at hi
      | cons c cs ih =>
        intro j i hi
        cases i with
        | zero => simp [impCs]
        | succ i =>
          have := ih (j + 1) i (by simpa using hi)
          simp only [impCs, List.getD_cons_succ, this]
          rw [show j + 1 + i = j + (i + 1) by omega]
    cases k with
    | zero =>
      simp only [packX, impXs, List.getD_cons_zero]
      refine ⟨_, rfl, by simp [hlen]; omega, fun i hi => ?_⟩
      rw [hlen] at hi
      rw [hget cs j i hi]
      have := h i (by omega)
      simpa [List.getD_eq_getElem?_getD, List.getElem?_append_left hi, hi] using this
    | succ k =>
      simp only [packX, impXs, List.getD_cons_succ]
      exact l2 k (by simpa [impXs] using hk)
theorem packT_rel {xs : List X} {zs : List Value} (hl : zs.length = xs.length) (h : ∀ k, k < xs.length → XR w o g (xs.getD k (.one .bad)) (zs.getD k undef)) : VR w o g (packT xs) (packV zs) := by
  match xs, zs, hl with
  | [], [], _ => exact ⟨[], rfl, rfl, fun j hj => absurd hj (Nat.not_lt_zero _)⟩
  | [x], [z], _ => exact h 0 (by simp)
  | x :: y :: xs, z :: u :: zs, hl => exact ⟨_, rfl, hl, h⟩
theorem Rel.take (h : Rel g0 w0 σ g a w) {ret : List X} {zs : List Value} (hk : Keep (Sall w) w gr w') (hr : RetR w' gr ret zs) (hpo : poR (retRow ret) = true) (N : Nat)
    (hf : freshR σ.l (newRoots σ.d N 0 (retRow ret)) = true) :
    ∃ g', Rel g0 w0 (impSt σ N ret) g' a w' ∧ VR w' (impSt σ N ret).o g' (packT (impXs σ.d N 0 ret)) (packV (packX ret zs)) ∧ Goes w σ.o g w' (impSt σ N ret).o g' := by
  generalize hrow : retRow ret = row at *
  -- the new ghost
  let g' : Gh := { g with G := fun r p => match getA (newRoots σ.d N 0 row) r with | some _ => gr.G rho ((0, r.2 - N * 64) :: p) | none => g.G r p }
  have hgetA : ∀ r, getA (impSt σ N ret).o r = match getA (newRoots σ.d N 0 row) r with | some ob => some ob | none => getA σ.o r := fun r => by
    show getA ((newRoots σ.d N 0 (retRow ret) ++ σ.l) ++ σ.g) r = _
    rw [hrow, List.append_assoc, getA_append]; rfl
  have hdis : ∀ r ob, getA σ.o r = some ob → getA (newRoots σ.d N 0 row) r = none := fun r ob hro => by
    cases hn : getA (newRoots σ.d N 0 row) r with
    | none => rfl
    | some ob' =>
      exfalso
      have h1 := freshR_spec hf hn
      have h2 : getA (σ.l ++ σ.g) r = some ob := hro
      rw [getA_append, h1] at h2
      obtain ⟨i, sz, R, _, _, e, _⟩ := getA_newRoots _ _ _ _ _ _ hn
      have := h.out r ob h2
      rw [e] at this
      exact Nat.lt_irrefl _ this
  have hGnew : ∀ j s R p, j < row.length → row.getD j .bad = .own s R → g'.G (σ.d, N * 64 + j) p = gr.G rho ((0, j) :: p) := fun j s R p hj hc => by
    have := newRoots_getA σ.d N row 0 j s R hj hc
    rw [Nat.zero_add] at this
    show (match getA (newRoots σ.d N 0 row) _ with | some _ => _ | none => _) = _
    rw [this]
    simp
  have hGold : ∀ r ob p, getA σ.o r = some ob → g'.G r p = g.G r p := fun r ob p hro => by
    show (match getA (newRoots σ.d N 0 row) _ with | some _ => _ | none => _) = _
    rw [hdis r ob hro]
  have hlv : ∀ r p m K, Live (impSt σ N ret).o r p m K → (∃ j s R, j < row.length ∧ row.getD j .bad = .own s R ∧ r = (σ.d, N * 64 + j) ∧ rowsAt s R p = some (m, K)) ∨ Live σ.o r p m K := by
    rintro r p m K ⟨ob, h1, h2⟩
    rw [hgetA] at h1
    split at h1
    · rename_i ob' hn
      cases h1
      obtain ⟨i, sz, R, e1, e2, e3, rfl⟩ := getA_newRoots _ _ _ _ _ _ hn
      exact .inl ⟨i, sz, R, e1, e2, by rw [e3, Nat.zero_add], h2⟩
    · exact .inr ⟨ob, h1, h2⟩
  have hlr : ∀ j s R p m K, j < row.length → row.getD j .bad = .own s R → rowsAt s R p = some (m, K) → Live (retStore ret) rho ((0, j) :: p) m K := fun j s R p m K hj hc hp => by
    refine ⟨⟨.vr, row.length, [row]⟩, by simp [retStore, getA, hrow], ?_⟩
    have : ([row][0]?).bind (·[j]?) = some (.own s R) := by
      rw [← hc]; simp [List.getD_eq_getElem?_getD, List.getElem?_eq_getElem hj]
    simp only [rowsAt, this]
    exact hp
  have hblk : ∀ k, k < w.heap.size → w'.heap[k]? = w.heap[k]? := fun k hk' => hk.block k hk'
  have hgoes : Goes w σ.o g w' (impSt σ N ret).o g' := by
    refine ⟨fun k hk' => ⟨hk', hblk k (h.heap.S k hk')⟩, fun r p m K hl => ?_⟩
    obtain ⟨ob, h1, h2⟩ := hl
    refine ⟨⟨K, ⟨ob, by rw [hgetA, hdis r ob h1]; exact h1, h2⟩, Nat.le_refl _⟩, hGold r ob p h1, fun b cs e f _ hb => ⟨cs, by rw [hblk b (block_lt hb)]; exact hb, rfl⟩⟩
  have hSl : ∀ j s R p off sz len y, j < row.length → row.getD j .bad = .own s R → SlAt gr w' rho ((0, j) :: p) sz off len y → SlAt g' w' (σ.d, N * 64 + j) p sz off len y :=
    fun j s R p off sz len y hj hc hs => by
      unfold SlAt at *; rw [hGnew j s R p hj hc]; exact hs
  have hgS : ∀ k, g.S k → gr.S k := fun k hk' => hk.S k (h.heap.S k hk')
  refine ⟨g', ⟨h.defers, h.size, fun i hi => VR.goes hgoes (h.tmps i hi), ⟨?_, ?_, ?_, ?_⟩, ⟨hk.os.trans h.keep.os, hk.tape.trans h.keep.tape, hk.output.trans h.keep.output, Nat.le_trans h.keep.size hk.size, h.keep.S, ?_⟩, ?_, h.out, ?_, h.maps.mono (fun r ob h1 h2 => (by
      rw [hgetA] at h1
      split at h1
      · rename_i hn
        cases h1
        obtain ⟨i, sz, R, _, _, _, rfl⟩ := getA_newRoots _ _ _ _ _ _ hn
        cases h2
      · exact ⟨ob, h1, rfl⟩)) (fun b arr cl h1 h2 => ⟨by rw [hblk b (block_lt h1)]; exact h1, h2⟩) (.ext (fun k hk' _ => hblk k hk') (fun _ _ hs => hs) fun r p m K k hl hG hk' => (by
      rcases hlv r p m K hl with ⟨j, s, R, hj, hc, rfl, hp⟩ | hl'
      · rw [hGnew j s R p hj hc] at hG
        obtain ⟨k1, _⟩ := hr.heap.rows rho _ m K k (hlr j s R p m K hj hc hp) hG
        exact absurd (hk.S k hk') k1
      · obtain ⟨ob, h1, _⟩ := id hl'
        rw [hGold r ob p h1] at hG
        exact ⟨_, _, _, _, hl', hG⟩)), h.pin.goes hgoes fun _ ob h => ⟨ob, h⟩⟩, ?_, hgoes⟩
  · intro r p m K b hl hg
    rcases hlv r p m K hl with ⟨j, s, R, hj, hc, rfl, hp⟩ | hl'
    · rw [hGnew j s R p hj hc] at hg
      obtain ⟨k1, k2, cells, e, f, k3, kf, k4, k5⟩ := hr.heap.rows rho _ m K b (hlr j s R p m K hj hc hp) hg
      refine ⟨fun hs => k1 (hgS b hs), k2, cells, e, f, k3, kf, k4, fun i k hi hk' => ?_⟩
      have hpoR : poRR R = true := by have := poR_get hpo j hj; rw [hc] at this; simpa [po] using this
      have hn := poRR_get (poRR_rowsAt hpoR hp) i k hi (by rw [k2 i hi]; exact hk')
      have hc' := k5 i k hi hk'
      generalize cellAt K i k = c at hn hc' ⊢
      cases c with
      | v x => exact hc'
      | own s1 Q =>
        exact hSl j s R (p ++ [(i, k)]) _ _ _ _ hj hc hc'
      | _ => simp [po] at hn
    · obtain ⟨ob, h1, _⟩ := id hl'
      rw [hGold r ob p h1] at hg
      obtain ⟨k1, k2, cells, e, f, k3, kf, k4, k5⟩ := h.heap.rows r p m K b hl' hg
      exact ⟨k1, k2, cells, e, f, by rw [hblk b (block_lt k3)]; exact k3, kf, k4, fun i k hi hk' => CR.goesAt hgoes hl' hi (by rw [k2 i hi]; exact hk') (k5 i k hi hk')⟩
  · intro r p ob m K h1 h2 hg
    rcases hlv r p m K ⟨ob, h1, h2⟩ with ⟨j, s, R, hj, hc, rfl, hp⟩ | ⟨ob', h1', h2'⟩
    · rw [hGnew j s R p hj hc] at hg
      obtain ⟨ob2, f1, f2⟩ := hlr j s R p m K hj hc hp
      rcases hr.heap.none rho _ ob2 m K f1 f2 hg with e | ⟨_, e⟩
      · exact .inl e
      · cases e
    · rw [hGold r ob' p h1'] at hg
      rw [hgetA, hdis r ob' h1'] at h1
      have h3 : getA σ.o r = some ob := h1
      rw [h3] at h1'
      cases h1'
      exact h.heap.none r p ob m K h1 h2 hg
  · intro r p m K r2 p2 m2 K2 b hl hl2 hg hg2
    have hnew : ∀ j s R p m K, j < row.length → row.getD j .bad = .own s R → rowsAt s R p = some (m, K) → gr.G rho ((0, j) :: p) = some b → w.heap.size ≤ b := fun j s R p m K hj hc hp hg => by
      obtain ⟨k1, _⟩ := hr.heap.rows rho _ m K b (hlr j s R p m K hj hc hp) hg
      rcases Nat.lt_or_ge b w.heap.size with h' | h'
      · exact absurd (hk.S b h') k1
      · exact h'
    have hold : ∀ r p m K, Live σ.o r p m K → g.G r p = some b → b < w.heap.size := fun r p m K hl hg => by
      obtain ⟨_, _, cells, e, f, k3, _⟩ := h.heap.rows r p m K b hl hg
      exact block_lt k3
    rcases hlv r p m K hl with ⟨j, s, R, hj, hc, rfl, hp⟩ | hl' <;> rcases hlv r2 p2 m2 K2 hl2 with ⟨j', s', R', hj', hc', rfl, hp'⟩ | hl2'
    · rw [hGnew j s R p hj hc] at hg
      rw [hGnew j' s' R' p2 hj' hc'] at hg2
      obtain ⟨_, e⟩ := hr.heap.inj _ _ _ _ _ _ _ _ b (hlr j s R p m K hj hc hp) (hlr j' s' R' p2 m2 K2 hj' hc' hp') hg hg2
      obtain ⟨e1, e2⟩ := List.cons.inj e
      cases e1
      exact ⟨rfl, e2⟩
    · rw [hGnew j s R p hj hc] at hg
      obtain ⟨ob, h1, _⟩ := id hl2'
      rw [hGold r2 ob p2 h1] at hg2
      have := hnew j s R p m K hj hc hp hg
      have := hold _ _ _ _ hl2' hg2
      omega
    · rw [hGnew j' s' R' p2 hj' hc'] at hg2
      obtain ⟨ob, h1, _⟩ := id hl'
      rw [hGold r ob p h1] at hg
      have := hnew j' s' R' p2 m2 K2 hj' hc' hp' hg2
      have := hold _ _ _ _ hl' hg
      omega
    · obtain ⟨ob, h1, _⟩ := id hl'
      obtain ⟨ob2, h12, _⟩ := id hl2'
      rw [hGold r ob p h1] at hg
      rw [hGold r2 ob2 p2 h12] at hg2
      exact h.heap.inj _ _ _ _ _ _ _ _ b hl' hl2' hg hg2
  · intro k hk'
    exact Nat.lt_of_lt_of_le (h.heap.S k hk') hk.size
  · intro k hk'
    rw [hblk k (h.heap.S k (h.keep.S k hk'))]
    exact h.keep.block k hk'
  · intro r ob hro
    change getA (newRoots σ.d N 0 (retRow ret) ++ σ.l) r = some ob at hro
    rw [hrow, getA_append] at hro
    split at hro
    · rename_i hn
      obtain ⟨i, sz, R, _, _, e, _⟩ := getA_newRoots _ _ _ _ _ _ hn
      rw [e]; exact Nat.le_refl _
    · exact h.loc r ob hro
  · intro r ob hro
    rw [hgetA] at hro
    split at hro
    · rename_i hn
      cases hro
      obtain ⟨i, sz, R, e1, e2, _, rfl⟩ := getA_newRoots _ _ _ _ _ _ hn
      have := nrR_get (hrow ▸ hr.nr) i
      rw [e2] at this
      simpa [okObj, nr] using this
    · exact h.obj r ob hro
  · have hz := hr.len
    have := impXs_rel (w := w') (o := (impSt σ N ret).o) (g := g') (d := σ.d) (N := N) ret 0 zs hz (fun i hi => by
      have hc := hr.cells i hi
      rw [hrow] at hc hi ⊢
      have hp := poR_get hpo i hi
      generalize hcc : row.getD i .bad = c at hc hp ⊢
      cases c with
      | v x => exact hc
      | own s R =>
        rw [Nat.zero_add]
        refine ⟨R, ⟨⟨.sl, s, R⟩, ?_, rfl⟩, by omega, hSl i s R [] _ _ _ _ hi hcc hc⟩
        rw [hgetA]
        have := newRoots_getA σ.d N row 0 i s R hi hcc
        rw [Nat.zero_add] at this
        rw [this]
      | _ => simp [po] at hp)
    exact packT_rel this.1 this.2
end
end Go.Rx
namespace Go.Rx
open Go.RowKit
theorem nrRR_all (R : List (List C)) : nrRR R = R.all nrR := by induction R <;> simp_all [nrRR]
theorem getD_flat (cells : Array Value) (n : Nat) (h : n < cells.size) : cells.toList.getD n undef = cells.getD n undef := by
  simp [List.getD_eq_getElem?_getD, Array.getD, h]
def T2 : List V → List V → Prop
  | [], [] => True
  | a :: as, b :: bs => (b = a ∨ b = .x (.one .bad)) ∧ T2 as bs
  | _, _ => False
theorem T2_len : ∀ {t t' : List V}, T2 t t' → t'.length = t.length
  | [], [], _ => rfl
  | _ :: _, _ :: _, h => by simp [T2_len h.2]
theorem T2_get : ∀ {t t' : List V}, T2 t t' → ∀ i, t'.getD i (.x (.one .bad)) = t.getD i (.x (.one .bad)) ∨ t'.getD i (.x (.one .bad)) = .x (.one .bad)
  | [], [], _, _ => .inl rfl
  | _ :: _, _ :: _, h, 0 => h.1
  | _ :: _, _ :: _, h, i + 1 => T2_get h.2 i
def refOkC (d : Nat) (l : Store) (c : C) : Bool := match refRoot c with | some r => decide (r.1 < d) || (getA l r).isSome | none => true
def refOkX (d : Nat) (l : Store) : X → Bool
  | .one c => refOkC d l c
  | .agg cs => cs.all (refOkC d l)
def refOkV (d : Nat) (l : Store) : V → Bool
  | .x x => refOkX d l x
  | .tup xs => xs.all (refOkX d l)
def refOkO (d : Nat) (l : Store) (ob : Obj') : Bool := match ob.kind with | .box => ob.rows.all fun row => row.all (refOkC d l) | _ => true
def SubS (l : Store) : Store → Prop
  | [] => True
  | (k, ob) :: s => getA l k = some ob ∧ SubS l s
theorem SubS_get {l : Store} : ∀ {s : Store}, SubS l s → ∀ r ob, getA s r = some ob → getA l r = some ob
  | [], _, r, ob, h => by cases h
  | (k, o) :: s, hs, r, ob, h => by
    simp only [getA] at h
    split at h
    · rename_i e; cases h; rw [← e]; exact hs.1
    · exact SubS_get hs.2 r ob h
theorem Rel.same {t t' : List V} {d : Nat} {l g : Store} {g0 gh : Gh} {w0 w : World} {a : Act} (h : T2 t t') (hr : Rel g0 w0 ⟨t, d, l, g⟩ gh a w) : Rel g0 w0 ⟨t', d, l, g⟩ gh a w :=
  ⟨hr.defers, by rw [T2_len h]; exact hr.size, fun i hi => by
    rcases T2_get h i with e | e
    · show VR w _ gh (t'.getD i _) _
      rw [e]; exact hr.tmps i (by show i < t.length; rw [← T2_len h]; exact hi)
    · show VR w _ gh (t'.getD i _) _
      rw [e]; trivial, hr.heap, hr.keep, hr.loc, hr.out, hr.obj, hr.maps, hr.pin⟩
theorem nr_refRoot {c : C} (h : nr c = true) : refRoot c = none := by cases c <;> first | rfl | simp [nr] at h
theorem cellAt_mem {R : List (List C)} {i j : Nat} {r : Root} (h : refRoot (cellAt R i j) = some r) : i < R.length ∧ j < (R.getD i []).length := by
  unfold cellAt at h
  by_cases hi : i < R.length
  · refine ⟨hi, ?_⟩
    by_cases hj : j < (R.getD i []).length
    · exact hj
    · rw [List.getD_eq_getElem?_getD (l := R.getD i []), List.getElem?_eq_none (by omega)] at h; cases h
  · rw [List.getD_eq_getElem?_getD (l := R), List.getElem?_eq_none (by omega)] at h; cases h
theorem live_ref {ob : Obj'} {p : Path} {sz : Nat} {R : List (List C)} {i j : Nat} {r : Root} (h : okObj ob = true) (hR : rowsAt ob.sz ob.rows p = some (sz, R)) (hc : refRoot (cellAt R i j) = some r) :
    ob.kind = .box ∧ p = [] ∧ R = ob.rows := by
  unfold okObj at h
  split at h
  · have := nr_refRoot (nrRR_get (nrRR_rowsAt h hR) i j)
    rw [this] at hc; cases hc
  · rename_i hk
    cases p with
    | nil => simp only [rowsAt, Option.some.injEq, Prod.mk.injEq] at hR; exact ⟨hk, rfl, hR.2.symm⟩
    | cons q p =>
      obtain ⟨a, b⟩ := q
      simp only [rowsAt] at hR
      split at hR
      · rename_i s' R' hcell
        rw [Option.bind_eq_some_iff] at hcell
        obtain ⟨row, h1, h2⟩ := hcell
        rw [List.all_eq_true] at h
        have h3 := List.all_eq_true.1 (h row (List.mem_of_getElem? h1)) _ (List.mem_of_getElem? h2)
        have h4 : nrRR R' = true := by simpa [refOr, nr] using h3
        have := nr_refRoot (nrRR_get (nrRR_rowsAt h4 hR) i j)
        rw [this] at hc; cases hc
      · cases hR
  · cases h
  · have h0 : ob.rows = [] := by simpa using h
    rw [h0] at hR
    cases p with
    | nil =>
      simp only [rowsAt, Option.some.injEq, Prod.mk.injEq] at hR
      rw [← hR.2] at hc
      simp [cellAt, refRoot] at hc
    | cons q p =>
      obtain ⟨a, b⟩ := q
      simp [rowsAt] at hR
  · have h0 : ob.rows = [] := by simpa using h
    rw [h0] at hR
    cases p with
    | nil =>
      simp only [rowsAt, Option.some.injEq, Prod.mk.injEq] at hR
      rw [← hR.2] at hc
      simp [cellAt, refRoot] at hc
    | cons q p =>
      obtain ⟨a, b⟩ := q
      simp [rowsAt] at hR
theorem getA_mem {l : Store} {r : Root} {ob : Obj'} (h : getA l r = some ob) : ∃ k, (k, ob) ∈ l := by
  induction l with
  | nil => cases h
  | cons hd tl ih =>
    obtain ⟨k, o⟩ := hd
    simp only [getA] at h
    split at h
    · cases h; exact ⟨k, .head _⟩
    · obtain ⟨k', hk'⟩ := ih h; exact ⟨k', .tail _ hk'⟩
def dropOk (d : Nat) (l g : Store) (t : List V) : Bool := t.all (refOkV d l) && ((l.all fun e => refOkO d l e.2) && g.all fun e => refOkO d l e.2)
theorem Rel.drop' {t t' : List V} {d : Nat} {l l' g : Store} {g0 gh : Gh} {w0 w : World} {a : Act} (h : T2 t t') (hl' : ∀ r ob, getA l' r = some ob → getA l r = some ob)
    (hd : (∀ i, i < t'.length → refOkV d l' (t'.getD i (.x (.one .bad))) = true) ∧ (∀ r ob, getA l' r = some ob → refOkO d l' ob = true) ∧ ∀ r ob, getA g r = some ob → refOkO d l' ob = true) (hr : Rel g0 w0 ⟨t, d, l, g⟩ gh a w) : Rel g0 w0 ⟨t', d, l', g⟩ gh a w := by
  have h2 : Rel g0 w0 ⟨t', d, l, g⟩ gh a w := Rel.same h hr
  have eqo : ∀ (s : Store) r, getA (s ++ g) r = match getA s r with | some ob => some ob | none => getA g r := fun s r => getA_append s g r
  have back : ∀ r ob, getA (l' ++ g) r = some ob → getA (l ++ g) r = some ob := fun r ob hr' => by
    rw [eqo] at hr' ⊢
    cases e : getA l' r with
    | some ob' =>
      rw [e] at hr'; rw [hl' r ob' e]; exact hr'
    | none =>
      rw [e] at hr'
      cases e2 : getA l r with
      | none => exact hr'
      | some ob' =>
        have k1 := hr.loc r ob' e2
        have k2 := hr.out r ob hr'
        exact absurd k1 (by simp only at k1 k2 ⊢; omega)
  have fwd : ∀ r ob, (r.1 < d ∨ (getA l' r).isSome = true) → getA (l ++ g) r = some ob → getA (l' ++ g) r = some ob := fun r ob hc hr' => by
    rw [eqo] at hr' ⊢
    cases e : getA l' r with
    | some ob' => rw [hl' r ob' e] at hr'; exact hr'
    | none =>
      rw [e] at hc
      have hne : r.1 < d := by simpa using hc
      cases e2 : getA l r with
      | none => rw [e2] at hr'; exact hr'
      | some ob' => exact absurd (hr.loc r ob' e2) (by simp only; omega)
  have liveB : ∀ r p sz R, Live (l' ++ g) r p sz R → Live (l ++ g) r p sz R := fun r p sz R ⟨ob, h1, h2⟩ => ⟨ob, back _ _ h1, h2⟩
  have liveF : ∀ r p sz R, (r.1 < d ∨ (getA l' r).isSome = true) → Live (l ++ g) r p sz R → Live (l' ++ g) r p sz R := fun r p sz R hc ⟨ob, h1, h2⟩ => ⟨ob, fwd _ _ hc h1, h2⟩
  have hCR : ∀ loc c y, (∀ r, refRoot c = some r → r.1 < d ∨ (getA l' r).isSome = true) → CR w (l ++ g) gh loc c y → CR w (l' ++ g) gh loc c y := fun loc c y hc hy => by
    cases c with
    | v x => exact hy
    | sh sz R => exact hy
    | ps cs => exact hy
    | own sz R => exact hy
    | bad => trivial
    | rs r p sz off len => obtain ⟨R, k1, k2⟩ := hy; exact ⟨R, liveF _ _ _ _ (hc r rfl) k1, k2⟩
    | pt r p sz row off => obtain ⟨R, b, k1, k2⟩ := hy; exact ⟨R, b, liveF _ _ _ _ (hc r rfl) k1, k2⟩
  have okC : ∀ c, refOkC d l' c = true → ∀ r, refRoot c = some r → r.1 < d ∨ (getA l' r).isSome = true := fun c hc r hr' => by
    unfold refOkC at hc
    rw [hr'] at hc
    simpa using hc
  have hXR : ∀ x y, refOkX d l' x = true → XR w (l ++ g) gh x y → XR w (l' ++ g) gh x y := fun x y hx hy => by
    cases x with
    | one c => exact hCR none c y (okC c hx) hy
    | agg cs =>
      obtain ⟨ys, k1, k2, k3⟩ := hy
      refine ⟨ys, k1, k2, fun j hj => hCR _ _ _ (okC _ ?_) (k3 j hj)⟩
      have hx' := List.all_eq_true.1 hx
      refine hx' _ ?_
      rw [List.getD_eq_getElem?_getD, List.getElem?_eq_getElem hj]; exact List.getElem_mem hj
  refine ⟨h2.defers, h2.size, fun i hi => ?_, ⟨fun r p sz R b hlv hg => ?_, fun r p ob sz R h1 h2 h3 => hr.heap.none r p ob sz R (back _ _ h1) h2 h3, fun r p sz R r' p' sz' R' b k1 k2 k3 k4 => hr.heap.inj r p sz R r' p' sz' R' b (liveB _ _ _ _ k1) (liveB _ _ _ _ k2) k3 k4, hr.heap.S⟩,
    hr.keep, fun r ob h1 => hr.loc r ob (hl' _ _ h1), hr.out, fun r ob h1 => hr.obj r ob (back _ _ h1), hr.maps.mono (fun r ob h1 h2 => ⟨ob, back _ _ h1, rfl⟩) (fun b arr cl h1 h2 => ⟨h1, h2⟩) (.same fun r p sz R hl => ⟨_, _, liveB _ _ _ _ hl⟩), hr.pin⟩
  · have k1 := h2.tmps i hi
    have k2 : refOkV d l' (t'.getD i (.x (.one .bad))) = true := hd.1 i hi
    show VR w (l' ++ g) gh (t'.getD i (.x (.one .bad))) _
    have k1' : VR w (l ++ g) gh (t'.getD i (.x (.one .bad))) (a.tmps.getD i undef) := k1
    revert k1' k2
    cases t'.getD i (.x (.one .bad)) with
    | x x => exact fun k2 k1 => hXR x _ k2 k1
    | tup xs =>
      intro k2 ⟨ys, e1, e2, e3⟩
      refine ⟨ys, e1, e2, fun j hj => hXR _ _ ?_ (e3 j hj)⟩
      have hx' := List.all_eq_true.1 k2
      refine hx' _ ?_
      rw [List.getD_eq_getElem?_getD, List.getElem?_eq_getElem hj]; exact List.getElem_mem hj
  · obtain ⟨k1, k2, cells, e, f, k3, k4, k5, k6⟩ := hr.heap.rows r p sz R b (liveB _ _ _ _ hlv) hg
    refine ⟨k1, k2, cells, e, f, k3, k4, k5, fun i j hi hj => hCR _ _ _ (fun r' hr' => ?_) (k6 i j hi hj)⟩
    obtain ⟨ob, q1, q2⟩ := hlv
    obtain ⟨hk, rfl, rfl⟩ := live_ref (hr.obj r ob (back _ _ q1)) q2 hr'
    obtain ⟨m1, m2⟩ := cellAt_mem hr'
    by_cases hin : (getA l' r).isSome = true
    · obtain ⟨ob', e1⟩ := Option.isSome_iff_exists.1 hin
      have e2 : ob' = ob := by
        have q2 : getA (l' ++ g) r = some ob := q1
        rw [eqo, e1] at q2; exact Option.some.inj q2
      subst e2
      have := hd.2.1 r ob' e1
      simp only [refOkO, hk, List.all_eq_true] at this
      refine okC _ (this (ob'.rows.getD i []) ?_ (cellAt ob'.rows i j) ?_) r' hr'
      · rw [List.getD_eq_getElem?_getD, List.getElem?_eq_getElem m1]; exact List.getElem_mem m1
      · unfold cellAt; rw [List.getD_eq_getElem?_getD (l := ob'.rows.getD i []), List.getElem?_eq_getElem m2]; exact List.getElem_mem m2
    · have e1 : getA l' r = none := by simpa using hin
      have q1' : getA g r = some ob := by
        have q2 : getA (l' ++ g) r = some ob := q1
        rw [eqo, e1] at q2; exact q2
      have := hd.2.2 r ob q1'
      simp only [refOkO, hk, List.all_eq_true] at this
      refine okC _ (this (ob.rows.getD i []) ?_ (cellAt ob.rows i j) ?_) r' hr'
      · rw [List.getD_eq_getElem?_getD, List.getElem?_eq_getElem m1]; exact List.getElem_mem m1
      · unfold cellAt; rw [List.getD_eq_getElem?_getD (l := ob.rows.getD i []), List.getElem?_eq_getElem m2]; exact List.getElem_mem m2
theorem Rel.drop {t t' : List V} {d : Nat} {l l' g : Store} {g0 gh : Gh} {w0 w : World} {a : Act} (h : T2 t t') (hl' : ∀ r ob, getA l' r = some ob → getA l r = some ob) (hd : dropOk d l' g t' = true) (hr : Rel g0 w0 ⟨t, d, l, g⟩ gh a w) : Rel g0 w0 ⟨t', d, l', g⟩ gh a w := by
  simp only [dropOk, Bool.and_eq_true, List.all_eq_true] at hd
  refine Rel.drop' h hl' ⟨fun i hi => hd.1 _ ?_, fun r ob hg => ?_, fun r ob hg => ?_⟩ hr
  · rw [List.getD_eq_getElem?_getD, List.getElem?_eq_getElem hi]; exact List.getElem_mem hi
  · obtain ⟨k, hk⟩ := getA_mem hg
    exact hd.2.1 _ hk
  · obtain ⟨k, hk⟩ := getA_mem hg
    exact hd.2.2 _ hk
end Go.Rx
namespace Go.Rx
open Go.RowKit
def notOwn : C → Bool
  | .own _ _ => false
  | _ => true
structure RR (chg : C → C → Prop) (R R' : List (List C)) : Prop where
  len : R'.length = R.length
  row : ∀ i, (R'.getD i []).length = (R.getD i []).length
  cell : ∀ i j, cellAt R' i j = cellAt R i j ∨ (notOwn (cellAt R i j) = true ∧ notOwn (cellAt R' i j) = true ∧ refOr (cellAt R' i j) = true ∧ chg (cellAt R i j) (cellAt R' i j))
theorem RR.refl (chg : C → C → Prop) (R : List (List C)) : RR chg R R := ⟨rfl, fun _ => rfl, fun _ _ => .inl rfl⟩
structure Chg (chg : C → C → Prop) (ob ob' : Obj') : Prop where
  kind : ob'.kind = ob.kind
  sz : ob'.sz = ob.sz
  rows : RR chg ob.rows ob'.rows
  box : ob' = ob ∨ ob.kind = .box
theorem cell_get {R : List (List C)} {i j : Nat} {c : C} (h : (R[i]?).bind (·[j]?) = some c) : cellAt R i j = c ∧ i < R.length ∧ j < (R.getD i []).length := by
  rw [Option.bind_eq_some_iff] at h
  obtain ⟨row, h1, h2⟩ := h
  obtain ⟨h3, rfl⟩ := List.getElem?_eq_some_iff.1 h1
  obtain ⟨h4, rfl⟩ := List.getElem?_eq_some_iff.1 h2
  have e : R.getD i [] = R[i] := by simp [List.getD_eq_getElem?_getD, h3]
  refine ⟨?_, h3, by rw [e]; exact h4⟩
  unfold cellAt
  rw [e, List.getD_eq_getElem?_getD, List.getElem?_eq_getElem h4]; rfl
theorem cell_put {R : List (List C)} {i j : Nat} (h1 : i < R.length) (h2 : j < (R.getD i []).length) : (R[i]?).bind (·[j]?) = some (cellAt R i j) := by
  have e : R.getD i [] = R[i] := by simp [List.getD_eq_getElem?_getD, h1]
  unfold cellAt
  rw [e] at h2 ⊢
  rw [List.getElem?_eq_getElem h1, List.getD_eq_getElem?_getD, List.getElem?_eq_getElem h2]
  show R[i][j]? = _
  rw [List.getElem?_eq_getElem h2]; rfl
theorem RR.rowsAt_fwd {chg : C → C → Prop} {sz : Nat} {R R' : List (List C)} (h : RR chg R R') {p : Path} {s : Nat} {Q : List (List C)} (hq : rowsAt sz R p = some (s, Q)) : ∃ Q', rowsAt sz R' p = some (s, Q') ∧ RR chg Q Q' := by
  cases p with
  | nil => simp only [rowsAt, Option.some.injEq, Prod.mk.injEq] at hq ⊢; obtain ⟨rfl, rfl⟩ := hq; exact ⟨R', ⟨rfl, rfl⟩, h⟩
  | cons q p =>
    obtain ⟨i, j⟩ := q
    simp only [rowsAt] at hq ⊢
    split at hq
    · rename_i s2 Q2 hc
      obtain ⟨k1, k2, k3⟩ := cell_get hc
      have k4 : cellAt R' i j = .own s2 Q2 := by
        rcases h.cell i j with e | ⟨e, _⟩
        · rw [e, k1]
        · rw [k1] at e; cases e
      rw [cell_put (by rw [h.len]; exact k2) (by rw [h.row]; exact k3), k4]
      exact ⟨Q, hq, RR.refl _ _⟩
    · cases hq
theorem RR.rowsAt_back {chg : C → C → Prop} {sz : Nat} {R R' : List (List C)} (h : RR chg R R') {p : Path} {s : Nat} {Q' : List (List C)} (hq : rowsAt sz R' p = some (s, Q')) : ∃ Q, rowsAt sz R p = some (s, Q) ∧ RR chg Q Q' := by
  cases p with
  | nil => simp only [rowsAt, Option.some.injEq, Prod.mk.injEq] at hq ⊢; obtain ⟨rfl, rfl⟩ := hq; exact ⟨R, ⟨rfl, rfl⟩, h⟩
  | cons q p =>
    obtain ⟨i, j⟩ := q
    simp only [rowsAt] at hq ⊢
    split at hq
    · rename_i s2 Q2 hc
      obtain ⟨k1, k2, k3⟩ := cell_get hc
      have k4 : cellAt R i j = .own s2 Q2 := by
        rcases h.cell i j with e | ⟨_, e, _⟩
        · rw [← e, k1]
        · rw [k1] at e; cases e
      rw [cell_put (by rw [← h.len]; exact k2) (by rw [← h.row]; exact k3), k4]
      exact ⟨Q', hq, RR.refl _ _⟩
    · cases hq
theorem Rel.wkG {chg : C → C → Prop} {t : List V} {d : Nat} {l l' g gx : Store} {g0 gh : Gh} {w0 w : World} {a : Act} (h1 : ∀ r, getA l r = none → getA l' r = none) (h2 : ∀ r ob, getA l r = some ob → ∃ ob', getA l' r = some ob' ∧ Chg chg ob ob')
    (h3 : ∀ r, getA g r = none → getA gx r = none) (h4 : ∀ r ob, getA g r = some ob → ∃ ob', getA gx r = some ob' ∧ Chg chg ob ob')
    (hr : Rel g0 w0 ⟨t, d, l, g⟩ gh a w) (hc : ∀ c c' y, chg c c' → CR w (l ++ g) gh none c y → CR w (l' ++ gx) gh none c' y) : Rel g0 w0 ⟨t, d, l', gx⟩ gh a w := by
  have fwd : ∀ r ob, getA (l ++ g) r = some ob → ∃ ob', getA (l' ++ gx) r = some ob' ∧ Chg chg ob ob' := fun r ob h => by
    rw [getA_append] at h ⊢
    cases e : getA l r with
    | some o =>
      rw [e] at h
      obtain ⟨o', k1, k2⟩ := h2 r o e
      rw [k1]
      exact ⟨o', rfl, by cases h; exact k2⟩
    | none =>
      rw [e] at h
      rw [h1 r e]
      exact h4 r ob h
  have back : ∀ r ob', getA (l' ++ gx) r = some ob' → ∃ ob, getA (l ++ g) r = some ob ∧ Chg chg ob ob' := fun r ob' h => by
    cases e : getA (l ++ g) r with
    | some ob =>
      obtain ⟨o', k1, k2⟩ := fwd r ob e
      rw [k1] at h; cases h
      exact ⟨ob, rfl, k2⟩
    | none =>
      rw [getA_append] at e h
      cases e2 : getA l r with
      | some o => rw [e2] at e; cases e
      | none => rw [e2] at e; rw [h1 r e2] at h; rw [h3 r e] at h; cases h
  have liveF : ∀ r p sz R, Live (l ++ g) r p sz R → ∃ R', Live (l' ++ gx) r p sz R' ∧ RR chg R R' := fun r p sz R ⟨ob, k1, k2⟩ => by
    obtain ⟨ob', k3, k4⟩ := fwd r ob k1
    obtain ⟨R', k5, k6⟩ := k4.rows.rowsAt_fwd k2
    exact ⟨R', ⟨ob', k3, by rw [k4.sz]; exact k5⟩, k6⟩
  have liveB : ∀ r p sz R', Live (l' ++ gx) r p sz R' → ∃ R, Live (l ++ g) r p sz R ∧ RR chg R R' := fun r p sz R' ⟨ob', k1, k2⟩ => by
    obtain ⟨ob, k3, k4⟩ := back r ob' k1
    rw [k4.sz] at k2
    obtain ⟨R, k5, k6⟩ := k4.rows.rowsAt_back k2
    exact ⟨R, ⟨ob, k3, k5⟩, k6⟩
  have hCR : ∀ loc c y, CR w (l ++ g) gh loc c y → CR w (l' ++ gx) gh loc c y := fun loc c y hy => by
    cases c with
    | v x => exact hy
    | sh sz R => exact hy
    | ps cs => exact hy
    | own sz R => exact hy
    | bad => trivial
    | rs r p sz off len =>
      obtain ⟨R, k1, k2, k3⟩ := hy
      obtain ⟨R', k4, k5⟩ := liveF _ _ _ _ k1
      exact ⟨R', k4, by rw [k5.len]; exact k2, k3⟩
    | pt r p sz row off =>
      obtain ⟨R, b, k1, k2, k3⟩ := hy
      obtain ⟨R', k4, k5⟩ := liveF _ _ _ _ k1
      exact ⟨R', b, k4, by rw [k5.len]; exact k2, k3⟩
  have hXR : ∀ x y, XR w (l ++ g) gh x y → XR w (l' ++ gx) gh x y := fun x y hy => by
    cases x with
    | one c => exact hCR none c y hy
    | agg cs =>
      obtain ⟨ys, k1, k2, k3⟩ := hy
      exact ⟨ys, k1, k2, fun j hj => hCR _ _ _ (k3 j hj)⟩
  have noloc : ∀ (loc : Option (Root × Path × Nat × Nat)) c y, notOwn c = true → CR w (l ++ g) gh loc c y → CR w (l ++ g) gh none c y := fun loc c y hn hy => by
    cases c <;> first | exact hy | cases hn
  have noloc' : ∀ (loc : Option (Root × Path × Nat × Nat)) c y, notOwn c = true → CR w (l' ++ gx) gh none c y → CR w (l' ++ gx) gh loc c y := fun loc c y hn hy => by
    cases c <;> first | exact hy | cases hn
  refine ⟨hr.defers, hr.size, fun i hi => ?_, ⟨fun r p sz R' b hlv hg => ?_, fun r p ob' sz R' k1 k2 k3 => ?_, fun r p sz R r' p' sz' R' b k1 k2 k3 k4 => ?_, hr.heap.S⟩, hr.keep, fun r ob' k1 => ?_, fun r ob' k1 => (by
    cases e : getA g r with
    | none => rw [h3 r e] at k1; cases k1
    | some ob => exact hr.out r ob e), fun r ob' k1 => ?_, hr.maps.mono (fun r ob' h1 h2 => (by obtain ⟨ob, k3, k4⟩ := back r ob' h1; exact ⟨ob, k3, k4.kind.symm⟩)) (fun b arr cl h1 h2 => ⟨h1, h2⟩) (.same fun r p sz R hl => (by obtain ⟨R0, h1, _⟩ := liveB r p sz R hl; exact ⟨_, _, h1⟩)), ⟨fun r b hb ob' k1 => (by
    cases e : getA g r with
    | none => rw [h3 r e] at k1; cases k1
    | some ob => exact hr.pin.at_ r b hb ob e), fun r hb ob' k1 => (by
    cases e : getA g r with
    | none => rw [h3 r e] at k1; cases k1
    | some ob => exact hr.pin.nil_ r hb ob e), fun r ob' k1 => (by
    cases e : getA g r with
    | none => rw [h3 r e] at k1; cases k1
    | some ob => exact hr.pin.old r ob e)⟩⟩
  · have k1 := hr.tmps i hi
    show VR w (l' ++ gx) gh _ _
    have k1' : VR w (l ++ g) gh (t.getD i (.x (.one .bad))) (a.tmps.getD i undef) := k1
    show VR w (l' ++ gx) gh (t.getD i (.x (.one .bad))) _
    revert k1'
    cases t.getD i (.x (.one .bad)) with
    | x x => exact fun k1 => hXR x _ k1
    | tup xs =>
      intro ⟨ys, e1, e2, e3⟩
      exact ⟨ys, e1, e2, fun j hj => hXR _ _ (e3 j hj)⟩
  · obtain ⟨R, hlv2, hR⟩ := liveB _ _ _ _ hlv
    obtain ⟨k1, k2, cells, e, f, k3, k4, k5, k6⟩ := hr.heap.rows r p sz R b hlv2 hg
    refine ⟨k1, fun i hi => by rw [hR.row]; exact k2 i (by rw [← hR.len]; exact hi), cells, e, f, k3, k4, by rw [hR.len]; exact k5, fun i j hi hj => ?_⟩
    have k7 := k6 i j (by rw [← hR.len]; exact hi) hj
    rcases hR.cell i j with e | ⟨e1, e2, _, e4⟩
    · rw [e]; exact hCR _ _ _ k7
    · exact noloc' _ _ _ e2 (hc _ _ _ e4 (noloc _ _ _ e1 k7))
  · obtain ⟨ob, k4, k5⟩ := back r ob' k1
    rw [k5.sz] at k2
    obtain ⟨R, k6, k7⟩ := k5.rows.rowsAt_back k2
    rcases hr.heap.none r p ob sz R k4 k6 k3 with e | e
    · refine .inl (List.eq_nil_of_length_eq_zero ?_)
      rw [k7.len, e]; rfl
    · exact .inr (by rw [k5.kind]; exact e)
  · obtain ⟨R1, k5, _⟩ := liveB _ _ _ _ k1
    obtain ⟨R2, k6, _⟩ := liveB _ _ _ _ k2
    exact hr.heap.inj _ _ _ _ _ _ _ _ b k5 k6 k3 k4
  · cases e : getA l r with
    | none => rw [h1 r e] at k1; cases k1
    | some ob => exact hr.loc r ob e
  · obtain ⟨ob, k2, k3⟩ := back r ob' k1
    have k4 := hr.obj r ob k2
    rcases k3.box with e | e
    · rw [e]; exact k4
    · have k5 : (ob.rows.all fun row => row.all refOr) = true := by
        unfold okObj at k4; rw [e] at k4; exact k4
      unfold okObj
      rw [k3.kind, e]
      show (ob'.rows.all fun row => row.all refOr) = true
      simp only [List.all_eq_true] at k5 ⊢
      intro row hrow c hcell
      obtain ⟨i, hi, rfl⟩ := List.getElem_of_mem hrow
      obtain ⟨j, hj, rfl⟩ := List.getElem_of_mem hcell
      have e2 : ob'.rows.getD i [] = ob'.rows[i] := by simp [List.getD_eq_getElem?_getD, hi]
      have e3 : cellAt ob'.rows i j = ob'.rows[i][j] := by
        unfold cellAt
        rw [e2, List.getD_eq_getElem?_getD, List.getElem?_eq_getElem hj]; rfl
      rw [← e3]
      rcases k3.rows.cell i j with q | ⟨_, _, q, _⟩
      · rw [q]
        have hi' : i < ob.rows.length := by rw [← k3.rows.len]; exact hi
        have hj' : j < (ob.rows.getD i []).length := by rw [← k3.rows.row, e2]; exact hj
        refine k5 (ob.rows.getD i []) ?_ _ ?_
        · rw [List.getD_eq_getElem?_getD, List.getElem?_eq_getElem hi']; exact List.getElem_mem hi'
        · unfold cellAt; rw [List.getD_eq_getElem?_getD (l := ob.rows.getD i []), List.getElem?_eq_getElem hj']; exact List.getElem_mem hj'
      · exact q
theorem Rel.wk {chg : C → C → Prop} {t : List V} {d : Nat} {l l' g : Store} {g0 gh : Gh} {w0 w : World} {a : Act} (h1 : ∀ r, getA l r = none → getA l' r = none) (h2 : ∀ r ob, getA l r = some ob → ∃ ob', getA l' r = some ob' ∧ Chg chg ob ob')
    (hr : Rel g0 w0 ⟨t, d, l, g⟩ gh a w) (hc : ∀ c c' y, chg c c' → CR w (l ++ g) gh none c y → CR w (l' ++ g) gh none c' y) : Rel g0 w0 ⟨t, d, l', g⟩ gh a w :=
  Rel.wkG h1 h2 (fun _ h => h) (fun _ ob h => ⟨ob, h, ⟨rfl, rfl, RR.refl _ _, .inl rfl⟩⟩) hr hc
def hasC (r : Root) : C → Bool
  | .rs r' _ _ _ _ => decide (r' = r)
  | .pt r' _ _ _ _ => decide (r' = r)
  | _ => false
def killC (r : Root) (c : C) : C := if hasC r c = true then .bad else c
def hasRows (r : Root) (R : List (List C)) : Bool := R.any fun row => row.any (hasC r)
def killO (r : Root) (ob : Obj') : Obj' := match ob.kind with
  | .box => if hasRows r ob.rows = true then ⟨.box, ob.sz, ob.rows.map fun row => row.map (killC r)⟩ else ob
  | _ => ob
def killL (r : Root) : Store → Store
  | [] => []
  | (k, ob) :: l => (k, killO r ob) :: killL r l
theorem getA_killL (r : Root) (l : Store) (k : Root) : getA (killL r l) k = (getA l k).map (killO r) := by
  induction l with
  | nil => rfl
  | cons e l ih =>
    obtain ⟨k', ob⟩ := e
    simp only [killL, getA]
    split
    · rfl
    · exact ih
theorem killO_chg (r : Root) (ob : Obj') : Chg (fun _ c' => c' = .bad) ob (killO r ob) := by
  unfold killO
  split
  · rename_i hk
    split
    · have hg : ∀ i, (ob.rows.map fun row => row.map (killC r)).getD i [] = (ob.rows.getD i []).map (killC r) := fun i => by
        simp only [List.getD_eq_getElem?_getD, List.getElem?_map]
        cases ob.rows[i]? <;> rfl
      refine ⟨hk.symm, rfl, ⟨by simp, fun i => by rw [hg, List.length_map], fun i j => ?_⟩, .inr hk⟩
      have hcell : cellAt (ob.rows.map fun row => row.map (killC r)) i j = killC r (cellAt ob.rows i j) := by
        unfold cellAt
        rw [hg]
        simp only [List.getD_eq_getElem?_getD, List.getElem?_map]
        cases (ob.rows[i]?.getD [])[j]? <;> rfl
      rw [hcell]
      unfold killC
      split
      · rename_i hh
        refine .inr ⟨?_, rfl, rfl, rfl⟩
        cases h : cellAt ob.rows i j <;> first | rfl | (rw [h] at hh; cases hh)
      · exact .inl rfl
    · exact ⟨rfl, rfl, RR.refl _ _, .inl rfl⟩
  · exact ⟨rfl, rfl, RR.refl _ _, .inl rfl⟩
theorem Rel.kill {t : List V} {d : Nat} {l g : Store} {g0 gh : Gh} {w0 w : World} {a : Act} (r : Root) (hr : Rel g0 w0 ⟨t, d, l, g⟩ gh a w) : Rel g0 w0 ⟨t, d, killL r l, g⟩ gh a w :=
  Rel.wk (fun k h => by rw [getA_killL, h]; rfl) (fun k ob h => ⟨_, by rw [getA_killL, h]; rfl, killO_chg r ob⟩) hr fun c c' y h _ => by rw [h]; trivial
theorem Rel.killA {t : List V} {d : Nat} {l g : Store} {g0 gh : Gh} {w0 w : World} {a : Act} (r : Root) (hr : Rel g0 w0 ⟨t, d, l, g⟩ gh a w) : Rel g0 w0 ⟨t, d, killL r l, killL r g⟩ gh a w :=
  Rel.wkG (fun k h => by rw [getA_killL, h]; rfl) (fun k ob h => ⟨_, by rw [getA_killL, h]; rfl, killO_chg r ob⟩) (fun k h => by rw [getA_killL, h]; rfl) (fun k ob h => ⟨_, by rw [getA_killL, h]; rfl, killO_chg r ob⟩) hr fun c c' y h _ => by rw [h]; trivial
end Go.Rx
namespace Go.Rx
open Go.RowKit
section
variable {g0 gh : Gh} {w0 w w' : World} {a : Act} {t : List V} {d : Nat} {l gs : Store}
def gh1 (gh : Gh) (r' : Root) (G1 : Path → Option Nat) : Gh := { G := fun r p => if r = r' then G1 p else gh.G r p, S := gh.S }
structure Adopt (gh : Gh) (w w' : World) (o : Store) (r' : Root) (sz : Nat) (RR : List (List C)) (G1 : Path → Option Nat) (b' : Option Nat) : Prop where
  os : w'.os = w.os
  tape : w'.tape = w.tape
  output : w'.output = w.output
  size : w.heap.size ≤ w'.heap.size
  block : ∀ k, k < w.heap.size → some k ≠ b' → w'.heap[k]? = w.heap[k]?
  notS : ∀ k, some k = b' → ¬ gh.S k
  noMap : ∀ k arr cl, some k = b' → w.heap[k]? ≠ some (.map arr cl)
  free : ∀ r p s R k, Live o r p s R → some k = b' → gh.G r p ≠ some k
  rows : ∀ p s R b, rowsAt sz RR p = some (s, R) → G1 p = some b → ¬ gh.S b ∧ (∀ i, i < R.length → (R.getD i []).length = s) ∧ ∃ cells e f, w'.heap[b]? = some (.cells cells e f) ∧ Thaw f cells.size ∧
    R.length * s ≤ cells.size ∧ ∀ i j, i < R.length → j < s → CR w' [] (gh1 gh r' G1) (some (r', p, i, j)) (cellAt R i j) (cells.getD (i * s + j) undef)
  none : ∀ p s R, rowsAt sz RR p = some (s, R) → G1 p = .none → R = []
  inj : ∀ p s R p2 s2 R2 b, rowsAt sz RR p = some (s, R) → rowsAt sz RR p2 = some (s2, R2) → G1 p = some b → G1 p2 = some b → p = p2
  apart : ∀ p s R b r1 p1 s1 R1, rowsAt sz RR p = some (s, R) → G1 p = some b → Live o r1 p1 s1 R1 → gh.G r1 p1 ≠ some b
theorem CR.noStore {w : World} {o : Store} {g : Gh} {loc : Option (Root × Path × Nat × Nat)} {c : C} {y : Value} (h : CR w [] g loc c y) : CR w o g loc c y := by
  cases c with
  | rs r p s off len => obtain ⟨R, ⟨ob, h1, _⟩, _⟩ := h; cases h1
  | pt r p s row off => obtain ⟨R, b, ⟨ob, h1, _⟩, _⟩ := h; cases h1
  | v x => exact h
  | sh s R => exact h
  | own s R => exact h
  | ps cs => exact h
  | bad => trivial
theorem Rel.adopt {r' : Root} {sz : Nat} {RR : List (List C)} {G1 : Path → Option Nat} {b' : Option Nat} (h : Rel g0 w0 ⟨t, d, l, gs⟩ gh a w) (hA : Adopt gh w w' (l ++ gs) r' sz RR G1 b') (hr' : r'.1 = d) (hf : getA l r' = none) (hnr : nrRR RR = true)
    {o2 : Store} (hm : MapsOk w o2 gh) (ho2 : ∀ r ob, getA (l ++ gs) r = some ob → ob.kind.isMp = true → ∃ ob0, getA o2 r = some ob0 ∧ ob0.kind = ob.kind) (hcalm : Calm w o2 gh w' ((r', ⟨.sl, sz, RR⟩) :: l ++ gs) (gh1 gh r' G1)) :
    Rel g0 w0 ⟨t, d, (r', ⟨.sl, sz, RR⟩) :: l, gs⟩ (gh1 gh r' G1) a w' ∧ Goes w (l ++ gs) gh w' ((r', ⟨.sl, sz, RR⟩) :: l ++ gs) (gh1 gh r' G1) := by
  have hfo : getA (l ++ gs) r' = none := by
    rw [getA_append, hf]
    cases hg : getA gs r' with
    | none => rfl
    | some ob => have := h.out r' ob hg; simp only at this; omega
  have hget : ∀ r, getA ((r', (⟨.sl, sz, RR⟩ : Obj')) :: l ++ gs) r = if r' = r then some ⟨.sl, sz, RR⟩ else getA (l ++ gs) r := fun r => rfl
  have hne : ∀ r ob, getA (l ++ gs) r = some ob → r ≠ r' := fun r ob hr e => by rw [e, hfo] at hr; cases hr
  have hG : ∀ r p, r ≠ r' → (gh1 gh r' G1).G r p = gh.G r p := fun r p e => if_neg e
  have hG' : ∀ p, (gh1 gh r' G1).G r' p = G1 p := fun p => if_pos rfl
  have hheap : ∀ r p s R b cells e f, Live (l ++ gs) r p s R → gh.G r p = some b → w.heap[b]? = some (.cells cells e f) → w'.heap[b]? = some (.cells cells e f) := fun r p s R b cells e f hl hg hb => by
    rw [hA.block b (block_lt hb) (fun e' => hA.free r p s R b hl e' hg)]; exact hb
  have hgoes : Goes w (l ++ gs) gh w' ((r', ⟨.sl, sz, RR⟩) :: l ++ gs) (gh1 gh r' G1) := by
    refine ⟨fun k hk => ⟨hk, hA.block k (h.heap.S k hk) (fun e => hA.notS k e hk)⟩, fun r p m Q hl => ⟨⟨Q, ?_, Nat.le_refl _⟩, ?_, fun b cs e' f' hg hb => ⟨cs, hheap r p m Q b cs e' f' hl hg hb, rfl⟩⟩⟩
    · obtain ⟨ob, h1, h2⟩ := hl
      exact ⟨ob, by rw [hget, if_neg (fun e => hne r ob h1 e.symm)]; exact h1, h2⟩
    · obtain ⟨ob, h1, _⟩ := hl
      exact hG r p (hne r ob h1)
  have hsplit : ∀ r p m Q, Live ((r', (⟨.sl, sz, RR⟩ : Obj')) :: l ++ gs) r p m Q → (r = r' ∧ rowsAt sz RR p = some (m, Q)) ∨ (r ≠ r' ∧ Live (l ++ gs) r p m Q) := by
    intro r p m Q ⟨ob, h1, h2⟩
    rw [hget] at h1
    by_cases hr : r' = r
    · rw [if_pos hr] at h1
      cases h1
      exact .inl ⟨hr.symm, h2⟩
    · rw [if_neg hr] at h1
      exact .inr ⟨fun e => hr e.symm, ob, h1, h2⟩
  refine ⟨⟨h.defers, h.size, fun i hi => VR.goes hgoes (h.tmps i hi), ⟨?_, ?_, ?_, ?_⟩, ⟨?_, ?_, ?_, ?_, h.keep.S, ?_⟩, ?_, h.out, ?_, hm.mono (fun r ob h1 h2 => (by
      have h1' : (if r' = r then some (⟨.sl, sz, RR⟩ : Obj') else getA (l ++ gs) r) = some ob := h1
      split at h1'
      · cases h1'; cases h2
      · exact ho2 r ob h1' h2)) (fun b arr cl h1 h2 => ⟨by rw [hA.block b (block_lt h1) (fun e => hA.noMap b arr cl e h1)]; exact h1, h2⟩) hcalm, h.pin.goes hgoes fun _ ob h => ⟨ob, h⟩⟩, hgoes⟩
  · intro r p m Q b hl hg
    rcases hsplit r p m Q hl with ⟨rfl, hq⟩ | ⟨hn, hl'⟩
    · rw [hG'] at hg
      obtain ⟨k1, k2, cs, e', f', k3, kf, k4, k5⟩ := hA.rows p m Q b hq hg
      exact ⟨k1, k2, cs, e', f', k3, kf, k4, fun i j hi hj => CR.noStore (k5 i j hi hj)⟩
    · rw [hG _ _ hn] at hg
      obtain ⟨k1, k2, cs, e', f', k3, kf, k4, k5⟩ := h.heap.rows r p m Q b hl' hg
      exact ⟨k1, k2, cs, e', f', hheap r p m Q b cs e' f' hl' hg k3, kf, k4, fun i j hi hj => CR.goesAt hgoes hl' hi (by rw [k2 i hi]; exact hj) (k5 i j hi hj)⟩
  · intro r p ob m Q h1 h2 hg
    rcases hsplit r p m Q ⟨ob, h1, h2⟩ with ⟨rfl, hq⟩ | ⟨hn, ob', q1, q2⟩
    · rw [hG'] at hg; exact .inl (hA.none p m Q hq hg)
    · rw [hG _ _ hn] at hg
      have : ob = ob' := by
        have h1' : (if r' = r then some (⟨.sl, sz, RR⟩ : Obj') else getA (l ++ gs) r) = some ob := h1
        rw [if_neg (fun e => hn e.symm), q1] at h1'
        exact (Option.some.inj h1').symm
      subst this
      exact h.heap.none r p ob m Q q1 h2 hg
  · intro r p m Q r2 p2 m2 Q2 b hl hl2 hg hg2
    rcases hsplit r p m Q hl with ⟨rfl, hq⟩ | ⟨hn, hl'⟩ <;> rcases hsplit r2 p2 m2 Q2 hl2 with ⟨rfl, hq2⟩ | ⟨hn2, hl2'⟩
    · rw [hG'] at hg hg2
      exact ⟨rfl, hA.inj p m Q p2 m2 Q2 b hq hq2 hg hg2⟩
    · rw [hG'] at hg; rw [hG _ _ hn2] at hg2
      exact absurd hg2 (hA.apart p m Q b r2 p2 m2 Q2 hq hg hl2')
    · rw [hG'] at hg2; rw [hG _ _ hn] at hg
      exact absurd hg (hA.apart p2 m2 Q2 b r p m Q hq2 hg2 hl')
    · rw [hG _ _ hn] at hg; rw [hG _ _ hn2] at hg2
      exact h.heap.inj r p m Q r2 p2 m2 Q2 b hl' hl2' hg hg2
  · intro b hb
    exact Nat.lt_of_lt_of_le (h.heap.S b hb) hA.size
  · exact hA.os.trans h.keep.os
  · exact hA.tape.trans h.keep.tape
  · exact hA.output.trans h.keep.output
  · exact Nat.le_trans h.keep.size hA.size
  · intro b hb
    have hs := h.keep.S b hb
    rw [hA.block b (h.heap.S b hs) (fun e => hA.notS b e hs)]
    exact h.keep.block b hb
  · intro r ob hr
    by_cases hk' : r' = r
    · rw [← hk']; exact Nat.le_of_eq hr'.symm
    · have hr2 : (if r' = r then some (⟨.sl, sz, RR⟩ : Obj') else getA l r) = some ob := hr
      rw [if_neg hk'] at hr2
      exact h.loc r ob hr2
  · intro r ob hr
    have hr2 : (if r' = r then some (⟨.sl, sz, RR⟩ : Obj') else getA (l ++ gs) r) = some ob := hr
    split at hr2
    · cases hr2; exact hnr
    · exact h.obj r ob hr2
end
end Go.Rx
namespace Go.Rx
open Go.RowKit
section
variable {P : Program} {g0 gh : Gh} {w0 w w' : World} {a : Act} {t t2 : List V} {d : Nat} {l gs : Store}
theorem rowsAt_app {sz : Nat} {R X : List (List C)} (hX : ∀ i j s Q, cellAt X i j ≠ .own s Q) {p : Path} (hp : p ≠ []) {q : Nat × List (List C)} (h : rowsAt sz (R ++ X) p = some q) : rowsAt sz R p = some q := by
  cases p with
  | nil => exact absurd rfl hp
  | cons ij p =>
    obtain ⟨i, j⟩ := ij
    by_cases hi : i < R.length
    · simpa only [rowsAt, List.getElem?_append_left hi] using h
    · simp only [rowsAt, List.getElem?_append_right (Nat.le_of_not_lt hi)] at h
      split at h
      · rename_i s Q hc
        obtain ⟨_, _, h3⟩ := bind_cell hc
        exact absurd h3 (hX _ _ _ _)
      · cases h
theorem cell_tr {o : Store} {G1 : Path → Option Nat} {c : C} {r r' : Root} {p : Path} {i j : Nat} {y : Value} (hn : nr c = true) (hS : ∀ k, gh.S k → w'.heap[k]? = w.heap[k]?)
    (hown : ∀ s Q, c = .own s Q → G1 (p ++ [(i, j)]) = gh.G r (p ++ [(i, j)]) ∧ ∀ b cells e f, gh.G r (p ++ [(i, j)]) = some b → w.heap[b]? = some (.cells cells e f) → w'.heap[b]? = some (.cells cells e f))
    (h : CR w o gh (some (r, p, i, j)) c y) : CR w' [] (gh1 gh r' G1) (some (r', p, i, j)) c y := by
  cases c with
  | v x => exact h
  | sh s R => exact Sh.mono (fun k hk => ⟨hk, hS k hk⟩) h
  | ps cs => exact Sh.mono (fun k hk => ⟨hk, hS k hk⟩) h
  | bad => trivial
  | rs _ _ _ _ _ => simp [nr] at hn
  | pt _ _ _ _ _ => simp [nr] at hn
  | own s Q =>
    obtain ⟨k1, k2⟩ := hown s Q rfl
    have h' : SlAt gh w r (p ++ [(i, j)]) s 0 Q.length y := h
    show SlAt (gh1 gh r' G1) w' r' (p ++ [(i, j)]) s 0 Q.length y
    unfold SlAt at h' ⊢
    rw [show (gh1 gh r' G1).G r' (p ++ [(i, j)]) = gh.G r (p ++ [(i, j)]) from (if_pos rfl).trans k1]
    cases hg : gh.G r (p ++ [(i, j)]) with
    | none => rw [hg] at h'; exact h'
    | some b =>
      rw [hg] at h'
      obtain ⟨ad, cap, e1, eb, e2, e3, e4, e5, e6⟩ := h'
      refine ⟨ad, cap, e1, eb, e2, e3, e4, fun h0 => ?_, fun h0 => ?_⟩
      · obtain ⟨f1, cells, e, f, f2, f3⟩ := e5 h0
        exact ⟨f1, cells, e, f, k2 b cells e f hg f2, f3⟩
      · obtain ⟨cells, e, f, f2, f3⟩ := e6 h0
        exact ⟨cells, e, f, k2 b cells e f hg f2, f3⟩
theorem append_core {r r' : Root} {sz : Nat} {R X : List (List C)} (hr : Rel g0 w0 ⟨t, d, l, gs⟩ gh a w) (hob' : getA (l ++ gs) r = some ⟨.sl, sz, R⟩) {l2 gs2 : Store} (h2 : Rel g0 w0 ⟨t2, d, l2, gs2⟩ gh a w)
    (hsub : ∀ r1 ob, getA (l2 ++ gs2) r1 = some ob → r1 ≠ r ∧ getA (l ++ gs) r1 = some ob) (hr' : r'.1 = d) (hf : getA l2 r' = none) (hXn : nrRR X = true) (hXo : ∀ i j s Q, cellAt X i j ≠ .own s Q) (hXl : ∀ k, k < X.length → (X.getD k []).length = sz) (hRl : ∀ k, k < R.length → (R.getD k []).length = sz)
    {b' : Nat} (hos : w'.os = w.os) (htape : w'.tape = w.tape) (hout : w'.output = w.output) (hsz : w.heap.size ≤ w'.heap.size) (hblk : ∀ k, k < w.heap.size → k ≠ b' → w'.heap[k]? = w.heap[k]?)
    (hb' : b' = w.heap.size ∨ gh.G r [] = some b')
    (hc : ∃ cells e f, w'.heap[b']? = some (.cells cells e f) ∧ Thaw f cells.size ∧ (R.length + X.length) * sz ≤ cells.size ∧
      (∀ i j, i < R.length → j < sz → CR w (l ++ gs) gh (some (r, [], i, j)) (cellAt R i j) (cells.getD (i * sz + j) undef)) ∧
      ∀ k j, k < X.length → j < sz → CR w [] gh none (cellAt X k j) (cells.getD ((R.length + k) * sz + j) undef)) :
    ∃ g', Rel g0 w0 ⟨t2, d, (r', ⟨.sl, sz, R ++ X⟩) :: l2, gs2⟩ g' a w' ∧ g'.G r' [] = some b' ∧ Goes w (l2 ++ gs2) gh w' ((r', ⟨.sl, sz, R ++ X⟩) :: l2 ++ gs2) g' := by
  have hRn : nrRR R = true := hr.obj r _ hob'
  have hlive : ∀ r1 p s Q, Live (l2 ++ gs2) r1 p s Q → r1 ≠ r ∧ Live (l ++ gs) r1 p s Q := fun r1 p s Q ⟨ob, q1, q2⟩ =>
    ⟨(hsub r1 ob q1).1, ob, (hsub r1 ob q1).2, q2⟩
  have hself : ∀ p s Q, rowsAt sz R p = some (s, Q) → Live (l ++ gs) r p s Q := fun p s Q hq => ⟨_, hob', hq⟩
  have hlt : ∀ r1 p s Q b, Live (l ++ gs) r1 p s Q → gh.G r1 p = some b → b < w.heap.size := fun r1 p s Q b hl hg => by
    obtain ⟨_, _, cs, e', f', k3, _⟩ := hr.heap.rows r1 p s Q b hl hg
    exact block_lt k3
  have hneB : ∀ r1 p s Q b, Live (l ++ gs) r1 p s Q → gh.G r1 p = some b → (r1 ≠ r ∨ p ≠ []) → b ≠ b' := fun r1 p s Q b hl hg hne e => by
    rcases hb' with rfl | hb'
    · have := hlt r1 p s Q b hl hg; omega
    · subst e
      obtain ⟨e1, e2⟩ := hr.heap.inj r1 p s Q r [] sz R b hl (hself [] sz R rfl) hg hb'
      rcases hne with h | h
      · exact h e1
      · exact h e2
  have hnS : ¬ gh.S b' := by
    rcases hb' with rfl | hb'
    · exact fun hs => absurd (hr.heap.S _ hs) (Nat.lt_irrefl _)
    · exact (hr.heap.rows r [] sz R b' (hself [] sz R rfl) hb').1
  have hSk : ∀ k, gh.S k → w'.heap[k]? = w.heap[k]? := fun k hk => hblk k (hr.heap.S k hk) (fun e => hnS (e ▸ hk))
  let G1 : Path → Option Nat := fun p => if p = [] then some b' else gh.G r p
  have hG1 : ∀ p, p ≠ [] → G1 p = gh.G r p := fun p hp => if_neg hp
  have hkeepB : ∀ p s Q b cells e f, p ≠ [] → rowsAt sz R p = some (s, Q) → gh.G r p = some b → w.heap[b]? = some (.cells cells e f) → w'.heap[b]? = some (.cells cells e f) := fun p s Q b cells e f hp hq hg hb => by
    rw [hblk b (block_lt hb) (hneB r p s Q b (hself p s Q hq) hg (.inr hp))]; exact hb
  have hA : Adopt gh w w' (l2 ++ gs2) r' sz (R ++ X) G1 (some b') := by
    refine ⟨hos, htape, hout, hsz, fun k hk hne => hblk k hk (fun e => hne (by rw [e])), fun k hk => by cases hk; exact hnS, fun k arr cl hk hm => ?_, fun r1 p s Q k hl hk hg => ?_, fun p s Q b hq hg => ?_, fun p s Q hq hg => ?_, fun p s Q p2 s2 Q2 b hq hq2 hg hg2 => ?_, fun p s Q b r1 p1 s1 R1 hq hg hl hg1 => ?_⟩
    · cases hk
      rcases hb' with rfl | hb'
      · exact absurd (block_lt hm) (Nat.lt_irrefl _)
      · obtain ⟨_, _, cs, e', f', k3, _⟩ := hr.heap.rows r [] sz R b' (hself [] sz R rfl) hb'
        rw [hm] at k3; cases k3
    · cases hk
      obtain ⟨n1, n2⟩ := hlive r1 p s Q hl
      exact hneB r1 p s Q b' n2 hg (.inl n1) rfl
    · by_cases hp : p = []
      · subst hp
        simp only [rowsAt, Option.some.injEq, Prod.mk.injEq] at hq
        obtain ⟨rfl, rfl⟩ := hq
        have : b' = b := Option.some.inj ((if_pos rfl : G1 [] = some b').symm.trans hg)
        subst this
        obtain ⟨cells, e, f, c1, c2, c3, c4, c5⟩ := hc
        refine ⟨hnS, fun i hi => ?_, cells, e, f, c1, c2, by simpa using c3, fun i j hi hj => ?_⟩
        · rw [List.getD_eq_getElem?_getD]
          by_cases hlt : i < R.length
          · rw [List.getElem?_append_left hlt, ← List.getD_eq_getElem?_getD]; exact hRl i hlt
          · rw [List.getElem?_append_right (Nat.le_of_not_lt hlt), ← List.getD_eq_getElem?_getD]
            exact hXl _ (by simp at hi; omega)
        · by_cases hlt : i < R.length
          · have e1 : cellAt (R ++ X) i j = cellAt R i j := by unfold cellAt; rw [List.getD_eq_getElem?_getD (l := R ++ X), List.getElem?_append_left hlt, ← List.getD_eq_getElem?_getD]
            rw [e1]
            refine cell_tr (nrRR_get hRn i j) hSk (fun s Q hQ => ?_) (c4 i j hlt hj)
            have hq1 : rowsAt sz R ([] ++ [(i, j)]) = some (s, Q) := rowsAt_snoc (p := []) rfl hlt (by rw [hRl i hlt]; exact hj) hQ
            exact ⟨hG1 _ (by simp), fun b cells e f hg hb => hkeepB _ s Q b cells e f (by simp) hq1 hg hb⟩
          · have e1 : cellAt (R ++ X) i j = cellAt X (i - R.length) j := by unfold cellAt; rw [List.getD_eq_getElem?_getD (l := R ++ X), List.getElem?_append_right (Nat.le_of_not_lt hlt), ← List.getD_eq_getElem?_getD]
            have c6 := c5 (i - R.length) j (by simp at hi; omega) hj
            rw [show R.length + (i - R.length) = i by omega] at c6
            rw [e1]
            exact CR.any _ (CR.goes (o := []) (o' := []) (g := gh) (g' := gh1 gh r' G1) ⟨fun k (hk : gh.S k) => ⟨hk, hSk k hk⟩, fun _ _ _ _ ⟨_, h, _⟩ => (by cases h)⟩ c6)
      · have hq' := rowsAt_app hXo hp hq
        rw [hG1 p hp] at hg
        obtain ⟨k1, k2, cs, e', f', k3, kf, k4, k5⟩ := hr.heap.rows r p s Q b (hself p s Q hq') hg
        refine ⟨k1, k2, cs, e', f', hkeepB p s Q b cs e' f' hp hq' hg k3, kf, k4, fun i j hi hj => ?_⟩
        refine cell_tr (nrRR_get (nrRR_rowsAt hRn hq') i j) hSk (fun s2 Q2 hQ => ?_) (k5 i j hi hj)
        have hq1 : rowsAt sz R (p ++ [(i, j)]) = some (s2, Q2) := rowsAt_snoc hq' hi (by rw [k2 i hi]; exact hj) hQ
        exact ⟨hG1 _ (by simp), fun b cells e f hg hb => hkeepB _ s2 Q2 b cells e f (by simp) hq1 hg hb⟩
    · by_cases hp : p = []
      · subst hp; exact absurd ((if_pos rfl : G1 [] = some b').symm.trans hg) (by simp)
      · rw [hG1 p hp] at hg
        rcases hr.heap.none r p _ s Q hob' (rowsAt_app hXo hp hq) hg with h | ⟨h, _⟩
        · exact h
        · cases h
    · by_cases hp : p = [] <;> by_cases hp2 : p2 = []
      · rw [hp, hp2]
      · subst hp
        rw [hG1 p2 hp2] at hg2
        have : b' = b := Option.some.inj ((if_pos rfl : G1 [] = some b').symm.trans hg)
        exact absurd this.symm (hneB r p2 s2 Q2 b (hself p2 s2 Q2 (rowsAt_app hXo hp2 hq2)) hg2 (.inr hp2))
      · subst hp2
        rw [hG1 p hp] at hg
        have : b' = b := Option.some.inj ((if_pos rfl : G1 [] = some b').symm.trans hg2)
        exact absurd this.symm (hneB r p s Q b (hself p s Q (rowsAt_app hXo hp hq)) hg (.inr hp))
      · rw [hG1 p hp] at hg
        rw [hG1 p2 hp2] at hg2
        exact (hr.heap.inj r p s Q r p2 s2 Q2 b (hself p s Q (rowsAt_app hXo hp hq)) (hself p2 s2 Q2 (rowsAt_app hXo hp2 hq2)) hg hg2).2
    · obtain ⟨n1, n2⟩ := hlive r1 p1 s1 R1 hl
      by_cases hp : p = []
      · subst hp
        have : b' = b := Option.some.inj ((if_pos rfl : G1 [] = some b').symm.trans hg)
        exact hneB r1 p1 s1 R1 b n2 hg1 (.inl n1) this.symm
      · rw [hG1 p hp] at hg
        exact n1 (hr.heap.inj r1 p1 s1 R1 r p s Q b n2 (hself p s Q (rowsAt_app hXo hp hq)) hg1 hg).1
  have hAd := h2.adopt hA hr' hf (by rw [nrRR_all, List.all_append, ← nrRR_all, ← nrRR_all, hRn, hXn]; rfl) hr.maps (fun r1 ob h1 _ => ⟨ob, (hsub r1 ob h1).2, rfl⟩) (.ext (fun k hk hl => hblk k hk fun e => (by
      rcases hb' with rfl | hb'
      · exact absurd hk (by omega)
      · exact hl r [] sz R (hself [] sz R rfl) (e ▸ hb'))) (fun _ _ hs => hs) fun r1 p s Q k hl hG hk => (by
      obtain ⟨ob, q1, q2⟩ := hl
      have q1' : (if r' = r1 then some (⟨.sl, sz, R ++ X⟩ : Obj') else getA (l2 ++ gs2) r1) = some ob := q1
      split at q1'
      · rename_i e
        cases q1'
        subst e
        have hG' : G1 p = some k := (if_pos rfl : (gh1 gh r' G1).G r' p = G1 p).symm.trans hG
        by_cases hp : p = []
        · subst hp
          have : b' = k := Option.some.inj ((if_pos rfl : G1 [] = some b').symm.trans hG')
          subst this
          rcases hb' with rfl | hb'
          · exact absurd hk (Nat.lt_irrefl _)
          · exact ⟨_, _, _, _, hself [] sz R rfl, hb'⟩
        · rw [hG1 p hp] at hG'
          exact ⟨_, _, _, _, hself p s Q (rowsAt_app hXo hp q2), hG'⟩
      · rename_i e
        obtain ⟨n1, n2⟩ := hlive r1 p s Q ⟨ob, q1', q2⟩
        have hG' : gh.G r1 p = some k := (if_neg (fun e' => e e'.symm) : (gh1 gh r' G1).G r1 p = gh.G r1 p).symm.trans hG
        exact ⟨_, _, _, _, n2, hG'⟩))
  exact ⟨_, hAd.1, (if_pos rfl : (gh1 gh r' G1).G r' [] = G1 []).trans (if_pos rfl), hAd.2⟩
end
end Go.Rx
namespace Go.Rx
open Go.RowKit
section
variable {P : Program} {g0 gh : Gh} {w0 w w' : World} {a : Act} {t t2 : List V} {d : Nat} {l gs : Store}
theorem arr_getD (A : List Value) (B : Array Value) (k : Nat) (h : k < A.length) : (A.toArray ++ B).getD k undef = A.getD k undef := by
  have h2 : k < (A.toArray ++ B).size := by simp; omega
  rw [Array.getD, dif_pos h2, List.getD_eq_getElem?_getD, List.getElem?_eq_getElem h]
  show (A.toArray ++ B)[k] = _
  rw [Array.getElem_append_left (by simpa using h)]; simp
theorem mul_lt {i n j s : Nat} (hi : i < n) (hj : j < s) : i * s + j < n * s := by
  have := Nat.mul_le_mul_right s (show i + 1 ≤ n by omega)
  rw [Nat.add_mul] at this; omega
def AppTold (w w' : World) (gh g' : Gh) (o o' : Store) (r' : Root) (sz n m : Nat) (news : List Value) : Prop := Goes w o gh w' o' g' ∧ ∀ b, g'.G r' [] = some b → ∃ cells e f, w'.heap[b]? = some (.cells cells e f) ∧
  ∀ p j, p < m → j < sz → cells.getD ((n + p) * sz + j) undef = news.getD (p * sz + j) undef
theorem append_runG {r r' : Root} {sz : Nat} {R X : List (List C)} (hr : Rel g0 w0 ⟨t, d, l, gs⟩ gh a w) (hob' : getA (l ++ gs) r = some ⟨.sl, sz, R⟩) {l2 gs2 : Store} (h2 : Rel g0 w0 ⟨t2, d, l2, gs2⟩ gh a w)
    (hsub : ∀ r1 ob, getA (l2 ++ gs2) r1 = some ob → r1 ≠ r ∧ getA (l ++ gs) r1 = some ob) (hr' : r'.1 = d) (hf : getA l2 r' = none) (hXn : nrRR X = true) (hXo : ∀ i j s Q, cellAt X i j ≠ .own s Q) (hXl : ∀ k, k < X.length → (X.getD k []).length = sz)
    {ty tx tt e : TypeId} {i : TypeInfo} {z : Value} {ys yx : Value} {news : List Value} (ht : P.underlying tt = some (.slice e)) (hi : P.info? e = some i) (hz : i.zero = some z) (hsize : i.size = sz) (hzs : z.cells.size = sz) (hpos : 0 < sz)
    (hs : SlAt gh w r [] sz 0 R.length ys) (hsrc : Src P sz tx yx X.length news w) (hXc : ∀ k j, k < X.length → j < sz → CR w [] gh none (cellAt X k j) (news.getD (k * sz + j) undef))
    (h63 : R.length + X.length ≤ 9223372036854775807) (hby : ((R.length + X.length) + (R.length + X.length) / 4 + 192) * i.bytes ≤ 281474976710656) :
    ∃ y' w' g', (Builtin.append_ #[tt, tx] ty #[ys, yx]).run P w = .ok y' w' ∧ Rel g0 w0 ⟨t2, d, (r', ⟨.sl, sz, R ++ X⟩) :: l2, gs2⟩ g' a w' ∧ SlAt g' w' r' [] sz 0 (R.length + X.length) y' ∧ AppTold w w' gh g' (l2 ++ gs2) ((r', ⟨.sl, sz, R ++ X⟩) :: l2 ++ gs2) r' sz R.length X.length news := by
  subst hsize
  have hml : R.length + X.length ≤ maxLen := h63
  have hnl := hsrc.newsLen
  -- the arm that grows
  have grow : ∀ (base : Option Addr) (cap : Nat) (olds : List Value), ys = .slice base R.length cap → cap < R.length + X.length → olds.length = R.length * i.size →
      (Builtin.firstCells i.size R.length (.slice base R.length cap)).run P w.drew = .ok olds.toArray w.drew →
      (∀ k, k < R.length → (R.getD k []).length = i.size) →
      (∀ k j, k < R.length → j < i.size → CR w (l ++ gs) gh (some (r, [], k, j)) (cellAt R k j) (olds.getD (k * i.size + j) undef)) →
      ∃ y' w' g', (Builtin.append_ #[tt, tx] ty #[ys, yx]).run P w = .ok y' w' ∧ Rel g0 w0 ⟨t2, d, (r', ⟨.sl, i.size, R ++ X⟩) :: l2, gs2⟩ g' a w' ∧ SlAt g' w' r' [] i.size 0 (R.length + X.length) y' ∧ AppTold w w' gh g' (l2 ++ gs2) ((r', ⟨.sl, i.size, R ++ X⟩) :: l2 ++ gs2) r' i.size R.length X.length news := by
    intro base cap olds hys hg holen hold hRl hcR
    subst hys
    have hrun := run_append_grow_src (P := P) w tt tx ty e i z ht hi hz base R.length cap olds hold yx X.length news hsrc hg (by omega) (growslice_fits_wide hg hby)
    have hge := grownCap_ge w (R.length + X.length) cap e
    have hcm := grownCap_le_maxLen w (R.length + X.length) cap e hml
    generalize hN : grownCap w (R.length + X.length) cap e = N at hrun hge hcm
    have hlen : (olds ++ news).length = (R.length + X.length) * i.size := by rw [List.length_append, holen, hnl, Nat.add_mul]
    have hnew : (w.drew.alloc (.cells ((olds ++ news).toArray ++ Builtin.zeroCells z.cells (N - (R.length + X.length))) e)).heap[w.heap.size]? = some (.cells ((olds ++ news).toArray ++ Builtin.zeroCells z.cells (N - (R.length + X.length))) e) := heap_alloc_new w.drew _
    have hcs : ((olds ++ news).toArray ++ Builtin.zeroCells z.cells (N - (R.length + X.length))).size = N * i.size := by
      rw [Array.size_append, size_zeroCells, hzs, List.size_toArray, hlen, ← Nat.add_mul]; congr 1; omega
    obtain ⟨g', k1, k2, k3⟩ := append_core (w' := w.drew.alloc (.cells ((olds ++ news).toArray ++ Builtin.zeroCells z.cells (N - (R.length + X.length))) e)) (b' := w.heap.size) hr hob' h2 hsub hr' hf hXn hXo hXl hRl rfl rfl rfl
      (by simp) (fun k hk _ => heap_alloc w.drew _ k hk) (.inl rfl) ⟨_, e, (0, 0), hnew, fun _ _ h => absurd h.2 (Nat.not_lt_zero _), by rw [hcs]; exact Nat.mul_le_mul_right _ hge, fun p j hp hj => by
        have hlt := mul_lt hp hj
        rw [arr_getD _ _ _ (by rw [hlen, Nat.add_mul]; omega), List.getD_eq_getElem?_getD, List.getElem?_append_left (by rw [holen]; exact hlt), ← List.getD_eq_getElem?_getD]
        exact hcR p j hp hj, fun p j hp hj => by
        have hlt := mul_lt hp hj
        have e1 : (R.length + p) * i.size + j = R.length * i.size + (p * i.size + j) := by rw [Nat.add_mul]; omega
        rw [e1, arr_getD _ _ _ (by rw [hlen, Nat.add_mul]; omega), List.getD_eq_getElem?_getD, List.getElem?_append_right (by rw [holen]; omega), holen, Nat.add_sub_cancel_left, ← List.getD_eq_getElem?_getD]
        exact hXc p j hp hj⟩
    refine ⟨_, _, g', hrun, k1, ?_, k3, fun b hb => ?_⟩
    · unfold SlAt
      rw [k2]
      refine ⟨⟨w.heap.size, 0, none⟩, N, rfl, rfl, hge, hcm, fun _ => by simp, fun _ => ⟨rfl, _, e, (0, 0), hnew, hcs.symm⟩, fun _ => ⟨_, e, (0, 0), hnew, by rw [Nat.zero_add]; exact hcs.symm⟩⟩
    · rw [k2] at hb
      cases hb
      refine ⟨_, e, (0, 0), hnew, fun p j hp hj => ?_⟩
      have hlt := mul_lt hp hj
      have e1 : (R.length + p) * i.size + j = R.length * i.size + (p * i.size + j) := by rw [Nat.add_mul]; omega
      rw [e1, arr_getD _ _ _ (by rw [hlen, Nat.add_mul]; omega), List.getD_eq_getElem?_getD, List.getElem?_append_right (by rw [holen]; omega), holen, Nat.add_sub_cancel_left, ← List.getD_eq_getElem?_getD]
  unfold SlAt at hs
  cases hG : gh.G r [] with
  | none =>
    rw [hG] at hs
    obtain ⟨rfl, hl0⟩ := hs
    obtain rfl : R = [] := List.eq_nil_of_length_eq_zero hl0
    by_cases hm : X.length = 0
    · obtain rfl : X = [] := List.eq_nil_of_length_eq_zero hm
      have hne : news = [] := List.eq_nil_of_length_eq_zero (by simpa using hnl)
      subst hne
      have hrun : (Builtin.append_ #[tt, tx] ty #[.slice none 0 0, yx]).run P w = .ok (.slice none 0 0) w := by
        have hl := hsrc.len
        have hc := hsrc.cells
        simp only [List.length_nil] at hl hc
        rcases hsrc.kind with ⟨e', hk⟩ | hk <;> simp [Builtin.append_, run_underlying ht, run_underlying hk, sizeOf, typeInfo, hi, hl, hc]
      have hA : Adopt gh w w (l2 ++ gs2) r' i.size ([] : List (List C)) (fun _ => none) none := by
        refine ⟨rfl, rfl, rfl, Nat.le_refl _, fun _ _ _ => rfl, fun k hk => (by cases hk), fun k _ _ hk => (by cases hk), fun _ _ _ _ k _ hk => (by cases hk), fun p s Q b _ hg => (by cases hg), fun p s Q hq _ => ?_, fun p s Q p2 s2 Q2 b _ _ hg => (by cases hg), fun p s Q b r1 p1 s1 R1 _ hg => (by cases hg)⟩
        cases p with
        | nil => simp only [rowsAt, Option.some.injEq, Prod.mk.injEq] at hq; exact hq.2.symm
        | cons q p => simp [rowsAt] at hq
      have hAd := h2.adopt hA hr' hf rfl h2.maps (fun _ ob h _ => ⟨ob, h, rfl⟩) (.ext (fun _ _ _ => rfl) (fun _ _ hs => hs) fun r1 p s Q k hl hG _ => (by
        obtain ⟨ob, q1, q2⟩ := hl
        have q1' : (if r' = r1 then some (⟨.sl, i.size, []⟩ : Obj') else getA (l2 ++ gs2) r1) = some ob := q1
        split at q1'
        · rename_i e
          subst e
          have hG' : (none : Option Nat) = some k := (if_pos rfl : (gh1 gh r' (fun _ => none)).G r' p = none).symm.trans hG
          cases hG'
        · rename_i e
          have hG' : gh.G r1 p = some k := (if_neg (fun e' => e e'.symm) : (gh1 gh r' (fun _ => none)).G r1 p = gh.G r1 p).symm.trans hG
          exact ⟨_, _, _, _, ⟨ob, q1', q2⟩, hG'⟩))
      have hn : (gh1 gh r' (fun _ => none)).G r' [] = none := if_pos rfl
      refine ⟨_, _, _, hrun, hAd.1, ?_, hAd.2, fun b hb => by rw [hn] at hb; cases hb⟩
      unfold SlAt
      rw [hn]
      exact ⟨rfl, rfl⟩
    · exact grow none 0 [] rfl (by simp; omega) (by simp) (run_firstCells_none w.drew i.size 0 0 0) (fun k hk => absurd hk (Nat.not_lt_zero _)) (fun k j hk => absurd hk (Nat.not_lt_zero _))
  | some b =>
    rw [hG] at hs
    obtain ⟨ad, cap, hys, hab, hlc, hcm, _, hs5, _⟩ := hs
    obtain ⟨rfl, cells, e0, f, hb, hcap⟩ := hs5 rfl
    obtain ⟨_, hRl, cells', e1, f1, hb1, hth, hfit, hcR⟩ := hr.heap.rows r [] i.size R b ⟨_, hob', rfl⟩ hG
    have hbe : cells' = cells ∧ e1 = e0 ∧ f1 = f := by rw [hb] at hb1; cases hb1; exact ⟨rfl, rfl, rfl⟩
    obtain ⟨rfl, rfl, rfl⟩ := hbe
    by_cases hroom : R.length + X.length ≤ cap
    · have hfit2 : R.length * i.size + news.length ≤ cells'.size := by rw [hnl, ← Nat.add_mul, ← hcap]; exact Nat.mul_le_mul_right _ hroom
      have hrun := run_append_room_src (P := P) w tt tx ty e i ht hi b 0 R.length cap yx X.length news hsrc hroom
        (fun j hj => by rw [cell_of_block hb (show 0 + R.length * i.size + j < cells'.size by omega)]; rfl)
        (fun j hj => by
          have := hth (0 + R.length * i.size + j) (by omega)
          simp only [World.frozen?, hb]
          simpa using this)
      obtain ⟨wos, wtape, wout, wsize, wother⟩ := setCells_world b news (0 + R.length * i.size) w
      obtain ⟨cur', hcur, hcs, hval⟩ := setCells_block b news (0 + R.length * i.size) w cells' e1 f1 hb (by omega)
      obtain ⟨g', k1, k2, k3⟩ := append_core (w' := w.setCells b (0 + R.length * i.size) news) (b' := b) hr hob' h2 hsub hr' hf hXn hXo hXl hRl wos wtape wout (Nat.le_of_eq wsize.symm) (fun k _ hk => wother k hk) (.inr hG)
        ⟨cur', e1, f1, hcur, fun k hk => hth k (by rw [← hcs]; exact hk), by rw [hcs, ← hcap]; exact Nat.mul_le_mul_right _ hroom, fun p j hp hj => by
          have hlt := mul_lt hp hj
          rw [hval, if_neg (by omega)]
          exact hcR p j hp hj, fun p j hp hj => by
          have hlt := mul_lt hp hj
          have e1 : (R.length + p) * i.size + j = R.length * i.size + (p * i.size + j) := by rw [Nat.add_mul]; omega
          rw [e1, hval, if_pos (by rw [hnl]; omega), show R.length * i.size + (p * i.size + j) - (0 + R.length * i.size) = p * i.size + j by omega]
          exact hXc p j hp hj⟩
      subst hys
      refine ⟨_, _, g', hrun, k1, ?_, k3, fun b2 hb2 => ?_⟩
      · unfold SlAt
        rw [k2]
        exact ⟨⟨b, 0, none⟩, cap, rfl, rfl, hroom, hcm, fun _ => by simp, fun _ => ⟨rfl, cur', e1, f1, hcur, by rw [hcs]; exact hcap⟩, fun _ => ⟨cur', e1, f1, hcur, by rw [hcs, Nat.zero_add]; exact hcap⟩⟩
      · rw [k2] at hb2
        cases hb2
        refine ⟨cur', e1, f1, hcur, fun p j hp hj => ?_⟩
        have hlt := mul_lt hp hj
        have e1 : (R.length + p) * i.size + j = R.length * i.size + (p * i.size + j) := by rw [Nat.add_mul]; omega
        rw [e1, hval, if_pos (by rw [hnl]; omega), show R.length * i.size + (p * i.size + j) - (0 + R.length * i.size) = p * i.size + j by omega]
    · have holdlen : (cells'.toList.take (R.length * i.size)).length = R.length * i.size := by simp; omega
      refine grow (some ⟨b, 0, none⟩) cap (cells'.toList.take (R.length * i.size)) hys (by omega) holdlen
        (run_firstCells_some w.drew i.size R.length ⟨b, 0, none⟩ R.length cap _ holdlen (fun j v hv => ?_)) hRl (fun p j hp hj => ?_)
      · have hj : j < R.length * i.size := by rw [← holdlen]; exact (List.getElem?_eq_some_iff.1 hv).1
        have hc := cell_of_block (n := j) hb (by omega)
        rw [List.getElem?_take, if_pos hj] at hv
        have hj2 : j < cells'.size := by omega
        rw [Array.getElem?_toList, Array.getElem?_eq_getElem hj2] at hv
        cases hv
        show w.cell? ((⟨b, 0, none⟩ : Addr).add j) = _
        rw [show ((⟨b, 0, none⟩ : Addr).add j) = ⟨b, j, none⟩ by simp [Addr.add]; intro h0; exact h0.symm, hc]
        simp [Array.getD, hj2]
      · have hlt := mul_lt hp hj
        rw [List.getD_eq_getElem?_getD, List.getElem?_take, if_pos hlt, ← List.getD_eq_getElem?_getD, getD_flat _ _ (by omega)]
        exact hcR p j hp hj
theorem append_run {r r' : Root} {sz : Nat} {R X : List (List C)} (hr : Rel g0 w0 ⟨t, d, l, gs⟩ gh a w) (hob : getA l r = some ⟨.sl, sz, R⟩) (h2 : Rel g0 w0 ⟨t2, d, delA l r, gs⟩ gh a w)
    (hr' : r'.1 = d) (hf : getA (delA l r) r' = none) (hXn : nrRR X = true) (hXo : ∀ i j s Q, cellAt X i j ≠ .own s Q) (hXl : ∀ k, k < X.length → (X.getD k []).length = sz)
    {ty tx tt e : TypeId} {i : TypeInfo} {z : Value} {ys yx : Value} {news : List Value} (ht : P.underlying tt = some (.slice e)) (hi : P.info? e = some i) (hz : i.zero = some z) (hsize : i.size = sz) (hzs : z.cells.size = sz) (hpos : 0 < sz)
    (hs : SlAt gh w r [] sz 0 R.length ys) (hsrc : Src P sz tx yx X.length news w) (hXc : ∀ k j, k < X.length → j < sz → CR w [] gh none (cellAt X k j) (news.getD (k * sz + j) undef))
    (h63 : R.length + X.length ≤ 9223372036854775807) (hby : ((R.length + X.length) + (R.length + X.length) / 4 + 192) * i.bytes ≤ 281474976710656) :
    ∃ y' w' g', (Builtin.append_ #[tt, tx] ty #[ys, yx]).run P w = .ok y' w' ∧ Rel g0 w0 ⟨t2, d, (r', ⟨.sl, sz, R ++ X⟩) :: delA l r, gs⟩ g' a w' ∧ SlAt g' w' r' [] sz 0 (R.length + X.length) y' ∧ AppTold w w' gh g' (delA l r ++ gs) ((r', ⟨.sl, sz, R ++ X⟩) :: delA l r ++ gs) r' sz R.length X.length news :=
  append_runG hr (by rw [getA_append, hob]) h2 (fun r1 ob h1 => by
    rw [getA_append, getA_delA] at h1
    rw [getA_append]
    by_cases e : r = r1
    · subst e
      rw [if_pos rfl] at h1
      have k1 := hr.out r ob h1
      have k2 := hr.loc r _ hob
      simp only at k1 k2
      omega
    · rw [if_neg e] at h1
      exact ⟨fun e' => e e'.symm, h1⟩) hr' hf hXn hXo hXl ht hi hz hsize hzs hpos hs hsrc hXc h63 hby
end
end Go.Rx
namespace Go.Rx
open Go.RowKit
def hasX (r : Root) : X → Bool
  | .one c => hasC r c
  | .agg cs => cs.any (hasC r)
def hasV (r : Root) : V → Bool
  | .x x => hasX r x
  | .tup xs => xs.any (hasX r)
def killV (r : Root) (v : V) : V := if hasV r v = true then .x (.one .bad) else v
theorem T2_kill (r : Root) : ∀ t : List V, T2 t (t.map (killV r))
  | [] => trivial
  | v :: t => by
    refine ⟨?_, T2_kill r t⟩
    unfold killV
    split
    · exact .inr rfl
    · exact .inl rfl
def srcRows (P : Program) (o : Store) (tx : TypeId) : V → Option (Nat × List (List C))
  | .x (.one (.sh sz R)) => (tyElem P tx).map fun _ => (sz, R)
  | .x (.one (.rs r p sz off len)) => match tyElem P tx, getA o r with
    | some _, some ob => match rowsAt ob.sz ob.rows p with
      | some (sz', R) => if sz' = sz then some (sz, (R.drop off).take len) else none
      | none => none
    | _, _ => none
  | .x (.one (.v (.string s))) => match P.underlying tx with
    | some .string => some (1, s.data.toList.map fun b => [.v (.int .u8 b.toNat)])
    | _ => none
  | .x (.one (.v (.slice _ 0 _))) => match tyElem P tx with
    | some e => (tySz P e).map fun sz => (sz, [])
    | none => none
  | _ => none
def flatRow (row : List C) : Bool := row.all fun c => cellOk c && nr c
def flatRows (X : List (List C)) : Bool := X.all flatRow
theorem scalar_one' {v : Value} (h : scalar v = true) : v.oneCell' = true := by cases v <;> first | rfl | cases h
section
variable {P : Program} {w w0 : World} {g g0 : Gh} {σ : St} {a : Act} {o : Store}
theorem flatRows_get {X : List (List C)} (h : flatRows X = true) (i j : Nat) (hi : i < X.length) (hj : j < (X.getD i []).length) : cellOk (cellAt X i j) = true ∧ nr (cellAt X i j) = true := by
  unfold flatRows at h
  rw [List.all_eq_true] at h
  have h1 := h (X.getD i []) (by rw [List.getD_eq_getElem?_getD, List.getElem?_eq_getElem hi]; exact List.getElem_mem hi)
  unfold flatRow at h1
  rw [List.all_eq_true] at h1
  have := h1 (cellAt X i j) (by unfold cellAt; rw [List.getD_eq_getElem?_getD (l := X.getD i []), List.getElem?_eq_getElem hj]; exact List.getElem_mem hj)
  simpa using this
theorem flatRows_notOwn {X : List (List C)} (h : flatRows X = true) : ∀ i j s Q, cellAt X i j ≠ .own s Q := by
  intro i j s Q e
  by_cases hi : i < X.length
  · by_cases hj : j < (X.getD i []).length
    · have := (flatRows_get h i j hi hj).1
      rw [e] at this; cases this
    · unfold cellAt at e; rw [List.getD_eq_getElem?_getD (l := X.getD i []), List.getElem?_eq_none (by omega)] at e; cases e
  · unfold cellAt at e; rw [List.getD_eq_getElem?_getD (l := X), List.getElem?_eq_none (by omega)] at e; cases e
theorem flatRows_nr {X : List (List C)} (h : flatRows X = true) : nrRR X = true := by
  have hr : ∀ row : List C, flatRow row = true → nrR row = true := by
    intro row
    induction row with
    | nil => intro _; rfl
    | cons c cs ih =>
      intro h
      simp only [flatRow, List.all_cons, Bool.and_eq_true] at h
      simp only [nrR, h.1.2, Bool.true_and]
      exact ih h.2
  induction X with
  | nil => rfl
  | cons r X ih =>
    simp only [flatRows, List.all_cons, Bool.and_eq_true] at h
    simp only [nrRR, hr r h.1, Bool.true_and]
    exact ih h.2
theorem CR.flat {l : Option (Root × Path × Nat × Nat)} {c : C} {y : Value} (h1 : cellOk c = true) (h2 : nr c = true) (h : CR w o g l c y) : CR w [] g none c y := by
  cases c with
  | v x => exact h
  | sh s R => exact h
  | ps cs => exact h
  | bad => trivial
  | own s R => cases h1
  | rs _ _ _ _ _ => simp [nr] at h2
  | pt _ _ _ _ _ => simp [nr] at h2
theorem CR_of_sh {c : C} {y : Value} (h : Sh w g.S c y) : CR w [] g none c y := by
  cases h with
  | v x => rfl
  | nil sz => exact Sh.nil sz
  | slice sz R a len cap vals h1 h2 h3 h4 h5 h6 h7 => exact Sh.slice sz R a len cap vals h1 h2 h3 h4 h5 h6 h7
  | ptr cs a vals h1 h2 h3 => exact Sh.ptr cs a vals h1 h2 h3
  | bad x => trivial
theorem news_get (n : Nat) (f : Nat → Value) (k : Nat) (h : k < n) : ((List.range n).map f).getD k undef = f k := by
  simp [List.getD_eq_getElem?_getD, h]
theorem srcRows_src (hh : HeapRel w o g) {tx : TypeId} {v : V} {y : Value} {sz : Nat} {X : List (List C)} (hs : srcRows P o tx v = some (sz, X)) (hv : VR w o g v y) (hfl : flatRows X = true) (hpos : 0 < sz) :
    ∃ news, Src P sz tx y X.length news w ∧ (∀ k, k < X.length → (X.getD k []).length = sz) ∧ ∀ k j, k < X.length → j < sz → CR w [] g none (cellAt X k j) (news.getD (k * sz + j) undef) := by
  -- out of rows in memory, cell by cell
  have mem : ∀ (ad : Addr) (cap : Nat) (f : Nat → Value) (e' : TypeId), P.underlying tx = some (.slice e') → (∀ k, k < X.length → (X.getD k []).length = sz) → (∀ q, q < X.length * sz → w.cell? (ad.add q) = some (f q)) →
      (∀ k j, k < X.length → j < sz → CR w [] g none (cellAt X k j) (f (k * sz + j))) → y = .slice (some ad) X.length cap →
      ∃ news, Src P sz tx y X.length news w ∧ (∀ k, k < X.length → (X.getD k []).length = sz) ∧ ∀ k j, k < X.length → j < sz → CR w [] g none (cellAt X k j) (news.getD (k * sz + j) undef) := by
    intro ad cap f e' hk hl hcell hcr hy
    subst hy
    refine ⟨(List.range (X.length * sz)).map f, Src.ofSlice (P := P) w hk ad X.length cap _ (by simp) (fun j u hj => ?_) (fun u hu => ?_), hl, fun k j hk' hj => ?_⟩
    · rw [List.getElem?_map] at hj
      obtain ⟨q, hq, rfl⟩ := Option.map_eq_some_iff.1 hj
      obtain ⟨h1, h2⟩ := List.getElem?_eq_some_iff.1 hq
      simp only [List.length_range] at h1
      simp only [List.getElem_range] at h2
      subst h2
      exact hcell j h1
    · obtain ⟨q, hq, rfl⟩ := List.mem_map.1 hu
      simp only [List.mem_range] at hq
      have hd : q / sz < X.length := Nat.div_lt_of_lt_mul (by rw [Nat.mul_comm]; exact hq)
      have hm : q % sz < sz := Nat.mod_lt _ hpos
      have := hcr (q / sz) (q % sz) hd hm
      rw [show q / sz * sz + q % sz = q by rw [Nat.mul_comm]; exact Nat.div_add_mod q sz] at this
      exact scalar_one' (CR.scalar (flatRows_get hfl _ _ hd (by rw [hl _ hd]; exact hm)).1 this)
    · rw [news_get _ _ _ (mul_lt hk' hj)]
      exact hcr k j hk' hj
  have none_ : ∀ (cap : Nat) (e' : TypeId), P.underlying tx = some (.slice e') → y = .slice none 0 cap → X = [] →
      ∃ news, Src P sz tx y X.length news w ∧ (∀ k, k < X.length → (X.getD k []).length = sz) ∧ ∀ k j, k < X.length → j < sz → CR w [] g none (cellAt X k j) (news.getD (k * sz + j) undef) := by
    intro cap e' hk hy hX
    subst hy hX
    exact ⟨[], Src.ofNil (P := P) w hk cap, fun k hk => absurd hk (Nat.not_lt_zero _), fun k j hk => absurd hk (Nat.not_lt_zero _)⟩
  unfold srcRows at hs
  split at hs
  · rename_i s R
    simp only [Option.map_eq_some_iff] at hs
    obtain ⟨e', he, hs⟩ := hs
    cases hs
    have hv' : Sh w g.S (.sh sz X) y := hv
    cases hv' with
    | nil => exact none_ 0 e' (tyElem_spec he) rfl rfl
    | slice _ _ ad len cap vals h1 h2 h3 h4 h5 h6 h7 =>
      subst h1
      refine mem ad cap (fun q => vals (q / sz) (q % sz)) e' (tyElem_spec he) h5 (fun q hq => ?_) (fun k j hk hj => ?_) rfl
      · have hd : q / sz < X.length := Nat.div_lt_of_lt_mul (by rw [Nat.mul_comm]; exact hq)
        have hm : q % sz < sz := Nat.mod_lt _ hpos
        have := h6 (q / sz) (q % sz) hd hm
        rw [Addr.add_add, show q / sz * sz + q % sz = q by rw [Nat.mul_comm]; exact Nat.div_add_mod q sz] at this
        exact this
      · have e1 : (k * sz + j) / sz = k := by rw [Nat.mul_comm, Nat.mul_add_div hpos, Nat.div_eq_of_lt hj, Nat.add_zero]
        have e2 : (k * sz + j) % sz = j := by rw [Nat.mul_comm, Nat.mul_add_mod, Nat.mod_eq_of_lt hj]
        simp only [e1, e2]
        exact CR_of_sh (h7 k j hk hj)
  · rename_i r p s off len
    split at hs
    · rename_i e' ob he hob
      split at hs
      · rename_i s' R hR
        split at hs
        · rename_i hse
          subst hse
          cases hs
          obtain ⟨R', hl', hle, hsl⟩ := hv
          obtain ⟨_, rfl⟩ := Live.unique hl' ⟨ob, hob, hR⟩
          have hlen : ((R'.drop off).take len).length = len := by simp; omega
          have hget : ∀ k, k < len → ((R'.drop off).take len).getD k [] = R'.getD (off + k) [] := fun k hk => by
            simp [List.getD_eq_getElem?_getD, hk]
          unfold SlAt at hsl
          cases hG : g.G r p with
          | none =>
            rw [hG] at hsl
            obtain ⟨rfl, rfl⟩ := hsl
            exact none_ 0 e' (tyElem_spec he) rfl (by simp)
          | some b =>
            rw [hG] at hsl
            obtain ⟨ad, cap, rfl, hab, hlc, hcm, hpos', _⟩ := hsl
            obtain ⟨_, hRl, cells, e1, f1, hb1, hth, hfit, hcR⟩ := hh.rows r p sz R' b hl' hG
            by_cases h0 : len = 0
            · subst h0
              refine mem ad cap (fun _ => undef) e' (tyElem_spec he) (fun k hk => by simp at hk) (fun q hq => by simp at hq) (fun k j hk => by simp at hk) (by simp)
            · obtain rfl := hpos' (by omega)
              refine mem _ cap (fun q => cells.getD (off * sz + q) undef) e' (tyElem_spec he) (fun k hk => ?_) (fun q hq => ?_) (fun k j hk hj => ?_) (by rw [hlen])
              · rw [hlen] at hk; rw [hget k hk]; exact hRl _ (by omega)
              · rw [hlen] at hq
                have hlt : off * sz + q < cells.size := by
                  have := Nat.mul_le_mul_right sz hle
                  rw [Nat.add_mul] at this; omega
                have hc := cell_of_block hb1 hlt
                rw [show ((⟨b, off * sz, none⟩ : Addr).add q) = ⟨b, off * sz + q, none⟩ by simp only [Addr.add]; split <;> simp_all]
                exact hc
              · have hk2 : k < len := by rw [hlen] at hk; exact hk
                have e3 : cellAt ((R'.drop off).take len) k j = cellAt R' (off + k) j := by unfold cellAt; rw [hget k hk2]
                have hq := flatRows_get hfl k j hk (by rw [hget k hk2, hRl _ (by omega)]; exact hj)
                rw [e3] at hq ⊢
                have := hcR (off + k) j (by omega) hj
                rw [Nat.add_mul, Nat.add_assoc] at this
                exact CR.flat hq.1 hq.2 this
        · cases hs
      · cases hs
    · cases hs
  · rename_i s
    split at hs
    · rename_i hu
      cases hs
      cases (show y = .string s from hv)
      refine ⟨byteCells s, ?_, fun k hk => ?_, fun k j hk hj => ?_⟩
      · have := Src.ofString (P := P) w hu s
        rwa [show s.size = (s.data.toList.map fun b => [C.v (Value.int .u8 b.toNat)]).length by rw [List.length_map, Array.length_toList]; rfl] at this
      · simp at hk; simp [List.getD_eq_getElem?_getD, hk]
      · simp at hk
        obtain rfl : j = 0 := by omega
        simp [cellAt, List.getD_eq_getElem?_getD, hk, byteCells, CR]
    · cases hs
  · rename_i a0 cap
    split at hs
    · rename_i e' he
      simp only [Option.map_eq_some_iff] at hs
      obtain ⟨s, _, hs⟩ := hs
      cases hs
      cases (show y = .slice a0 0 cap from hv)
      cases a0 with
      | none => exact none_ cap e' (tyElem_spec he) rfl rfl
      | some ad => exact mem ad cap (fun _ => undef) e' (tyElem_spec he) (fun k hk => absurd hk (Nat.not_lt_zero _)) (fun q hq => by simp at hq) (fun k j hk => absurd hk (Nat.not_lt_zero _)) rfl
    · cases hs
  · cases hs
end
theorem delA_setA (s : Store) (r : Root) (ob : Obj') : delA (setA s r ob) r = delA s r := by
  induction s with
  | nil => rfl
  | cons p s ih =>
    obtain ⟨k, o⟩ := p
    by_cases h : k = r
    · simp only [setA, if_pos h, delA]
    · simp only [setA, if_neg h, delA, ih]
theorem flatRows_take {X : List (List C)} (h : flatRows X = true) (k : Nat) : flatRows (X.take k) = true := by
  unfold flatRows at *
  rw [List.all_eq_true] at *
  exact fun r hr => h r (List.mem_of_mem_take hr)
theorem Rel.cut {t t2 : List V} {d : Nat} {l gs : Store} {g0 gh : Gh} {w0 w : World} {a : Act} {r : Root} {sz : Nat} {R : List (List C)} (hr : Rel g0 w0 ⟨t, d, l, gs⟩ gh a w) (hob : getA l r = some ⟨.sl, sz, R⟩)
    (hfl : flatRows R = true) (h2 : Rel g0 w0 ⟨t2, d, delA l r, gs⟩ gh a w) (k : Nat) : Rel g0 w0 ⟨t2, d, setA l r ⟨.sl, sz, R.take k⟩, gs⟩ gh a w := by
  have hft := flatRows_take hfl k
  have hnew : getA (setA l r ⟨.sl, sz, R.take k⟩) r = some ⟨.sl, sz, R.take k⟩ := by rw [getA_setA, if_pos rfl, hob]; rfl
  have hnewo : getA (setA l r ⟨.sl, sz, R.take k⟩ ++ gs) r = some ⟨.sl, sz, R.take k⟩ := by rw [getA_append, hnew]
  have holdo : getA (l ++ gs) r = some ⟨.sl, sz, R⟩ := by rw [getA_append, hob]
  have hoth : ∀ r', r' ≠ r → getA (setA l r ⟨.sl, sz, R.take k⟩ ++ gs) r' = getA (l ++ gs) r' := fun r' hn => by
    rw [getA_append, getA_append, getA_setA, if_neg (Ne.symm hn)]
  have hdel : ∀ r', r' ≠ r → getA (delA l r ++ gs) r' = getA (l ++ gs) r' := fun r' hn => by
    rw [getA_append, getA_append, getA_delA, if_neg (Ne.symm hn)]
  have hgr : getA gs r = none := by
    cases e : getA gs r with
    | none => rfl
    | some ob =>
      have h1 := hr.out r ob e
      have h3 := hr.loc r _ hob
      simp only at h1 h3
      omega
  have hdelr : getA (delA l r ++ gs) r = none := by rw [getA_append, getA_delA, if_pos rfl]; exact hgr
  have hgoes : Goes w (delA l r ++ gs) gh w (setA l r ⟨.sl, sz, R.take k⟩ ++ gs) gh := by
    refine ⟨fun k hk => ⟨hk, rfl⟩, fun r' p m K hK => ⟨?_, rfl, fun b cs e f _ hb => ⟨cs, hb, rfl⟩⟩⟩
    obtain ⟨ob, h1, h3⟩ := hK
    have hn : r' ≠ r := fun e => by subst e; rw [hdelr] at h1; cases h1
    exact ⟨K, ⟨ob, by rw [hoth r' hn, ← hdel r' hn]; exact h1, h3⟩, Nat.le_refl _⟩
  -- a live root of the new store: r itself, or one of the others
  have hlive : ∀ r' p m K, Live (setA l r ⟨.sl, sz, R.take k⟩ ++ gs) r' p m K → (r' = r ∧ p = [] ∧ m = sz ∧ K = R.take k) ∨ (r' ≠ r ∧ Live (delA l r ++ gs) r' p m K) := by
    rintro r' p m K ⟨ob, h1, h3⟩
    by_cases e : r' = r
    · subst e
      rw [hnewo] at h1
      cases h1
      obtain ⟨p1, p2, p3⟩ := rowsAt_noOwn (fun i j s Q _ _ => flatRows_notOwn hft i j s Q) h3
      exact .inl ⟨rfl, p1, p2, p3⟩
    · exact .inr ⟨e, ob, by rw [hdel r' e, ← hoth r' e]; exact h1, h3⟩
  have hback : ∀ r' p m K, Live (setA l r ⟨.sl, sz, R.take k⟩ ++ gs) r' p m K → ∃ K', Live (l ++ gs) r' p m K' := fun r' p m K hl => by
    rcases hlive r' p m K hl with ⟨rfl, rfl, rfl, _⟩ | ⟨e, ob, h1, h3⟩
    · exact ⟨R, _, holdo, rfl⟩
    · exact ⟨K, ob, by rw [← hdel r' e]; exact h1, h3⟩
  have hlen : ∀ i, i < (R.take k).length → i < R.length ∧ (R.take k).getD i [] = R.getD i [] := fun i hi => by
    rw [List.length_take] at hi
    refine ⟨by omega, ?_⟩
    rw [List.getD_eq_getElem?_getD, List.getD_eq_getElem?_getD, List.getElem?_take_of_lt (by omega)]
  refine ⟨h2.defers, h2.size, fun i hi => VR.goes hgoes (h2.tmps i hi), ⟨fun r' p m K b hl hb => ?_, fun r' p ob m K k1 k2 k3 => ?_, fun r1 p1 m1 K1 r3 p3 m3 K3 b l1 l3 b1 b3 => ?_, h2.heap.S⟩, h2.keep, fun r' ob hq => ?_, h2.out, fun r' ob hq => ?_, hr.maps.mono (fun r' ob q1 q2 => ?_) (fun b arr cl q1 q2 => ⟨q1, q2⟩) (.same fun r' p m K hl => (by obtain ⟨K', h1⟩ := hback r' p m K hl; exact ⟨_, _, h1⟩)), h2.pin⟩
  · rcases hlive r' p m K hl with ⟨rfl, rfl, rfl, rfl⟩ | ⟨e, hl'⟩
    · obtain ⟨k1, k2, cs, e, f, k3, kf, k4, k5⟩ := hr.heap.rows r' [] m R b ⟨_, holdo, rfl⟩ hb
      refine ⟨k1, fun i hi => ?_, cs, e, f, k3, kf, Nat.le_trans (Nat.mul_le_mul_right _ (by rw [List.length_take]; omega)) k4, fun i j hi hj => ?_⟩
      · obtain ⟨q1, q2⟩ := hlen i hi
        rw [q2]; exact k2 i q1
      · obtain ⟨q1, q2⟩ := hlen i hi
        have hc : cellAt (R.take k) i j = cellAt R i j := by unfold cellAt; rw [q2]
        have hq := flatRows_get hfl i j q1 (by rw [k2 i q1]; exact hj)
        have h5 := k5 i j q1 hj
        rw [hc]
        revert hq h5
        generalize cellAt R i j = c
        intro hq h5
        cases c with
        | v x => exact h5
        | sh s R => exact h5
        | ps cs => exact h5
        | bad => trivial
        | own s R => cases hq.1
        | rs _ _ _ _ _ => simp [nr] at hq
        | pt _ _ _ _ _ => simp [nr] at hq
    · obtain ⟨k1, k2, cs, e, f, k3, kf, k4, k5⟩ := h2.heap.rows r' p m K b hl' hb
      exact ⟨k1, k2, cs, e, f, k3, kf, k4, fun i j hi hj => CR.goesAt hgoes hl' hi (by rw [k2 i hi]; exact hj) (k5 i j hi hj)⟩
  · by_cases e : r' = r
    · subst e
      rw [show getA (setA l r' ⟨.sl, sz, R.take k⟩ ++ gs) r' = some ob from k1] at hnewo
      cases hnewo
      obtain ⟨p1, p2, p3⟩ := rowsAt_noOwn (fun i j s Q _ _ => flatRows_notOwn hft i j s Q) k2
      subst p1 p2 p3
      rcases hr.heap.none r' [] _ _ R holdo rfl k3 with e | ⟨e, _⟩
      · left; rw [e]; exact List.take_nil
      · cases e
    · exact h2.heap.none r' p ob m K (by show getA (delA l r ++ gs) r' = _; rw [hdel r' e, ← hoth r' e]; exact k1) k2 k3
  · obtain ⟨K1', q1⟩ := hback _ _ _ _ l1
    obtain ⟨K3', q3⟩ := hback _ _ _ _ l3
    exact hr.heap.inj r1 p1 m1 K1' r3 p3 m3 K3' b q1 q3 b1 b3
  · by_cases e : r' = r
    · subst e; exact hr.loc r' _ hob
    · exact hr.loc r' ob (by have h' : getA (setA l r ⟨.sl, sz, R.take k⟩) r' = some ob := hq; rw [getA_setA, if_neg (Ne.symm e)] at h'; exact h')
  · by_cases e : r' = r
    · subst e
      rw [show getA (setA l r' ⟨.sl, sz, R.take k⟩ ++ gs) r' = some ob from hq] at hnewo
      cases hnewo
      exact flatRows_nr hft
    · exact h2.obj r' ob (by show getA (delA l r ++ gs) r' = _; rw [hdel r' e, ← hoth r' e]; exact hq)
  · by_cases e : r' = r
    · subst e
      rw [show getA (setA l r' ⟨.sl, sz, R.take k⟩ ++ gs) r' = some ob from q1] at hnewo
      cases hnewo
      cases q2
    · exact ⟨ob, by show getA (l ++ gs) r' = _; rw [← hoth r' e]; exact q1, rfl⟩
def appendS (P : Program) (σ : St) (dst : Option Tmp) (t tx : TypeId) (s x : V) : Option St :=
  match dst, tyElem P t with
  | some N, some e => match (P.info? e).bind (·.zero) with
    | some z => match (P.info? e).map (·.size), (P.info? e).map (·.bytes), srcRows P σ.o tx x with
      | some sz, some bytes, some (szx, X) => match s with
        | .x (.one (.rs r [] sz' 0 len)) => match getA σ.l r with
          | some ⟨.sl, sz2, R⟩ =>
            if z.cells.size = sz ∧ 0 < sz ∧ szx = sz ∧ sz' = sz ∧ sz2 = sz ∧ len = R.length ∧ flatRows X = true ∧ dropOk σ.d (delA (killL r σ.l) r) σ.g (σ.t.map (killV r)) = true ∧ (getA (delA (killL r σ.l) r) (σ.d, N * 64)).isNone = true ∧
              R.length + X.length ≤ 9223372036854775807 ∧ ((R.length + X.length) + (R.length + X.length) / 4 + 192) * bytes ≤ 281474976710656 then
              some (put ⟨σ.t.map (killV r), σ.d, ((σ.d, N * 64), ⟨.sl, sz, R ++ X⟩) :: delA (killL r σ.l) r, σ.g⟩ dst (.x (.one (.rs (σ.d, N * 64) [] sz 0 (R.length + X.length)))))
            else if z.cells.size = sz ∧ 0 < sz ∧ szx = sz ∧ sz' = sz ∧ sz2 = sz ∧ len ≤ R.length ∧ flatRows R = true ∧ flatRows X = true ∧ dropOk σ.d (delA (killL r σ.l) r) σ.g (σ.t.map (killV r)) = true ∧ (getA (delA (killL r σ.l) r) (σ.d, N * 64)).isNone = true ∧
              len + X.length ≤ 9223372036854775807 ∧ ((len + X.length) + (len + X.length) / 4 + 192) * bytes ≤ 281474976710656 then
              some (put ⟨σ.t.map (killV r), σ.d, ((σ.d, N * 64), ⟨.sl, sz, R.take len ++ X⟩) :: delA (killL r σ.l) r, σ.g⟩ dst (.x (.one (.rs (σ.d, N * 64) [] sz 0 (len + X.length)))))
            else none
          | _ => none
        | _ => none
      | _, _, _ => none
    | none => none
  | _, _ => none
section
variable {P : Program} {w w0 : World} {g g0 : Gh} {σ σ' : St} {a : Act}
theorem appendS_run (h : Rel g0 w0 σ g a w) {dst : Option Tmp} {t tx ty : TypeId} {s x : V} {ys yx : Value} (hs : appendS P σ dst t tx s x = some σ') (hv : VR w σ.o g s ys) (hx : VR w σ.o g x yx) :
    ∃ z w1 g1, (Builtin.append_ #[t, tx] ty #[ys, yx]).run P w = .ok z w1 ∧ Rel g0 w0 σ' g1 (a.put dst z) w1 := by
  obtain ⟨tt, d, l, gs⟩ := σ
  unfold appendS at hs
  split at hs
  case h_2 => cases hs
  rename_i N e he
  split at hs
  case h_2 => cases hs
  rename_i z hz
  split at hs
  case h_2 => cases hs
  rename_i sz bytes szx X hsz hby hsr
  split at hs
  case h_2 => cases hs
  rename_i r sz' len
  split at hs
  case h_2 => cases hs
  rename_i sz2 R hob
  split at hs
  · rename_i hc
    obtain ⟨c1, c2, c3, c4, c5, c6, c7, c8, c9, c10, c11⟩ := hc
    cases hs
    subst c3 c4 c5 c6
    rw [Option.bind_eq_some_iff] at hz
    obtain ⟨i, hi, hz⟩ := hz
    rw [hi] at hsz hby
    simp only [Option.map_some, Option.some.injEq] at hsz hby
    subst hsz hby
    obtain ⟨news, k1, k2, k3⟩ := srcRows_src h.heap hsr hx c7 c2
    obtain ⟨R', ⟨ob', q1, q2⟩, _, hsl⟩ := hv
    have hoo : ob' = ⟨.sl, i.size, R⟩ := by
      have q3 : getA (l ++ gs) r = some ob' := q1
      rw [getA_append, hob] at q3
      exact (Option.some.inj q3).symm
    subst hoo
    have hkl := Rel.kill r h
    have hobk : getA (killL r l) r = some ⟨.sl, i.size, R⟩ := by
      have hob2 : getA l r = some ⟨.sl, i.size, R⟩ := hob
      rw [getA_killL, hob2]; rfl
    have hdrop : Rel g0 w0 ⟨tt.map (killV r), d, delA (killL r l) r, gs⟩ g a w := Rel.drop (T2_kill r tt) (fun r1 ob1 hg => by
      rw [getA_delA] at hg
      split at hg
      · cases hg
      · exact hg) c8 hkl
    obtain ⟨y', w', g', e1, e2, e3, _⟩ := append_run (ty := ty) hkl hobk hdrop (r' := (d, N * 64)) rfl (by simpa using c9) (flatRows_nr c7) (flatRows_notOwn c7) k2 (tyElem_spec he) hi hz rfl c1 c2 hsl k1 k3 c10 c11
    refine ⟨y', w', g', e1, e2.put (some N) (v := .x (.one (.rs (d, N * 64) [] i.size 0 (R.length + X.length)))) ?_⟩
    refine ⟨R ++ X, ⟨⟨.sl, i.size, R ++ X⟩, ?_, rfl⟩, by simp, e3⟩
    show (if (d, N * 64) = (d, N * 64) then _ else _) = _
    rw [if_pos rfl]
  · split at hs
    case isFalse => cases hs
    rename_i hc
    obtain ⟨c1, c2, c3, c4, c5, c6, c6f, c7, c8, c9, c10, c11⟩ := hc
    cases hs
    subst c3 c4 c5
    rw [Option.bind_eq_some_iff] at hz
    obtain ⟨i, hi, hz⟩ := hz
    rw [hi] at hsz hby
    simp only [Option.map_some, Option.some.injEq] at hsz hby
    subst hsz hby
    obtain ⟨news, k1, k2, k3⟩ := srcRows_src h.heap hsr hx c7 c2
    obtain ⟨R', ⟨ob', q1, q2⟩, _, hsl⟩ := hv
    have hoo : ob' = ⟨.sl, i.size, R⟩ := by
      have q3 : getA (l ++ gs) r = some ob' := q1
      rw [getA_append, hob] at q3
      exact (Option.some.inj q3).symm
    subst hoo
    have hkl := Rel.kill r h
    have hobk : getA (killL r l) r = some ⟨.sl, i.size, R⟩ := by
      have hob2 : getA l r = some ⟨.sl, i.size, R⟩ := hob
      rw [getA_killL, hob2]; rfl
    have hdrop : Rel g0 w0 ⟨tt.map (killV r), d, delA (killL r l) r, gs⟩ g a w := Rel.drop (T2_kill r tt) (fun r1 ob1 hg => by
      rw [getA_delA] at hg
      split at hg
      · cases hg
      · exact hg) c8 hkl
    have hcut := Rel.cut hkl hobk c6f hdrop len
    have hobc : getA (setA (killL r l) r ⟨.sl, i.size, R.take len⟩) r = some ⟨.sl, i.size, R.take len⟩ := by rw [getA_setA, if_pos rfl, hobk]; rfl
    have hdc : delA (setA (killL r l) r ⟨.sl, i.size, R.take len⟩) r = delA (killL r l) r := delA_setA _ _ _
    have hlen : (R.take len).length = len := by rw [List.length_take]; omega
    have hdrop2 : Rel g0 w0 ⟨tt.map (killV r), d, delA (setA (killL r l) r ⟨.sl, i.size, R.take len⟩) r, gs⟩ g a w := by rw [hdc]; exact hdrop
    obtain ⟨y', w', g', e1, e2, e3, _⟩ := append_run (ty := ty) hcut hobc hdrop2 (r' := (d, N * 64)) rfl (by rw [hdc]; simpa using c9) (flatRows_nr c7) (flatRows_notOwn c7) k2 (tyElem_spec he) hi hz rfl c1 c2 (by rw [hlen]; exact hsl) k1 k3 (by rw [hlen]; exact c10) (by rw [hlen]; exact c11)
    rw [hdc] at e2
    rw [hlen] at e3
    refine ⟨y', w', g', e1, e2.put (some N) (v := .x (.one (.rs (d, N * 64) [] i.size 0 (len + X.length)))) ?_⟩
    refine ⟨R.take len ++ X, ⟨⟨.sl, i.size, R.take len ++ X⟩, ?_, rfl⟩, by simp only [List.length_append, hlen]; omega, e3⟩
    show (if (d, N * 64) = (d, N * 64) then _ else _) = _
    rw [if_pos rfl]
end
end Go.Rx
namespace Go.Rx
open Go.RowKit
theorem foldl_set : ∀ (cs : List Value) (off k : Nat) (A : Array Value), off + k + cs.length ≤ A.size →
    ((cs.zipIdx k).foldl (fun (B : Array Value) (x : Value × Nat) => B.setIfInBounds (off + x.2) x.1) A).size = A.size ∧
    ∀ q, ((cs.zipIdx k).foldl (fun (B : Array Value) (x : Value × Nat) => B.setIfInBounds (off + x.2) x.1) A).getD q undef = if off + k ≤ q ∧ q < off + k + cs.length then cs.getD (q - (off + k)) undef else A.getD q undef
  | [], off, k, A, _ => ⟨rfl, fun q => by
    rw [if_neg (by simp only [List.length_nil]; omega)]; rfl⟩
  | c :: cs, off, k, A, h => by
    simp only [List.length_cons] at h
    obtain ⟨h1, h2⟩ := foldl_set cs off (k + 1) (A.setIfInBounds (off + k) c) (by simp; omega)
    refine ⟨by rw [List.zipIdx_cons, List.foldl_cons, h1]; simp, fun q => ?_⟩
    rw [List.zipIdx_cons, List.foldl_cons, h2 q]
    simp only [List.length_cons]
    by_cases e : q = off + k
    · subst e
      rw [if_neg (by omega), if_pos (by omega), Nat.sub_self]
      have : off + k < A.size := by omega
      simp [Array.getD, this]
    · by_cases hq : off + (k + 1) ≤ q ∧ q < off + (k + 1) + cs.length
      · rw [if_pos hq, if_pos (by omega)]
        obtain ⟨m, hm⟩ : ∃ m, q - (off + k) = m + 1 := ⟨q - (off + k) - 1, by omega⟩
        rw [hm, show q - (off + (k + 1)) = m by omega]; rfl
      · rw [if_neg hq, if_neg (by omega)]
        have hg : ∀ (B : Array Value), B.getD q undef = (B[q]?).getD undef := fun B => by simp [Array.getD, Option.getD]; split <;> simp_all
        rw [hg, hg, Array.getElem?_setIfInBounds_ne (Ne.symm e)]
theorem fill_rows (sz : Nat) : ∀ (ps : List (Nat × Value)) (i : Nat) (A : Array Value), (∀ k, k < ps.length → ∃ v, ps[k]? = some (i + k, v) ∧ v.cells.size = sz) → (i + ps.length) * sz ≤ A.size →
    ∃ B, Instr.fill (fun i => some (i * sz, sz)) A ps = some B ∧ B.size = A.size ∧ (∀ q, q < i * sz → B.getD q undef = A.getD q undef) ∧
      ∀ k j v, ps[k]? = some (i + k, v) → j < sz → B.getD ((i + k) * sz + j) undef = v.cells.toList.getD j undef
  | [], i, A, _, _ => ⟨A, rfl, rfl, fun _ _ => rfl, fun k j v h => by simp at h⟩
  | (i0, v0) :: ps, i, A, h, hs => by
    obtain ⟨v, hv, hsz⟩ := h 0 (by simp)
    simp only [List.getElem?_cons_zero, Option.some.injEq, Prod.mk.injEq, Nat.add_zero] at hv
    obtain ⟨rfl, rfl⟩ := hv
    simp only [List.length_cons] at hs
    have e1 : (i0 + (ps.length + 1)) * sz = i0 * sz + (ps.length * sz + sz) := by rw [Nat.add_mul, Nat.add_mul, Nat.one_mul]
    have hl : v0.cells.toList.length = sz := by simpa using hsz
    obtain ⟨f1, f2⟩ := foldl_set v0.cells.toList (i0 * sz) 0 A (by rw [hl]; omega)
    have hstep : Instr.fill (fun i => some (i * sz, sz)) A ((i0, v0) :: ps) = Instr.fill (fun i => some (i * sz, sz)) ((v0.cells.toList.zipIdx 0).foldl (fun (B : Array Value) (x : Value × Nat) => B.setIfInBounds (i0 * sz + x.2) x.1) A) ps := by
      simp only [Instr.fill]
      rw [if_neg (by simp only [hsz, ne_eq, not_true_eq_false, decide_false, Bool.false_or, decide_eq_true_eq]; omega)]
      congr 1
      rw [← Array.foldl_toList, Array.toList_zipIdx]
    obtain ⟨B, b1, b2, b3, b4⟩ := fill_rows sz ps (i0 + 1) _ (fun k hk => by
      obtain ⟨v, h1, h2⟩ := h (k + 1) (by simpa using hk)
      exact ⟨v, by rw [List.getElem?_cons_succ] at h1; rw [h1]; congr 2; omega, h2⟩) (by rw [f1, Nat.add_mul, Nat.add_mul, Nat.one_mul]; omega)
    refine ⟨B, hstep.trans b1, b2.trans f1, fun q hq => ?_, fun k j v hk hj => ?_⟩
    · rw [b3 q (by rw [Nat.add_mul]; omega), f2, if_neg (by omega)]
    · cases k with
      | zero =>
        simp only [List.getElem?_cons_zero, Option.some.injEq, Prod.mk.injEq] at hk
        obtain ⟨_, rfl⟩ := hk
        rw [Nat.add_zero, b3 _ (by rw [Nat.add_mul, Nat.one_mul]; omega), f2, if_pos (by rw [hl]; omega)]
        congr 1; omega
      | succ k =>
        rw [List.getElem?_cons_succ] at hk
        rw [show i0 + (k + 1) = i0 + 1 + k by omega] at hk ⊢
        exact b4 k j v hk hj
end Go.Rx
namespace Go.Rx
open Go.RowKit
def fldsOk (P : Program) (t : TypeId) : Bool := match P.underlying t with
  | some (.struct fs) => fs.toList.all fun f => (P.info? f.type).isSome
  | _ => false
def buildCells (P : Program) (t : TypeId) : List C → List (Nat × V) → Option (List C)
  | cs, [] => some cs
  | cs, (f, .x x) :: ps => match tyFld P t f with
    | some (off, ft) => match tySz P ft, cellsX x with
      | some n, some ds => if ds.length = n ∧ off + n ≤ cs.length then buildCells P t (setRange cs off ds) ps else none
      | _, _ => none
    | none => none
  | _, (_, .tup _) :: _ => none
section
variable {P : Program} {w : World} {g : Gh} {o : Store}
theorem sizes_run (w : World) : ∀ fs : List Field, (fs.all fun f => (P.info? f.type).isSome) = true →
    (fs.mapM (fun (f : Field) => do pure (f.offset, ← sizeOf f.type))).run P w = .ok (fs.map fun f => (f.offset, ((P.info? f.type).map (·.size)).getD 0)) w
  | [], _ => rfl
  | f :: fs, h => by
    simp only [List.all_cons, Bool.and_eq_true] at h
    obtain ⟨i, hi⟩ := Option.isSome_iff_exists.1 h.1
    have hs : (sizeOf f.type).run P w = .ok i.size w := by simp [sizeOf, typeInfo, hi]
    rw [List.mapM_cons, Sem.run_bind, Sem.run_bind, hs, Result.andThen_ok, Sem.run_pure, Result.andThen_ok, Sem.run_bind, sizes_run w fs h.2, Result.andThen_ok, Sem.run_pure]
    simp [hi]
theorem buildCells_rel {t : TypeId} {place : Nat → Option (Nat × Nat)} (hp : ∀ f off ft n, tyFld P t f = some (off, ft) → tySz P ft = some n → place f = some (off, n)) :
    ∀ (ps : List (Nat × V)) (vs : List (Nat × Value)) (cs ds : List C) (A : Array Value), ps.length = vs.length →
      (∀ (k f : Nat) (v : V), ps[k]? = some (f, v) → ∃ y, vs[k]? = some (f, y) ∧ VR w o g v y) → buildCells P t cs ps = some ds → A.size = cs.length → (∀ j, j < cs.length → CR w o g none (cs.getD j .bad) (A.getD j undef)) →
      ∃ B, Instr.fill place A vs = some B ∧ B.size = ds.length ∧ ∀ j, j < ds.length → CR w o g none (ds.getD j .bad) (B.getD j undef)
  | [], [], cs, ds, A, _, _, h, hs, hc => by
    simp only [buildCells, Option.some.injEq] at h
    subst h
    exact ⟨A, rfl, hs, hc⟩
  | [], _ :: _, _, _, _, hl, _, _, _, _ => by simp at hl
  | _ :: _, [], _, _, _, hl, _, _, _, _ => by simp at hl
  | (f, v) :: ps, (f', y) :: vs, cs, ds, A, hl, hv, h, hs, hc => by
    obtain ⟨y', e1, e2⟩ := hv 0 f v rfl
    simp only [List.getElem?_cons_zero, Option.some.injEq, Prod.mk.injEq] at e1
    obtain ⟨rfl, rfl⟩ := e1
    cases v with
    | tup _ => simp [buildCells] at h
    | x x =>
      simp only [buildCells] at h
      split at h
      case h_2 => cases h
      rename_i off ft hf
      split at h
      case h_2 => cases h
      rename_i n es hn hes
      split at h
      case isFalse => cases h
      rename_i hle
      obtain ⟨c1, c2, c3⟩ := cellsX_rel hes e2
      have hys : y.cells.size = n := by rw [← hle.1, ← c1]; simp
      have hyl : y.cells.toList.length = n := by simpa using hys
      obtain ⟨f1, f2⟩ := foldl_set y.cells.toList off 0 A (by rw [hyl, hs]; omega)
      have hstep : Instr.fill place A ((f', y) :: vs) = Instr.fill place ((y.cells.toList.zipIdx 0).foldl (fun (B : Array Value) (x : Value × Nat) => B.setIfInBounds (off + x.2) x.1) A) vs := by
        simp only [Instr.fill, hp f' off ft n hf hn]
        rw [if_neg (by simp only [hys, ne_eq, not_true_eq_false, decide_false, Bool.false_or, decide_eq_true_eq]; omega)]
        congr 1
        rw [← Array.foldl_toList, Array.toList_zipIdx]
      have hsl : (setRange cs off es).length = cs.length := setRange_length (by omega)
      obtain ⟨B, b1, b2, b3⟩ := buildCells_rel hp ps vs (setRange cs off es) ds _ (by simpa using hl) (fun k f v hk => hv (k + 1) f v (by simpa using hk)) h (by rw [f1, hsl, hs]) (fun j hj => by
        rw [setRange_get (by omega), f2]
        rw [hsl] at hj
        by_cases hq : off ≤ j ∧ j < off + es.length
        · rw [if_pos hq, if_pos (by rw [hyl]; omega)]
          exact c2 (j - off) (by omega)
        · rw [if_neg hq, if_neg (by rw [hyl]; omega)]
          exact hc j hj)
      exact ⟨B, hstep.trans b1, b2, b3⟩
end
end Go.Rx
namespace Go.Rx
open Go.RowKit
section
variable {g0 gh : Gh} {w0 w : World} {a : Act} {t t' : List V} {d : Nat} {l gs : Store}
def gh2 (gh : Gh) (r r' : Root) (row j : Nat) : Gh := { G := fun r0 q => if r0 = r then (match q with | [] => gh.G r [] | (i1, j1) :: q1 => if i1 = row ∧ j1 = j then gh.G r' q1 else gh.G r ((i1, j1) :: q1)) else gh.G r0 q, S := gh.S }
def setCell (R : List (List C)) (row j : Nat) (c : C) : List (List C) := R.set row ((R.getD row []).set j c)
theorem setCell_length (R : List (List C)) (row j : Nat) (c : C) : (setCell R row j c).length = R.length := by simp [setCell]
theorem setCell_row (R : List (List C)) (row j : Nat) (c : C) (i : Nat) : ((setCell R row j c).getD i []).length = (R.getD i []).length := by
  unfold setCell
  rw [List.getD_eq_getElem?_getD, List.getElem?_set]
  by_cases h : row = i
  · subst h
    by_cases h2 : row < R.length
    · simp [h2, List.getD_eq_getElem?_getD]
    · simp [h2, List.getD_eq_getElem?_getD]
  · rw [if_neg h, ← List.getD_eq_getElem?_getD]
theorem setCell_cell (R : List (List C)) {row j : Nat} (c : C) (hr : row < R.length) (hj : j < (R.getD row []).length) (i1 j1 : Nat) : cellAt (setCell R row j c) i1 j1 = if i1 = row ∧ j1 = j then c else cellAt R i1 j1 := by
  unfold cellAt setCell
  by_cases h : i1 = row
  · subst h
    have e : (R.set i1 ((R.getD i1 []).set j c)).getD i1 [] = (R.getD i1 []).set j c := by rw [List.getD_eq_getElem?_getD, List.getElem?_set_self hr]; rfl
    rw [e]
    by_cases h2 : j1 = j
    · subst h2
      rw [if_pos ⟨rfl, rfl⟩, List.getD_eq_getElem?_getD, List.getElem?_set_self hj]; rfl
    · rw [if_neg (fun h => h2 h.2), List.getD_eq_getElem?_getD, List.getElem?_set_ne (Ne.symm h2), ← List.getD_eq_getElem?_getD]
  · rw [if_neg (fun h' => h h'.1)]
    have e : (R.set row ((R.getD row []).set j c)).getD i1 [] = R.getD i1 [] := by rw [List.getD_eq_getElem?_getD, List.getElem?_set_ne (Ne.symm h), ← List.getD_eq_getElem?_getD]
    rw [e]
theorem rowsAt_cons {sz m : Nat} {R K : List (List C)} {i j : Nat} {q : Path} : rowsAt sz R ((i, j) :: q) = some (m, K) ↔ ∃ s Q, cellAt R i j = .own s Q ∧ i < R.length ∧ j < (R.getD i []).length ∧ rowsAt s Q q = some (m, K) := by
  simp only [rowsAt]
  constructor
  · intro h
    split at h
    · rename_i s Q hc
      obtain ⟨h1, h2, h3⟩ := bind_cell hc
      exact ⟨s, Q, h3, h1, h2, h⟩
    · cases h
  · rintro ⟨s, Q, h1, h2, h3, h4⟩
    have hc : (R[i]?).bind (·[j]?) = some (.own s Q) := by
      rw [List.getElem?_eq_getElem h2, Option.bind_some]
      unfold cellAt at h1
      rw [List.getD_eq_getElem?_getD (l := R), List.getElem?_eq_getElem h2] at h1 h3
      simp only [Option.getD_some] at h1 h3
      rw [List.getD_eq_getElem?_getD, List.getElem?_eq_getElem h3] at h1
      rw [List.getElem?_eq_getElem h3]
      simpa using h1
    rw [hc]; exact h4
theorem SlAt.ren' {w : World} {g g' : Gh} {r r0 : Root} {p p0 : Path} {sz off len : Nat} {y : Value} (hG : g'.G r p = g.G r0 p0) (h : SlAt g w r0 p0 sz off len y) : SlAt g' w r p sz off len y := by
  unfold SlAt at *
  rw [hG]; exact h
theorem Rel.adoptCell {r r' : Root} {m s row j : Nat} {R R' : List (List C)} (h : Rel g0 w0 ⟨t, d, l, gs⟩ gh a w) (hob : getA l r = some ⟨.sl, m, R⟩) (hob' : getA l r' = some ⟨.sl, s, R'⟩) (hne : r ≠ r')
    (h2 : Rel g0 w0 ⟨t', d, delA l r', gs⟩ gh a w) (hrow : row < R.length) (hj : j < m) (hrl : (R.getD row []).length = m) (hbad : cellAt R row j = .bad)
    (hmem : ∀ b cells e f, gh.G r [] = some b → w.heap[b]? = some (.cells cells e f) → SlAt gh w r' [] s 0 R'.length (cells.getD (row * m + j) undef)) :
    Rel g0 w0 ⟨t', d, setA (delA l r') r ⟨.sl, m, setCell R row j (.own s R')⟩, gs⟩ (gh2 gh r r' row j) a w := by
  have hjr : j < (R.getD row []).length := by rw [hrl]; exact hj
  have cellN := setCell_cell R (.own s R') hrow hjr
  have hd1 : getA (delA l r') r = some ⟨.sl, m, R⟩ := by rw [getA_delA, if_neg (Ne.symm hne)]; exact hob
  have hgr' : getA gs r' = none := by
    cases hg : getA gs r' with
    | none => rfl
    | some ob => have h3 := h.out r' ob hg; have h4 := h.loc r' _ hob'; simp only at h3 h4; omega
  have hgr : getA gs r = none := by
    cases hg : getA gs r with
    | none => rfl
    | some ob => have h3 := h.out r ob hg; have h4 := h.loc r _ hob; simp only at h3 h4; omega
  have get3 : ∀ r0, getA (setA (delA l r') r ⟨.sl, m, setCell R row j (.own s R')⟩ ++ gs) r0 = if r = r0 then some ⟨.sl, m, setCell R row j (.own s R')⟩ else getA (delA l r' ++ gs) r0 := fun r0 => by
    rw [getA_append, getA_setA, getA_append]
    by_cases e : r = r0
    · subst e; rw [if_pos rfl, if_pos rfl, hd1]; rfl
    · rw [if_neg e, if_neg e]
  have get2 : ∀ r0, getA (delA l r' ++ gs) r0 = if r' = r0 then none else getA (l ++ gs) r0 := fun r0 => by
    rw [getA_append, getA_delA, getA_append]
    by_cases e : r' = r0
    · subst e; rw [if_pos rfl, if_pos rfl]; exact hgr'
    · rw [if_neg e, if_neg e]
  have o2r : getA (delA l r' ++ gs) r = some ⟨.sl, m, R⟩ := by rw [getA_append, hd1]
  have lr : Live (l ++ gs) r [] m R := ⟨_, by rw [getA_append, hob], rfl⟩
  have sub : ∀ r0 q m' K, Live (delA l r' ++ gs) r0 q m' K → r0 ≠ r' ∧ Live (l ++ gs) r0 q m' K := fun r0 q m' K ⟨ob, k1, k2⟩ => by
    rw [get2] at k1
    split at k1
    · cases k1
    · rename_i e; exact ⟨Ne.symm e, ob, k1, k2⟩
  -- what lives in the new store
  have split3 : ∀ r0 q m' K, Live (setA (delA l r') r ⟨.sl, m, setCell R row j (.own s R')⟩ ++ gs) r0 q m' K →
      (r0 = r ∧ q = [] ∧ m' = m ∧ K = setCell R row j (.own s R')) ∨ (∃ q1, r0 = r ∧ q = (row, j) :: q1 ∧ Live (l ++ gs) r' q1 m' K) ∨ ((r0 ≠ r ∨ (q ≠ [] ∧ ∀ q1, q ≠ (row, j) :: q1)) ∧ Live (delA l r' ++ gs) r0 q m' K) := fun r0 q m' K ⟨ob, k1, k2⟩ => by
    rw [get3] at k1
    by_cases e : r = r0
    · subst e
      rw [if_pos rfl] at k1
      cases k1
      cases q with
      | nil =>
        simp only [rowsAt, Option.some.injEq, Prod.mk.injEq] at k2
        exact .inl ⟨rfl, rfl, k2.1.symm, k2.2.symm⟩
      | cons ij q1 =>
        obtain ⟨i1, j1⟩ := ij
        obtain ⟨s1, Q1, c1, c2, c3, c4⟩ := rowsAt_cons.1 k2
        rw [cellN] at c1
        split at c1
        · rename_i e2
          cases c1
          obtain ⟨rfl, rfl⟩ := e2
          exact .inr (.inl ⟨q1, rfl, rfl, ⟨_, by rw [getA_append, hob'], c4⟩⟩)
        · rename_i e2
          refine .inr (.inr ⟨.inr ⟨by simp, fun q2 h3 => by cases h3; exact e2 ⟨rfl, rfl⟩⟩, ⟨_, o2r, rowsAt_cons.2 ⟨s1, Q1, c1, by rw [setCell_length] at c2; exact c2, by rw [setCell_row] at c3; exact c3, c4⟩⟩⟩)
    · rw [if_neg e] at k1
      exact .inr (.inr ⟨.inl (Ne.symm e), ob, k1, k2⟩)
  have gOld : ∀ r0 q, (r0 ≠ r ∨ q = [] ∨ (q ≠ [] ∧ ∀ q1, q ≠ (row, j) :: q1)) → (gh2 gh r r' row j).G r0 q = gh.G r0 q := fun r0 q hq => by
    simp only [gh2]
    by_cases e : r0 = r
    · rw [if_pos e, e]
      rcases hq with hq | rfl | ⟨_, hq⟩
      · exact absurd e hq
      · rfl
      · cases q with
        | nil => rfl
        | cons ij q1 =>
          obtain ⟨i1, j1⟩ := ij
          by_cases e2 : i1 = row ∧ j1 = j
          · obtain ⟨rfl, rfl⟩ := e2; exact absurd rfl (hq q1)
          · exact if_neg e2
    · rw [if_neg e]
  have gNew : ∀ q1, (gh2 gh r r' row j).G r ((row, j) :: q1) = gh.G r' q1 := fun q1 => by simp [gh2]
  have notNew : ∀ r0 q m' K, Live (delA l r' ++ gs) r0 q m' K → r0 ≠ r ∨ q = [] ∨ (q ≠ [] ∧ ∀ q1, q ≠ (row, j) :: q1) := fun r0 q m' K ⟨ob, k1, k2⟩ => by
    by_cases e : r0 = r
    · subst e
      rw [o2r] at k1
      cases k1
      cases q with
      | nil => exact .inr (.inl rfl)
      | cons ij q1 =>
        obtain ⟨i1, j1⟩ := ij
        obtain ⟨s1, Q1, c1, _⟩ := rowsAt_cons.1 k2
        refine .inr (.inr ⟨by simp, fun q2 h3 => ?_⟩)
        cases h3
        rw [hbad] at c1; cases c1
    · exact .inl e
  have fwd : ∀ r0 q m' K, Live (delA l r' ++ gs) r0 q m' K → ∃ K', Live (setA (delA l r') r ⟨.sl, m, setCell R row j (.own s R')⟩ ++ gs) r0 q m' K' ∧ K.length ≤ K'.length := fun r0 q m' K hK => by
    have hn := notNew r0 q m' K hK
    obtain ⟨ob, k1, k2⟩ := hK
    by_cases e : r = r0
    · subst e
      rw [o2r] at k1
      cases k1
      cases q with
      | nil =>
        simp only [rowsAt, Option.some.injEq, Prod.mk.injEq] at k2
        obtain ⟨rfl, rfl⟩ := k2
        exact ⟨_, ⟨_, by rw [get3, if_pos rfl], rfl⟩, by rw [setCell_length]; exact Nat.le_refl _⟩
      | cons ij q1 =>
        obtain ⟨i1, j1⟩ := ij
        obtain ⟨s1, Q1, c1, c2, c3, c4⟩ := rowsAt_cons.1 k2
        refine ⟨K, ⟨_, by rw [get3, if_pos rfl], rowsAt_cons.2 ⟨s1, Q1, ?_, by rw [setCell_length]; exact c2, by rw [setCell_row]; exact c3, c4⟩⟩, Nat.le_refl _⟩
        rw [cellN, if_neg (fun e2 => by obtain ⟨rfl, rfl⟩ := e2; rw [hbad] at c1; cases c1)]
        exact c1
    · exact ⟨K, ⟨ob, by rw [get3, if_neg e]; exact k1, k2⟩, Nat.le_refl _⟩
  have hgoes : Goes w (delA l r' ++ gs) gh w (setA (delA l r') r ⟨.sl, m, setCell R row j (.own s R')⟩ ++ gs) (gh2 gh r r' row j) :=
    ⟨fun k hk => ⟨hk, rfl⟩, fun r0 q m' K hK => ⟨fwd r0 q m' K hK, gOld r0 q (notNew r0 q m' K hK), fun b cs e f _ hb => ⟨cs, hb, rfl⟩⟩⟩
  have hRn : nrRR R = true := h.obj r ⟨.sl, m, R⟩ (by show getA (l ++ gs) r = _; rw [getA_append, hob])
  have hRn' : nrRR R' = true := h.obj r' ⟨.sl, s, R'⟩ (by show getA (l ++ gs) r' = _; rw [getA_append, hob'])
  -- where a place was
  have was : ∀ r0 q m' K b, Live (setA (delA l r') r ⟨.sl, m, setCell R row j (.own s R')⟩ ++ gs) r0 q m' K → (gh2 gh r r' row j).G r0 q = some b →
      ∃ r1 q1 m1 K1, Live (l ++ gs) r1 q1 m1 K1 ∧ gh.G r1 q1 = some b ∧ ((r1 = r' ∧ r0 = r ∧ q = (row, j) :: q1) ∨ (r1 ≠ r' ∧ r1 = r0 ∧ q1 = q)) := fun r0 q m' K b hl hg => by
    rcases split3 r0 q m' K hl with ⟨rfl, rfl, rfl, rfl⟩ | ⟨q1, rfl, rfl, hl'⟩ | ⟨hn, hl'⟩
    · exact ⟨r0, [], m', R, lr, by rw [gOld r0 [] (.inr (.inl rfl))] at hg; exact hg, .inr ⟨hne, rfl, rfl⟩⟩
    · exact ⟨r', q1, m', K, hl', by rw [gNew] at hg; exact hg, .inl ⟨rfl, rfl, rfl⟩⟩
    · obtain ⟨n1, n2⟩ := sub _ _ _ _ hl'
      refine ⟨r0, q, m', K, n2, ?_, .inr ⟨n1, rfl, rfl⟩⟩
      rw [gOld r0 q (hn.imp id .inr)] at hg; exact hg
  refine ⟨h2.defers, h2.size, fun i hi => VR.goes hgoes (h2.tmps i hi), ⟨fun r0 q m' K b hl hg => ?_, fun r0 q ob m' K k1 k2 k3 => ?_, fun r0 q m' K r1 q1 m1 K1 b l1 l2 b1 b2 => ?_, h2.heap.S⟩, ⟨h2.keep.os, h2.keep.tape, h2.keep.output, h2.keep.size, h2.keep.S, h2.keep.block⟩, fun r0 ob hr => ?_, h2.out, fun r0 ob hr => ?_, h.maps.mono (fun r0 ob k1 k2 => ?_) (fun b arr cl k1 k2 => ⟨k1, k2⟩) (.ext (fun _ _ _ => rfl) (fun _ _ hs => hs) fun r0 q m' K k hl hG _ => (by
    obtain ⟨r1, q1, m1, K1, h1, h2, _⟩ := was r0 q m' K k hl hG
    exact ⟨_, _, _, _, h1, h2⟩)), h2.pin.goes hgoes fun _ ob h => ⟨ob, h⟩⟩
  · rcases split3 r0 q m' K hl with ⟨rfl, rfl, rfl, rfl⟩ | ⟨q1, rfl, rfl, hl'⟩ | ⟨hn, hl'⟩
    · rw [gOld r0 [] (.inr (.inl rfl))] at hg
      have lr2 : Live (delA l r' ++ gs) r0 [] m' R := ⟨_, o2r, rfl⟩
      obtain ⟨k1, k2, cells, e, f, k3, k4, k5, k6⟩ := h2.heap.rows r0 [] m' R b lr2 hg
      refine ⟨k1, fun i hi => by rw [setCell_row]; exact k2 i (by rw [setCell_length] at hi; exact hi), cells, e, f, k3, k4, by rw [setCell_length]; exact k5, fun i1 j1 hi hj1 => ?_⟩
      rw [setCell_length] at hi
      rw [cellN]
      split
      · rename_i e2
        obtain ⟨rfl, rfl⟩ := e2
        exact SlAt.ren' (gNew []) (hmem b cells e f hg k3)
      · exact CR.goesAt hgoes lr2 hi (by rw [k2 i1 hi]; exact hj1) (k6 i1 j1 hi hj1)
    · rw [gNew] at hg
      obtain ⟨k1, k2, cells, e, f, k3, k4, k5, k6⟩ := h.heap.rows r' q1 m' K b hl' hg
      refine ⟨k1, k2, cells, e, f, k3, k4, k5, fun i1 j1 hi hj1 => ?_⟩
      have hc := k6 i1 j1 hi hj1
      have hn : nr (cellAt K i1 j1) = true := by
        obtain ⟨ob, m1, m2⟩ := hl'
        have : ob = ⟨.sl, s, R'⟩ := by
          have m1' : getA (l ++ gs) r' = some ob := m1
          rw [getA_append, hob'] at m1'
          exact (Option.some.inj m1').symm
        subst this
        exact nrRR_get (nrRR_rowsAt hRn' m2) i1 j1
      cases hcell : cellAt K i1 j1 with
      | v x => rw [hcell] at hc; exact hc
      | sh s1 Q1 => rw [hcell] at hc; exact hc
      | ps cs => rw [hcell] at hc; exact hc
      | bad => trivial
      | rs _ _ _ _ _ => rw [hcell] at hn; simp [nr] at hn
      | pt _ _ _ _ _ => rw [hcell] at hn; simp [nr] at hn
      | own s1 Q1 =>
        rw [hcell] at hc
        exact SlAt.ren' (gNew (q1 ++ [(i1, j1)])) hc
    · rw [gOld r0 q (hn.imp id .inr)] at hg
      obtain ⟨k1, k2, cells, e, f, k3, k4, k5, k6⟩ := h2.heap.rows r0 q m' K b hl' hg
      exact ⟨k1, k2, cells, e, f, k3, k4, k5, fun i1 j1 hi hj1 => CR.goesAt hgoes hl' hi (by rw [k2 i1 hi]; exact hj1) (k6 i1 j1 hi hj1)⟩
  · rcases split3 r0 q m' K ⟨ob, k1, k2⟩ with ⟨rfl, rfl, rfl, rfl⟩ | ⟨q1, rfl, rfl, hl'⟩ | ⟨hn, hl'⟩
    · rw [gOld r0 [] (.inr (.inl rfl))] at k3
      rcases h2.heap.none r0 [] _ m' R o2r rfl k3 with e | ⟨e, _⟩
      · rw [e] at hrow; simp at hrow
      · cases e
    · rw [gNew] at k3
      obtain ⟨ob', m1, m2⟩ := hl'
      rcases h.heap.none r' q1 ob' m' K m1 m2 k3 with e | ⟨e, _⟩
      · exact .inl e
      · have := h.obj r' ob' m1; simp [okObj, e] at this
    · rw [gOld r0 q (hn.imp id .inr)] at k3
      obtain ⟨ob', m1, m2⟩ := hl'
      rcases h2.heap.none r0 q ob' m' K m1 m2 k3 with e | ⟨e, _⟩
      · exact .inl e
      · have := h2.obj r0 ob' m1; simp [okObj, e] at this
  · obtain ⟨ra, qa, ma, Ka, a1, a2, a3⟩ := was _ _ _ _ _ l1 b1
    obtain ⟨rb, qb, mb, Kb, c1, c2, c3⟩ := was _ _ _ _ _ l2 b2
    obtain ⟨e1, e2⟩ := h.heap.inj _ _ _ _ _ _ _ _ b a1 c1 a2 c2
    rcases a3 with ⟨x1, x2, x3⟩ | ⟨x1, x2, x3⟩ <;> rcases c3 with ⟨y1, y2, y3⟩ | ⟨y1, y2, y3⟩
    · exact ⟨x2.trans y2.symm, by rw [x3, y3, e2]⟩
    · exact absurd (e1.symm.trans x1) y1
    · exact absurd (e1.trans y1) x1
    · exact ⟨x2.symm.trans (e1.trans y2), x3.symm.trans (e2.trans y3)⟩
  · have hr' : getA (setA (delA l r') r ⟨.sl, m, setCell R row j (.own s R')⟩) r0 = some ob := hr
    rw [getA_setA] at hr'
    split at hr'
    · rename_i e
      rw [← e]; exact h2.loc r _ hd1
    · exact h2.loc r0 ob hr'
  · have hr' : getA (setA (delA l r') r ⟨.sl, m, setCell R row j (.own s R')⟩ ++ gs) r0 = some ob := hr
    rw [get3] at hr'
    split at hr'
    · cases hr'
      show nrRR (setCell R row j (.own s R')) = true
      rw [nrRR_all, List.all_eq_true] at hRn ⊢
      intro row' hrow'
      rcases List.mem_or_eq_of_mem_set hrow' with hm | rfl
      · exact hRn row' hm
      · have h5 : nrR (R.getD row []) = true := hRn _ (by rw [List.getD_eq_getElem?_getD, List.getElem?_eq_getElem hrow]; exact List.getElem_mem hrow)
        have nrAll : ∀ cs : List C, nrR cs = cs.all nr := fun cs => by induction cs <;> simp_all [nrR]
        rw [nrAll, List.all_eq_true] at h5 ⊢
        intro c hc
        rcases List.mem_or_eq_of_mem_set hc with hm | rfl
        · exact h5 c hm
        · simpa [nr] using hRn'
    · exact h2.obj r0 ob hr'
  · have k1' : getA (setA (delA l r') r ⟨.sl, m, setCell R row j (.own s R')⟩ ++ gs) r0 = some ob := k1
    rw [get3] at k1'
    split at k1'
    · cases k1'; cases k2
    · rw [get2] at k1'
      split at k1'
      · cases k1'
      · exact ⟨ob, k1', rfl⟩
end
end Go.Rx
namespace Go.Rx
open Go.RowKit
def blankO : C → C
  | .own _ _ => .bad
  | .v x => .v x
  | .sh s R => .sh s R
  | .rs r p s o l => .rs r p s o l
  | .pt r p s i j => .pt r p s i j
  | .ps cs => .ps cs
  | .bad => .bad
def blankRR (X : List (List C)) : List (List C) := X.map fun row => row.map blankO
def ownOk : C → Bool
  | .own _ _ => true
  | c => cellOk c && nr c
def ownRows (X : List (List C)) : Bool := X.all fun row => row.all ownOk
theorem blankRR_length (X : List (List C)) : (blankRR X).length = X.length := by simp [blankRR]
theorem blankRR_row (X : List (List C)) (i : Nat) : ((blankRR X).getD i []).length = (X.getD i []).length := by
  unfold blankRR
  rw [List.getD_eq_getElem?_getD, List.getElem?_map, List.getD_eq_getElem?_getD]
  cases X[i]? <;> simp
theorem blankRR_cell (X : List (List C)) (i j : Nat) : cellAt (blankRR X) i j = blankO (cellAt X i j) := by
  unfold cellAt blankRR
  rw [List.getD_eq_getElem?_getD (l := List.map _ X), List.getElem?_map, List.getD_eq_getElem?_getD (l := X)]
  cases X[i]? with
  | none => rfl
  | some row =>
    simp only [Option.map_some, Option.getD_some]
    rw [List.getD_eq_getElem?_getD, List.getElem?_map, List.getD_eq_getElem?_getD]
    cases row[j]? <;> rfl
theorem blankO_own {c : C} {s : Nat} {Q : List (List C)} : blankO c ≠ .own s Q := by cases c <;> simp [blankO]
theorem blankRR_notOwn (X : List (List C)) : ∀ i j s Q, cellAt (blankRR X) i j ≠ .own s Q := fun i j s Q => by rw [blankRR_cell]; exact blankO_own
theorem blankRR_nr {X : List (List C)} (h : nrRR X = true) : nrRR (blankRR X) = true := by
  have nrAll : ∀ cs : List C, nrR cs = cs.all nr := fun cs => by induction cs <;> simp_all [nrR]
  rw [nrRR_all, List.all_eq_true] at h ⊢
  intro row hr
  obtain ⟨r0, h0, rfl⟩ := List.mem_map.1 hr
  have h1 := h r0 h0
  rw [nrAll, List.all_eq_true] at h1 ⊢
  intro c hc
  obtain ⟨c0, h2, rfl⟩ := List.mem_map.1 hc
  have := h1 c0 h2
  cases c0 <;> first | rfl | exact this
theorem app_cell_l {R X : List (List C)} {i : Nat} (j : Nat) (h : i < R.length) : cellAt (R ++ X) i j = cellAt R i j := by
  unfold cellAt; rw [List.getD_eq_getElem?_getD (l := R ++ X), List.getElem?_append_left h, ← List.getD_eq_getElem?_getD]
theorem app_cell_r {R X : List (List C)} {i : Nat} (j : Nat) (h : R.length ≤ i) : cellAt (R ++ X) i j = cellAt X (i - R.length) j := by
  unfold cellAt; rw [List.getD_eq_getElem?_getD (l := R ++ X), List.getElem?_append_right h, ← List.getD_eq_getElem?_getD]
theorem app_row_l {R X : List (List C)} {i : Nat} (h : i < R.length) : (R ++ X).getD i [] = R.getD i [] := by
  rw [List.getD_eq_getElem?_getD, List.getElem?_append_left h, ← List.getD_eq_getElem?_getD]
theorem app_row_r {R X : List (List C)} {i : Nat} (h : R.length ≤ i) : (R ++ X).getD i [] = X.getD (i - R.length) [] := by
  rw [List.getD_eq_getElem?_getD, List.getElem?_append_right h, ← List.getD_eq_getElem?_getD]
section
variable {g0 gh : Gh} {w0 w : World} {a : Act} {t t' : List V} {d : Nat} {l gs : Store}
def gh3 (gh : Gh) (r r' : Root) (n : Nat) : Gh := { G := fun r0 q => if r0 = r then (match q with | [] => gh.G r [] | (i1, j1) :: q1 => if n ≤ i1 then gh.G r' ((i1 - n, j1) :: q1) else gh.G r ((i1, j1) :: q1)) else gh.G r0 q, S := gh.S }
def hi (n : Nat) : Path → Prop
  | [] => False
  | (i, _) :: _ => n ≤ i
theorem Rel.adoptRows {r r' : Root} {m : Nat} {R X : List (List C)} (h : Rel g0 w0 ⟨t, d, l, gs⟩ gh a w) (hob : getA l r = some ⟨.sl, m, R ++ blankRR X⟩) (hob' : getA l r' = some ⟨.sl, m, X⟩) (hne : r ≠ r')
    (h2 : Rel g0 w0 ⟨t', d, delA l r', gs⟩ gh a w)
    (hmem : ∀ b cells e f, gh.G r [] = some b → w.heap[b]? = some (.cells cells e f) → ∀ i j s Q, i < X.length → j < m → cellAt X i j = .own s Q → SlAt gh w r' [(i, j)] s 0 Q.length (cells.getD ((R.length + i) * m + j) undef)) :
    Rel g0 w0 ⟨t', d, setA (delA l r') r ⟨.sl, m, R ++ X⟩, gs⟩ (gh3 gh r r' R.length) a w := by
  have hd1 : getA (delA l r') r = some ⟨.sl, m, R ++ blankRR X⟩ := by rw [getA_delA, if_neg (Ne.symm hne)]; exact hob
  have hgr' : getA gs r' = none := by
    cases hg : getA gs r' with
    | none => rfl
    | some ob => have h3 := h.out r' ob hg; have h4 := h.loc r' _ hob'; simp only at h3 h4; omega
  have hlen : (R ++ blankRR X).length = (R ++ X).length := by simp [blankRR]
  have get3 : ∀ r0, getA (setA (delA l r') r ⟨.sl, m, R ++ X⟩ ++ gs) r0 = if r = r0 then some ⟨.sl, m, R ++ X⟩ else getA (delA l r' ++ gs) r0 := fun r0 => by
    rw [getA_append, getA_setA, getA_append]
    by_cases e : r = r0
    · subst e; rw [if_pos rfl, if_pos rfl, hd1]; rfl
    · rw [if_neg e, if_neg e]
  have get2 : ∀ r0, getA (delA l r' ++ gs) r0 = if r' = r0 then none else getA (l ++ gs) r0 := fun r0 => by
    rw [getA_append, getA_delA, getA_append]
    by_cases e : r' = r0
    · subst e; rw [if_pos rfl, if_pos rfl]; exact hgr'
    · rw [if_neg e, if_neg e]
  have o2r : getA (delA l r' ++ gs) r = some ⟨.sl, m, R ++ blankRR X⟩ := by rw [getA_append, hd1]
  have lr : Live (l ++ gs) r [] m (R ++ blankRR X) := ⟨_, by rw [getA_append, hob], rfl⟩
  have lr' : Live (l ++ gs) r' [] m X := ⟨_, by rw [getA_append, hob'], rfl⟩
  have sub : ∀ r0 q m' K, Live (delA l r' ++ gs) r0 q m' K → r0 ≠ r' ∧ Live (l ++ gs) r0 q m' K := fun r0 q m' K ⟨ob, k1, k2⟩ => by
    rw [get2] at k1
    split at k1
    · cases k1
    · rename_i e; exact ⟨Ne.symm e, ob, k1, k2⟩
  -- a low path is one of the first rows
  have lowCons : ∀ {i1 j1 : Nat} {q1 : Path} {s1 : Nat} {K : List (List C)}, i1 < R.length → (rowsAt m (R ++ X) ((i1, j1) :: q1) = some (s1, K) ↔ rowsAt m (R ++ blankRR X) ((i1, j1) :: q1) = some (s1, K)) := fun {i1 j1 q1 s1 K} hi => by
    rw [rowsAt_cons, rowsAt_cons]
    simp only [app_cell_l _ hi, app_row_l hi, hlen]
  have split3 : ∀ r0 q m' K, Live (setA (delA l r') r ⟨.sl, m, R ++ X⟩ ++ gs) r0 q m' K →
      (r0 = r ∧ q = [] ∧ m' = m ∧ K = R ++ X) ∨ (∃ i j q1, r0 = r ∧ q = (i, j) :: q1 ∧ R.length ≤ i ∧ Live (l ++ gs) r' ((i - R.length, j) :: q1) m' K) ∨ ((r0 ≠ r ∨ (q ≠ [] ∧ ¬ hi R.length q)) ∧ Live (delA l r' ++ gs) r0 q m' K) := fun r0 q m' K ⟨ob, k1, k2⟩ => by
    rw [get3] at k1
    by_cases e : r = r0
    · subst e
      rw [if_pos rfl] at k1
      cases k1
      cases q with
      | nil =>
        simp only [rowsAt, Option.some.injEq, Prod.mk.injEq] at k2
        exact .inl ⟨rfl, rfl, k2.1.symm, k2.2.symm⟩
      | cons ij q1 =>
        obtain ⟨i1, j1⟩ := ij
        by_cases hi1 : R.length ≤ i1
        · obtain ⟨s1, Q1, c1, c2, c3, c4⟩ := rowsAt_cons.1 k2
          rw [app_cell_r _ hi1] at c1
          rw [app_row_r hi1] at c3
          have c2' : i1 < (R ++ X).length := c2
          rw [List.length_append] at c2'
          have c5 : i1 - R.length < X.length := by omega
          exact .inr (.inl ⟨i1, j1, q1, rfl, rfl, hi1, ⟨_, by rw [getA_append, hob'], rowsAt_cons.2 ⟨s1, Q1, c1, c5, c3, c4⟩⟩⟩)
        · exact .inr (.inr ⟨.inr ⟨by simp, hi1⟩, ⟨_, o2r, (lowCons (by omega)).1 k2⟩⟩)
    · rw [if_neg e] at k1
      exact .inr (.inr ⟨.inl (Ne.symm e), ob, k1, k2⟩)
  have gOld : ∀ r0 q, (r0 ≠ r ∨ ¬ hi R.length q) → (gh3 gh r r' R.length).G r0 q = gh.G r0 q := fun r0 q hq => by
    simp only [gh3]
    by_cases e : r0 = r
    · rw [if_pos e, e]
      rcases hq with hq | hq
      · exact absurd e hq
      · cases q with
        | nil => rfl
        | cons ij q1 =>
          obtain ⟨i1, j1⟩ := ij
          exact if_neg hq
    · rw [if_neg e]
  have gNew : ∀ i j q1, R.length ≤ i → (gh3 gh r r' R.length).G r ((i, j) :: q1) = gh.G r' ((i - R.length, j) :: q1) := fun i j q1 hi => by simp [gh3, hi]
  have notNew : ∀ r0 q m' K, Live (delA l r' ++ gs) r0 q m' K → r0 ≠ r ∨ ¬ hi R.length q := fun r0 q m' K ⟨ob, k1, k2⟩ => by
    by_cases e : r0 = r
    · subst e
      rw [o2r] at k1
      cases k1
      cases q with
      | nil => exact .inr id
      | cons ij q1 =>
        obtain ⟨i1, j1⟩ := ij
        refine .inr fun hi1 => ?_
        obtain ⟨s1, Q1, c1, _⟩ := rowsAt_cons.1 k2
        rw [app_cell_r _ hi1] at c1
        exact blankRR_notOwn X _ _ _ _ c1
    · exact .inl e
  have fwd : ∀ r0 q m' K, Live (delA l r' ++ gs) r0 q m' K → ∃ K', Live (setA (delA l r') r ⟨.sl, m, R ++ X⟩ ++ gs) r0 q m' K' ∧ K.length ≤ K'.length := fun r0 q m' K hK => by
    have hn := notNew r0 q m' K hK
    obtain ⟨ob, k1, k2⟩ := hK
    by_cases e : r = r0
    · subst e
      rw [o2r] at k1
      cases k1
      cases q with
      | nil =>
        simp only [rowsAt, Option.some.injEq, Prod.mk.injEq] at k2
        obtain ⟨rfl, rfl⟩ := k2
        exact ⟨_, ⟨_, by rw [get3, if_pos rfl], rfl⟩, by rw [hlen]; exact Nat.le_refl _⟩
      | cons ij q1 =>
        obtain ⟨i1, j1⟩ := ij
        have hlow : i1 < R.length := by
          rcases hn with hn | hn
          · exact absurd rfl hn
          · have : ¬ R.length ≤ i1 := hn
            omega
        exact ⟨K, ⟨_, by rw [get3, if_pos rfl], (lowCons hlow).2 k2⟩, Nat.le_refl _⟩
    · exact ⟨K, ⟨ob, by rw [get3, if_neg e]; exact k1, k2⟩, Nat.le_refl _⟩
  have hgoes : Goes w (delA l r' ++ gs) gh w (setA (delA l r') r ⟨.sl, m, R ++ X⟩ ++ gs) (gh3 gh r r' R.length) :=
    ⟨fun k hk => ⟨hk, rfl⟩, fun r0 q m' K hK => ⟨fwd r0 q m' K hK, gOld r0 q (notNew r0 q m' K hK), fun b cs e f _ hb => ⟨cs, hb, rfl⟩⟩⟩
  have hRn : nrRR (R ++ blankRR X) = true := h.obj r ⟨.sl, m, _⟩ (by show getA (l ++ gs) r = _; rw [getA_append, hob])
  have hXn : nrRR X = true := h.obj r' ⟨.sl, m, X⟩ (by show getA (l ++ gs) r' = _; rw [getA_append, hob'])
  have was : ∀ r0 q m' K b, Live (setA (delA l r') r ⟨.sl, m, R ++ X⟩ ++ gs) r0 q m' K → (gh3 gh r r' R.length).G r0 q = some b →
      ∃ r1 q1 m1 K1, Live (l ++ gs) r1 q1 m1 K1 ∧ gh.G r1 q1 = some b ∧ ((∃ i j q2, r1 = r' ∧ r0 = r ∧ R.length ≤ i ∧ q = (i, j) :: q2 ∧ q1 = (i - R.length, j) :: q2) ∨ (r1 ≠ r' ∧ r1 = r0 ∧ q1 = q)) := fun r0 q m' K b hl hg => by
    rcases split3 r0 q m' K hl with ⟨rfl, rfl, rfl, rfl⟩ | ⟨i, j, q1, rfl, rfl, hi1, hl'⟩ | ⟨hn, hl'⟩
    · exact ⟨r0, [], m', _, lr, by rw [gOld r0 [] (.inr id)] at hg; exact hg, .inr ⟨hne, rfl, rfl⟩⟩
    · exact ⟨r', _, m', K, hl', by rw [gNew _ _ _ hi1] at hg; exact hg, .inl ⟨i, j, q1, rfl, rfl, hi1, rfl, rfl⟩⟩
    · obtain ⟨n1, n2⟩ := sub _ _ _ _ hl'
      refine ⟨r0, q, m', K, n2, ?_, .inr ⟨n1, rfl, rfl⟩⟩
      rw [gOld r0 q (hn.imp id (·.2))] at hg; exact hg
  refine ⟨h2.defers, h2.size, fun i hi => VR.goes hgoes (h2.tmps i hi), ⟨fun r0 q m' K b hl hg => ?_, fun r0 q ob m' K k1 k2 k3 => ?_, fun r0 q m' K r1 q1 m1 K1 b l1 l2 b1 b2 => ?_, h2.heap.S⟩, ⟨h2.keep.os, h2.keep.tape, h2.keep.output, h2.keep.size, h2.keep.S, h2.keep.block⟩, fun r0 ob hr => ?_, h2.out, fun r0 ob hr => ?_, h.maps.mono (fun r0 ob k1 k2 => ?_) (fun b arr cl k1 k2 => ⟨k1, k2⟩) (.ext (fun _ _ _ => rfl) (fun _ _ hs => hs) fun r0 q m' K k hl hG _ => (by
    obtain ⟨r1, q1, m1, K1, h1, h2, _⟩ := was r0 q m' K k hl hG
    exact ⟨_, _, _, _, h1, h2⟩)), h2.pin.goes hgoes fun _ ob h => ⟨ob, h⟩⟩
  · rcases split3 r0 q m' K hl with ⟨rfl, rfl, rfl, rfl⟩ | ⟨i, j, q1, rfl, rfl, hi1, hl'⟩ | ⟨hn, hl'⟩
    · rw [gOld r0 [] (.inr id)] at hg
      have lr2 : Live (delA l r' ++ gs) r0 [] m' (R ++ blankRR X) := ⟨_, o2r, rfl⟩
      obtain ⟨k1, k2, cells, e, f, k3, k4, k5, k6⟩ := h2.heap.rows r0 [] m' _ b lr2 hg
      have hrl : ∀ i, i < (R ++ X).length → ((R ++ X).getD i []).length = ((R ++ blankRR X).getD i []).length := fun i hi => by
        by_cases hlo : i < R.length
        · rw [app_row_l hlo, app_row_l hlo]
        · rw [app_row_r (by omega), app_row_r (by omega), blankRR_row]
      refine ⟨k1, fun i hi => by rw [hrl i hi]; exact k2 i (by rw [hlen]; exact hi), cells, e, f, k3, k4, by rw [← hlen]; exact k5, fun i1 j1 hi hj1 => ?_⟩
      have h6 := k6 i1 j1 (by rw [hlen]; exact hi) hj1
      by_cases hlo : i1 < R.length
      · have h7 := CR.goesAt hgoes lr2 (by rw [hlen]; exact hi) (by rw [k2 i1 (by rw [hlen]; exact hi)]; exact hj1) h6
        rw [app_cell_l _ hlo] at h7 ⊢
        exact h7
      · have hX : i1 - R.length < X.length := by rw [List.length_append] at hi; omega
        rw [app_cell_r _ (by omega)]
        rw [app_cell_r _ (by omega), blankRR_cell] at h6
        cases hc : cellAt X (i1 - R.length) j1 with
        | own s Q =>
          have h8 := hmem b cells e f hg k3 _ _ s Q hX hj1 hc
          rw [show R.length + (i1 - R.length) = i1 by omega] at h8
          exact SlAt.ren' (gNew i1 j1 [] (by omega)) h8
        | v x => rw [hc] at h6; exact h6
        | sh s1 Q1 => rw [hc] at h6; exact h6
        | ps cs => rw [hc] at h6; exact h6
        | bad => trivial
        | rs _ _ _ _ _ => have := nrRR_get hXn (i1 - R.length) j1; rw [hc] at this; simp [nr] at this
        | pt _ _ _ _ _ => have := nrRR_get hXn (i1 - R.length) j1; rw [hc] at this; simp [nr] at this
    · rw [gNew _ _ _ hi1] at hg
      obtain ⟨k1, k2, cells, e, f, k3, k4, k5, k6⟩ := h.heap.rows r' _ m' K b hl' hg
      refine ⟨k1, k2, cells, e, f, k3, k4, k5, fun i2 j2 hi2 hj2 => ?_⟩
      have hc := k6 i2 j2 hi2 hj2
      have hn : nr (cellAt K i2 j2) = true := by
        obtain ⟨ob, m1, m2⟩ := hl'
        have : ob = ⟨.sl, m, X⟩ := by
          have m1' : getA (l ++ gs) r' = some ob := m1
          rw [getA_append, hob'] at m1'
          exact (Option.some.inj m1').symm
        subst this
        exact nrRR_get (nrRR_rowsAt hXn m2) i2 j2
      cases hcell : cellAt K i2 j2 with
      | v x => rw [hcell] at hc; exact hc
      | sh s1 Q1 => rw [hcell] at hc; exact hc
      | ps cs => rw [hcell] at hc; exact hc
      | bad => trivial
      | rs _ _ _ _ _ => rw [hcell] at hn; simp [nr] at hn
      | pt _ _ _ _ _ => rw [hcell] at hn; simp [nr] at hn
      | own s1 Q1 =>
        rw [hcell] at hc
        exact SlAt.ren' (gNew i j (q1 ++ [(i2, j2)]) hi1) hc
    · rw [gOld r0 q (hn.imp id (·.2))] at hg
      obtain ⟨k1, k2, cells, e, f, k3, k4, k5, k6⟩ := h2.heap.rows r0 q m' K b hl' hg
      exact ⟨k1, k2, cells, e, f, k3, k4, k5, fun i1 j1 hi hj1 => CR.goesAt hgoes hl' hi (by rw [k2 i1 hi]; exact hj1) (k6 i1 j1 hi hj1)⟩
  · rcases split3 r0 q m' K ⟨ob, k1, k2⟩ with ⟨rfl, rfl, rfl, rfl⟩ | ⟨i, j, q1, rfl, rfl, hi1, hl'⟩ | ⟨hn, hl'⟩
    · rw [gOld r0 [] (.inr id)] at k3
      rcases h2.heap.none r0 [] _ m' _ o2r rfl k3 with e | ⟨e, _⟩
      · have h9 := congrArg List.length e
        rw [hlen] at h9
        exact .inl (List.eq_nil_of_length_eq_zero h9)
      · cases e
    · rw [gNew _ _ _ hi1] at k3
      obtain ⟨ob', m1, m2⟩ := hl'
      rcases h.heap.none r' _ ob' m' K m1 m2 k3 with e | ⟨e, _⟩
      · exact .inl e
      · have := h.obj r' ob' m1; simp [okObj, e] at this
    · rw [gOld r0 q (hn.imp id (·.2))] at k3
      obtain ⟨ob', m1, m2⟩ := hl'
      rcases h2.heap.none r0 q ob' m' K m1 m2 k3 with e | ⟨e, _⟩
      · exact .inl e
      · have := h2.obj r0 ob' m1; simp [okObj, e] at this
  · obtain ⟨ra, qa, ma, Ka, a1, a2, a3⟩ := was _ _ _ _ _ l1 b1
    obtain ⟨rb, qb, mb, Kb, c1, c2, c3⟩ := was _ _ _ _ _ l2 b2
    obtain ⟨e1, e2⟩ := h.heap.inj _ _ _ _ _ _ _ _ b a1 c1 a2 c2
    rcases a3 with ⟨i, j, q2, x1, x2, x3, x4, x5⟩ | ⟨x1, x2, x3⟩ <;> rcases c3 with ⟨i', j', q2', y1, y2, y3, y4, y5⟩ | ⟨y1, y2, y3⟩
    · refine ⟨x2.trans y2.symm, ?_⟩
      rw [x5, y5] at e2
      obtain ⟨e3, rfl⟩ := List.cons.inj e2
      obtain ⟨e4, rfl⟩ := Prod.mk.inj e3
      rw [x4, y4, show i = i' by omega]
    · exact absurd (e1.symm.trans x1) y1
    · exact absurd (e1.trans y1) x1
    · exact ⟨x2.symm.trans (e1.trans y2), x3.symm.trans (e2.trans y3)⟩
  · have hr' : getA (setA (delA l r') r ⟨.sl, m, R ++ X⟩) r0 = some ob := hr
    rw [getA_setA] at hr'
    split at hr'
    · rename_i e
      rw [← e]; exact h2.loc r _ hd1
    · exact h2.loc r0 ob hr'
  · have hr' : getA (setA (delA l r') r ⟨.sl, m, R ++ X⟩ ++ gs) r0 = some ob := hr
    rw [get3] at hr'
    split at hr'
    · cases hr'
      show nrRR (R ++ X) = true
      rw [nrRR_all, List.all_append, Bool.and_eq_true, ← nrRR_all, ← nrRR_all] at hRn ⊢
      exact ⟨hRn.1, hXn⟩
    · exact h2.obj r0 ob hr'
  · have k1' : getA (setA (delA l r') r ⟨.sl, m, R ++ X⟩ ++ gs) r0 = some ob := k1
    rw [get3] at k1'
    split at k1'
    · cases k1'; cases k2
    · rw [get2] at k1'
      split at k1'
      · cases k1'
      · exact ⟨ob, k1', rfl⟩
end
section
variable {P : Program} {w w0 : World} {g g0 : Gh} {σ σ' : St} {a : Act} {o : Store}
theorem ownOk_scalar {X : List (List C)} {r : Root} {i j : Nat} {y : Value} (hok : ownRows X = true) (hi : i < X.length) (hj : j < (X.getD i []).length) (h : CR w o g (some (r, [], i, j)) (cellAt X i j) y) : scalar y = true := by
  have hc : ownOk (cellAt X i j) = true := by
    unfold ownRows at hok
    rw [List.all_eq_true] at hok
    have h1 := hok (X.getD i []) (by rw [List.getD_eq_getElem?_getD, List.getElem?_eq_getElem hi]; exact List.getElem_mem hi)
    rw [List.all_eq_true] at h1
    exact h1 (cellAt X i j) (by unfold cellAt; rw [List.getD_eq_getElem?_getD (l := X.getD i []), List.getElem?_eq_getElem hj]; exact List.getElem_mem hj)
  revert hc h
  generalize cellAt X i j = c
  intro h hc
  cases c with
  | own s Q =>
    have hs : SlAt g w r ([] ++ [(i, j)]) s 0 Q.length y := h
    unfold SlAt at hs
    split at hs
    · obtain ⟨rfl, _⟩ := hs; rfl
    · obtain ⟨q, cap, rfl, _⟩ := hs; rfl
  | v x => simp only [ownOk, Bool.and_eq_true] at hc; exact CR.scalar hc.1 h
  | sh s Q => simp only [ownOk, Bool.and_eq_true] at hc; exact CR.scalar hc.1 h
  | ps cs => simp only [ownOk, Bool.and_eq_true] at hc; exact CR.scalar hc.1 h
  | bad => cases hc
  | rs _ _ _ _ _ => simp [ownOk, nr] at hc
  | pt _ _ _ _ _ => simp [ownOk, nr] at hc
theorem srcM_src (hh : HeapRel w o g) {tx e' : TypeId} {r2 : Root} {sz : Nat} {X : List (List C)} {y : Value} (he : tyElem P tx = some e') (hob : getA o r2 = some ⟨.sl, sz, X⟩) (hv : CR w o g none (.rs r2 [] sz 0 X.length) y) (hok : ownRows X = true) (hpos : 0 < sz) :
    ∃ news, Src P sz tx y X.length news w ∧ (∀ k, k < X.length → (X.getD k []).length = sz) ∧ (∀ k j, k < X.length → j < sz → CR w [] g none (cellAt (blankRR X) k j) (news.getD (k * sz + j) undef)) ∧
      ∀ k j s Q, k < X.length → j < sz → cellAt X k j = .own s Q → SlAt g w r2 [(k, j)] s 0 Q.length (news.getD (k * sz + j) undef) := by
  obtain ⟨R', hl', hle, hsl⟩ := hv
  have hl : Live o r2 [] sz X := ⟨_, hob, rfl⟩
  obtain ⟨_, rfl⟩ := Live.unique hl hl'
  have hk := tyElem_spec he
  have nil_ : X = [] → y = .slice none 0 0 → _ := fun hX hy => (⟨[], by subst hX hy; exact Src.ofNil (P := P) w hk 0, fun k hk => by subst hX; exact absurd hk (Nat.not_lt_zero _), fun k j hk => by subst hX; exact absurd hk (Nat.not_lt_zero _), fun k j s Q hk => by subst hX; exact absurd hk (Nat.not_lt_zero _)⟩ :
    ∃ news, Src P sz tx y X.length news w ∧ (∀ k, k < X.length → (X.getD k []).length = sz) ∧ (∀ k j, k < X.length → j < sz → CR w [] g none (cellAt (blankRR X) k j) (news.getD (k * sz + j) undef)) ∧
      ∀ k j s Q, k < X.length → j < sz → cellAt X k j = .own s Q → SlAt g w r2 [(k, j)] s 0 Q.length (news.getD (k * sz + j) undef))
  unfold SlAt at hsl
  cases hG : g.G r2 [] with
  | none =>
    rw [hG] at hsl
    obtain ⟨hy, hl0⟩ := hsl
    exact nil_ (List.eq_nil_of_length_eq_zero hl0) hy
  | some b =>
    rw [hG] at hsl
    obtain ⟨ad, cap, rfl, hab, hlc, hcm, hpos', _⟩ := hsl
    obtain ⟨_, hRl, cells, e1, f1, hb1, hth, hfit, hcR⟩ := hh.rows r2 [] sz X b hl hG
    refine ⟨(List.range (X.length * sz)).map fun q => cells.getD q undef, Src.ofSlice (P := P) w hk ad X.length cap _ (by simp) (fun j u hj => ?_) (fun u hu => ?_), hRl, fun k j hk' hj => ?_, fun k j s Q hk' hj hc => ?_⟩
    · rw [List.getElem?_map] at hj
      obtain ⟨q, hq, rfl⟩ := Option.map_eq_some_iff.1 hj
      obtain ⟨h1, h2⟩ := List.getElem?_eq_some_iff.1 hq
      simp only [List.length_range] at h1
      simp only [List.getElem_range] at h2
      subst h2
      have h0 : 0 < X.length := by
        rcases Nat.eq_zero_or_pos X.length with h | h
        · rw [h, Nat.zero_mul] at h1; omega
        · exact h
      obtain rfl := hpos' h0
      have hc := cell_of_block hb1 (show j < cells.size by omega)
      rw [show ((⟨b, 0 * sz, none⟩ : Addr).add j) = ⟨b, j, none⟩ by simp only [Addr.add, Nat.zero_mul]; split <;> simp_all]
      exact hc
    · obtain ⟨q, hq, rfl⟩ := List.mem_map.1 hu
      simp only [List.mem_range] at hq
      have hd : q / sz < X.length := Nat.div_lt_of_lt_mul (by rw [Nat.mul_comm]; exact hq)
      have hm : q % sz < sz := Nat.mod_lt _ hpos
      have := hcR (q / sz) (q % sz) hd hm
      rw [show q / sz * sz + q % sz = q by rw [Nat.mul_comm]; exact Nat.div_add_mod q sz] at this
      exact scalar_one' (ownOk_scalar hok hd (by rw [hRl _ hd]; exact hm) this)
    · rw [news_get _ _ _ (mul_lt hk' hj), blankRR_cell]
      have h1 := hcR k j hk' hj
      have hokc : ownOk (cellAt X k j) = true := by
        unfold ownRows at hok
        rw [List.all_eq_true] at hok
        have h1 := hok (X.getD k []) (by rw [List.getD_eq_getElem?_getD, List.getElem?_eq_getElem hk']; exact List.getElem_mem hk')
        rw [List.all_eq_true] at h1
        have hj' : j < (X.getD k []).length := by rw [hRl k hk']; exact hj
        exact h1 (cellAt X k j) (by unfold cellAt; rw [List.getD_eq_getElem?_getD (l := X.getD k []), List.getElem?_eq_getElem hj']; exact List.getElem_mem hj')
      revert hokc h1
      generalize cellAt X k j = c
      intro h1 hokc
      cases c with
      | own s Q => trivial
      | v x => exact h1
      | sh s Q => exact h1
      | ps cs => exact h1
      | bad => trivial
      | rs _ _ _ _ _ => simp [ownOk, nr] at hokc
      | pt _ _ _ _ _ => simp [ownOk, nr] at hokc
    · rw [news_get _ _ _ (mul_lt hk' hj)]
      have h1 := hcR k j hk' hj
      rw [hc] at h1
      exact h1
def appendM (P : Program) (σ : St) (dst : Option Tmp) (t tx : TypeId) (s x : V) : Option St :=
  match dst, tyElem P t, tyElem P tx with
  | some N, some e, some _ => match (P.info? e).bind (·.zero), (P.info? e).map (·.size), (P.info? e).map (·.bytes) with
    | some z, some sz, some bytes => match s, x with
      | .x (.one (.rs r [] sz' 0 len)), .x (.one (.rs r2 [] szx 0 lenX)) => match getA σ.l r, getA σ.l r2 with
        | some ⟨.sl, sz2, R⟩, some ⟨.sl, sz3, X⟩ =>
          if z.cells.size = sz ∧ 0 < sz ∧ szx = sz ∧ sz' = sz ∧ sz2 = sz ∧ sz3 = sz ∧ len = R.length ∧ lenX = X.length ∧ r ≠ r2 ∧ ownRows X = true ∧ dropOk σ.d (delA (killL r2 (killL r σ.l)) r) σ.g (σ.t.map (killV r)) = true ∧
            dropOk σ.d (delA (((σ.d, N * 64), ⟨.sl, sz, []⟩) :: delA (killL r2 (killL r σ.l)) r) r2) σ.g ((σ.t.map (killV r)).map (killV r2)) = true ∧ (getA (delA (killL r2 (killL r σ.l)) r) (σ.d, N * 64)).isNone = true ∧
            R.length + X.length ≤ 9223372036854775807 ∧ ((R.length + X.length) + (R.length + X.length) / 4 + 192) * bytes ≤ 281474976710656 then
            some (put ⟨(σ.t.map (killV r)).map (killV r2), σ.d, ((σ.d, N * 64), ⟨.sl, sz, R ++ X⟩) :: delA (delA (killL r2 (killL r σ.l)) r) r2, σ.g⟩ dst (.x (.one (.rs (σ.d, N * 64) [] sz 0 (R.length + X.length)))))
          else none
        | _, _ => none
      | _, _ => none
    | _, _, _ => none
  | _, _, _ => none
theorem getA_isSome_cons {l : Store} {k : Root} {ob ob' : Obj'} (r : Root) : (getA ((k, ob) :: l) r).isSome = (getA ((k, ob') :: l) r).isSome := by
  simp only [getA]; split <;> rfl
theorem refOkC_cons {d : Nat} {l : Store} {k : Root} {ob ob' : Obj'} (c : C) : refOkC d ((k, ob) :: l) c = refOkC d ((k, ob') :: l) c := by
  unfold refOkC
  split
  · rw [getA_isSome_cons (ob' := ob')]
  · rfl
theorem appendM_run (h : Rel g0 w0 σ g a w) {dst : Option Tmp} {t tx ty : TypeId} {s x : V} {ys yx : Value} (hs : appendM P σ dst t tx s x = some σ') (hv : VR w σ.o g s ys) (hx : VR w σ.o g x yx) :
    ∃ z w1 g1, (Builtin.append_ #[t, tx] ty #[ys, yx]).run P w = .ok z w1 ∧ Rel g0 w0 σ' g1 (a.put dst z) w1 := by
  obtain ⟨tt, d, l, gs⟩ := σ
  unfold appendM at hs
  split at hs
  case h_2 => cases hs
  rename_i N e e' he he'
  split at hs
  case h_2 => cases hs
  rename_i z sz bytes hz hsz hby
  split at hs
  case h_2 => cases hs
  rename_i r sz' len r2 szx lenX
  split at hs
  case h_2 => cases hs
  rename_i sz2 R sz3 X hob hobX
  split at hs
  case isFalse => cases hs
  rename_i hc
  obtain ⟨c1, c2, c3, c4, c5, c5', c6, c6', cne, c7, c8, c8', c9, c10, c11⟩ := hc
  cases hs
  subst c3 c4 c5 c5' c6 c6'
  rw [Option.bind_eq_some_iff] at hz
  obtain ⟨i, hi, hz⟩ := hz
  rw [hi] at hsz hby
  simp only [Option.map_some, Option.some.injEq] at hsz hby
  subst hsz hby
  have hob1 : getA l r = some ⟨.sl, i.size, R⟩ := hob
  have hob2 : getA l r2 = some ⟨.sl, i.size, X⟩ := hobX
  obtain ⟨news, k1, k2, k3, k4⟩ := srcM_src h.heap he' (by show getA (l ++ gs) r2 = _; rw [getA_append, hob2]) hx c7 c2
  obtain ⟨R', ⟨ob', q1, q2⟩, _, hsl⟩ := hv
  have hkl := Rel.kill r2 (Rel.kill r h)
  have kO : ∀ (q : Root) (m : Nat) (Q : List (List C)), killO q ⟨.sl, m, Q⟩ = ⟨.sl, m, Q⟩ := fun _ _ _ => rfl
  have hobL : getA (killL r2 (killL r l)) r = some ⟨.sl, i.size, R⟩ := by rw [getA_killL, getA_killL, hob1]; rfl
  have hobL2 : getA (killL r2 (killL r l)) r2 = some ⟨.sl, i.size, X⟩ := by rw [getA_killL, getA_killL, hob2]; rfl
  generalize hLe : killL r2 (killL r l) = L at *
  have hdrop : Rel g0 w0 ⟨tt.map (killV r), d, delA L r, gs⟩ g a w := Rel.drop (T2_kill r tt) (fun r1 ob1 hg => by
    rw [getA_delA] at hg
    split at hg
    · cases hg
    · exact hg) c8 hkl
  have hf : getA (delA L r) (d, N * 64) = none := by simpa using c9
  have hne2 : (d, N * 64) ≠ r2 := fun e => by
    rw [e, getA_delA, if_neg cne, hobL2] at hf; cases hf
  obtain ⟨y', w', g', e1, e2, e3, e4, e5⟩ := append_run (ty := ty) hkl hobL hdrop (r' := (d, N * 64)) rfl hf (blankRR_nr (show nrRR X = true from h.obj r2 ⟨.sl, i.size, X⟩ (by show getA (l ++ gs) r2 = _; rw [getA_append, hob2]))) (blankRR_notOwn X) (fun k hk => by rw [blankRR_row]; exact k2 k (by rw [blankRR_length] at hk; exact hk)) (tyElem_spec he) hi hz rfl c1 c2 hsl (by rw [blankRR_length]; exact k1)
    (fun k j hk hj => k3 k j (by rw [blankRR_length] at hk; exact hk) hj) (by rw [blankRR_length]; exact c10) (by rw [blankRR_length]; exact c11)
  rw [blankRR_length] at e3 e5
  have hd1 : delA (((d, N * 64), (⟨.sl, i.size, R ++ blankRR X⟩ : Obj')) :: delA L r) r2 = ((d, N * 64), ⟨.sl, i.size, R ++ blankRR X⟩) :: delA (delA L r) r2 := by
    show (if (d, N * 64) = r2 then _ else _) = _
    rw [if_neg hne2]
  have hdrop2 : Rel g0 w0 ⟨(tt.map (killV r)).map (killV r2), d, delA (((d, N * 64), (⟨.sl, i.size, R ++ blankRR X⟩ : Obj')) :: delA L r) r2, gs⟩ g' a w' := Rel.drop (T2_kill r2 _) (fun r1 ob1 hg => by
    rw [getA_delA] at hg
    split at hg
    · cases hg
    · exact hg) (by
      have c8'' := c8'
      simp only [delA, if_neg hne2] at c8'' ⊢
      have hcc : refOkC d (((d, N * 64), (⟨.sl, i.size, R ++ blankRR X⟩ : Obj')) :: delA (delA L r) r2) = refOkC d (((d, N * 64), (⟨.sl, i.size, []⟩ : Obj')) :: delA (delA L r) r2) := funext fun c => refOkC_cons c
      have hvv : refOkV d (((d, N * 64), (⟨.sl, i.size, R ++ blankRR X⟩ : Obj')) :: delA (delA L r) r2) = refOkV d (((d, N * 64), (⟨.sl, i.size, []⟩ : Obj')) :: delA (delA L r) r2) := funext fun v => by
        cases v with
        | x x => cases x <;> simp only [refOkV, refOkX, hcc]
        | tup xs => simp only [refOkV]; congr 1; funext x; cases x <;> simp only [refOkX, hcc]
      have hoo : ∀ ob, refOkO d (((d, N * 64), (⟨.sl, i.size, R ++ blankRR X⟩ : Obj')) :: delA (delA L r) r2) ob = refOkO d (((d, N * 64), (⟨.sl, i.size, []⟩ : Obj')) :: delA (delA L r) r2) ob := fun ob => by
        unfold refOkO; simp only [hcc]
      simp only [dropOk, List.all_cons, hvv, hoo] at c8'' ⊢
      exact c8'') e2
  have hget2 : getA (((d, N * 64), (⟨.sl, i.size, R ++ blankRR X⟩ : Obj')) :: delA L r) r2 = some ⟨.sl, i.size, X⟩ := by
    show (if (d, N * 64) = r2 then _ else _) = _
    rw [if_neg hne2, getA_delA, if_neg cne, hobL2]
  have hfin := Rel.adoptRows (r := (d, N * 64)) (r' := r2) e2 (show (if (d, N * 64) = (d, N * 64) then some _ else _) = _ from if_pos rfl) hget2 hne2 hdrop2 (fun b cells e f hb hcl i1 j1 s Q hi1 hj1 hc => by
    obtain ⟨cells', e', f', q3, q4⟩ := e5 b hb
    rw [hcl] at q3
    cases q3
    rw [q4 i1 j1 hi1 hj1]
    have hlv : Live (delA L r ++ gs) r2 [(i1, j1)] s Q := ⟨_, by rw [getA_append, getA_delA, if_neg cne, hobL2], rowsAt_cons.2 ⟨s, Q, hc, hi1, by rw [k2 i1 hi1]; exact hj1, rfl⟩⟩
    obtain ⟨_, q5, q6⟩ := e4.live _ _ _ _ hlv
    exact SlAt.goes q5 q6 (k4 i1 j1 s Q hi1 hj1 hc))
  rw [hd1] at hfin
  have hset : setA (((d, N * 64), (⟨.sl, i.size, R ++ blankRR X⟩ : Obj')) :: delA (delA L r) r2) (d, N * 64) ⟨.sl, i.size, R ++ X⟩ = ((d, N * 64), ⟨.sl, i.size, R ++ X⟩) :: delA (delA L r) r2 := if_pos rfl
  rw [hset] at hfin
  refine ⟨y', w', _, e1, hfin.put (some N) (v := .x (.one (.rs (d, N * 64) [] i.size 0 (R.length + X.length)))) ?_⟩
  refine ⟨R ++ X, ⟨⟨.sl, i.size, R ++ X⟩, if_pos rfl, rfl⟩, by simp, SlAt.ren' (r0 := (d, N * 64)) (p0 := []) ?_ e3⟩
  exact if_pos rfl
end
end Go.Rx
namespace Go.Rx
open Go.RowKit
section
variable {g0 gh : Gh} {w0 w : World} {a : Act} {t : List V} {d : Nat} {l g : Store}
theorem hasC_refRoot {r : Root} {c : C} : hasC r c = true ↔ refRoot c = some r := by
  cases c <;> simp [hasC, refRoot]
theorem Rel.dropG {r : Root} (hr : Rel g0 w0 ⟨t, d, l, g⟩ gh a w) (ht : ∀ v ∈ t, hasV r v = false) (ho : ∀ r1 ob, getA (l ++ g) r1 = some ob → ob.kind = .box → hasRows r ob.rows = false) :
    Rel g0 w0 ⟨t, d, delA l r, delA g r⟩ gh a w := by
  have get' : ∀ r1, getA (delA l r ++ delA g r) r1 = if r = r1 then none else getA (l ++ g) r1 := fun r1 => by
    rw [getA_append, getA_delA, getA_delA, getA_append]
    by_cases e : r = r1
    · rw [if_pos e, if_pos e, if_pos e]
    · rw [if_neg e, if_neg e, if_neg e]
  have back : ∀ r1 ob, getA (delA l r ++ delA g r) r1 = some ob → r1 ≠ r ∧ getA (l ++ g) r1 = some ob := fun r1 ob h => by
    rw [get'] at h
    split at h
    · cases h
    · rename_i e; exact ⟨fun e' => e e'.symm, h⟩
  have liveB : ∀ r1 p sz R, Live (delA l r ++ delA g r) r1 p sz R → r1 ≠ r ∧ Live (l ++ g) r1 p sz R := fun r1 p sz R ⟨ob, h1, h2⟩ => ⟨(back _ _ h1).1, ob, (back _ _ h1).2, h2⟩
  have liveF : ∀ r1 p sz R, r1 ≠ r → Live (l ++ g) r1 p sz R → Live (delA l r ++ delA g r) r1 p sz R := fun r1 p sz R hn ⟨ob, h1, h2⟩ => ⟨ob, by rw [get', if_neg (fun e => hn e.symm)]; exact h1, h2⟩
  have hCR : ∀ loc c y, refRoot c ≠ some r → CR w (l ++ g) gh loc c y → CR w (delA l r ++ delA g r) gh loc c y := fun loc c y hc hy => by
    cases c with
    | v x => exact hy
    | sh sz R => exact hy
    | ps cs => exact hy
    | own sz R => exact hy
    | bad => trivial
    | rs r1 p sz off len => obtain ⟨R, k1, k2⟩ := hy; exact ⟨R, liveF _ _ _ _ (fun e => hc (by rw [e]; rfl)) k1, k2⟩
    | pt r1 p sz row off => obtain ⟨R, b, k1, k2⟩ := hy; exact ⟨R, b, liveF _ _ _ _ (fun e => hc (by rw [e]; rfl)) k1, k2⟩
  have hXR : ∀ x y, hasX r x = false → XR w (l ++ g) gh x y → XR w (delA l r ++ delA g r) gh x y := fun x y hx hy => by
    cases x with
    | one c => exact hCR none c y (fun e => by rw [show hasX r (.one c) = hasC r c from rfl, hasC_refRoot.2 e] at hx; cases hx) hy
    | agg cs =>
      obtain ⟨ys, k1, k2, k3⟩ := hy
      refine ⟨ys, k1, k2, fun j hj => hCR _ _ _ (fun e => ?_) (k3 j hj)⟩
      have hx' : cs.any (hasC r) = false := hx
      rw [List.any_eq_false] at hx'
      have := hx' (cs.getD j .bad) (by rw [List.getD_eq_getElem?_getD, List.getElem?_eq_getElem hj]; exact List.getElem_mem hj)
      rw [hasC_refRoot.2 e] at this
      exact this rfl
  refine ⟨hr.defers, hr.size, fun i hi => ?_, ⟨fun r1 p sz R b hlv hg => ?_, fun r1 p ob sz R h1 h2 h3 => hr.heap.none r1 p ob sz R (back _ _ h1).2 h2 h3, fun r1 p sz R r' p' sz' R' b k1 k2 k3 k4 => hr.heap.inj r1 p sz R r' p' sz' R' b (liveB _ _ _ _ k1).2 (liveB _ _ _ _ k2).2 k3 k4, hr.heap.S⟩,
    ⟨hr.keep.os, hr.keep.tape, hr.keep.output, hr.keep.size, hr.keep.S, hr.keep.block⟩, fun r1 ob h1 => ?_, fun r1 ob h1 => ?_, fun r1 ob h1 => hr.obj r1 ob (back _ _ h1).2, hr.maps.mono (fun r1 ob h1 h2 => ⟨ob, (back _ _ h1).2, rfl⟩) (fun b arr cl h1 h2 => ⟨h1, h2⟩) (.same fun r1 p sz R hl => ⟨_, _, (liveB _ _ _ _ hl).2⟩),
    ⟨fun r1 b hb ob h1 => ?_, fun r1 hb ob h1 => ?_, fun r1 ob h1 => ?_⟩⟩
  · have k1 := hr.tmps i hi
    have k2 : hasV r (t.getD i (.x (.one .bad))) = false := ht _ (by rw [List.getD_eq_getElem?_getD, List.getElem?_eq_getElem hi]; exact List.getElem_mem hi)
    show VR w (delA l r ++ delA g r) gh (t.getD i (.x (.one .bad))) _
    have k1' : VR w (l ++ g) gh (t.getD i (.x (.one .bad))) (a.tmps.getD i undef) := k1
    revert k1' k2
    cases t.getD i (.x (.one .bad)) with
    | x x => exact fun k2 k1 => hXR x _ k2 k1
    | tup xs =>
      intro k2 ⟨ys, e1, e2, e3⟩
      refine ⟨ys, e1, e2, fun j hj => hXR _ _ ?_ (e3 j hj)⟩
      have k2' : xs.any (hasX r) = false := k2
      rw [List.any_eq_false] at k2'
      have := k2' (xs.getD j (.one .bad)) (by rw [List.getD_eq_getElem?_getD, List.getElem?_eq_getElem hj]; exact List.getElem_mem hj)
      simpa using this
  · obtain ⟨hn, hlv'⟩ := liveB _ _ _ _ hlv
    obtain ⟨k1, k2, cells, e, f, k3, k4, k5, k6⟩ := hr.heap.rows r1 p sz R b hlv' hg
    refine ⟨k1, k2, cells, e, f, k3, k4, k5, fun i j hi hj => hCR _ _ _ (fun hq => ?_) (k6 i j hi hj)⟩
    obtain ⟨ob, q1, q2⟩ := hlv'
    obtain ⟨hk, rfl, rfl⟩ := live_ref (hr.obj r1 ob q1) q2 hq
    obtain ⟨m1, m2⟩ := cellAt_mem hq
    have h9 := ho r1 ob q1 hk
    unfold hasRows at h9
    rw [List.any_eq_false] at h9
    have h10 := h9 (ob.rows.getD i []) (by rw [List.getD_eq_getElem?_getD, List.getElem?_eq_getElem m1]; exact List.getElem_mem m1)
    rw [Bool.not_eq_true, List.any_eq_false] at h10
    have h11 := h10 (cellAt ob.rows i j) (by unfold cellAt; rw [List.getD_eq_getElem?_getD (l := ob.rows.getD i []), List.getElem?_eq_getElem m2]; exact List.getElem_mem m2)
    rw [hasC_refRoot.2 hq] at h11
    exact h11 rfl
  · have h1' : getA (delA l r) r1 = some ob := h1
    rw [getA_delA] at h1'
    split at h1'
    · cases h1'
    · exact hr.loc r1 ob h1'
  · have h1' : getA (delA g r) r1 = some ob := h1
    rw [getA_delA] at h1'
    split at h1'
    · cases h1'
    · exact hr.out r1 ob h1'
  · have h1' : getA (delA g r) r1 = some ob := h1
    rw [getA_delA] at h1'
    split at h1'
    · cases h1'
    · exact hr.pin.at_ r1 b hb ob h1'
  · have h1' : getA (delA g r) r1 = some ob := h1
    rw [getA_delA] at h1'
    split at h1'
    · cases h1'
    · exact hr.pin.nil_ r1 hb ob h1'
  · have h1' : getA (delA g r) r1 = some ob := h1
    rw [getA_delA] at h1'
    split at h1'
    · cases h1'
    · exact hr.pin.old r1 ob h1'
theorem killO_has (r : Root) (ob : Obj') (hk : (killO r ob).kind = .box) : hasRows r (killO r ob).rows = false := by
  have key : ∀ R : List (List C), hasRows r (R.map fun row => row.map (killC r)) = false := fun R => by
    unfold hasRows
    rw [List.any_eq_false]
    intro row hrow
    obtain ⟨row0, _, rfl⟩ := List.mem_map.1 hrow
    rw [Bool.not_eq_true, List.any_eq_false]
    intro c hc
    obtain ⟨c0, _, rfl⟩ := List.mem_map.1 hc
    unfold killC
    split
    · simp [hasC]
    · rename_i h; exact h
  unfold killO at hk ⊢
  split
  · split
    · exact key _
    · rename_i h; simpa using h
  · rename_i h
    exfalso
    split at hk
    · rename_i h2; exact h h2
    · exact h hk
theorem Rel.purge (r : Root) (hr : Rel g0 w0 ⟨t, d, l, g⟩ gh a w) : Rel g0 w0 ⟨t.map (killV r), d, delA (killL r l) r, delA (killL r g) r⟩ gh a w := by
  have h1 : Rel g0 w0 ⟨t.map (killV r), d, killL r l, killL r g⟩ gh a w := Rel.same (T2_kill r t) (Rel.killA r hr)
  refine Rel.dropG h1 (fun v hv => ?_) (fun r1 ob ho hk => ?_)
  · obtain ⟨v0, _, rfl⟩ := List.mem_map.1 hv
    unfold killV
    split
    · rfl
    · rename_i h; simpa using h
  · rw [getA_append, getA_killL, getA_killL] at ho
    have : ∃ ob0, killO r ob0 = ob := by
      cases e : getA l r1 with
      | some o => rw [e] at ho; exact ⟨o, Option.some.inj ho⟩
      | none =>
        rw [e] at ho
        cases e2 : getA g r1 with
        | some o => rw [e2] at ho; exact ⟨o, Option.some.inj ho⟩
        | none => rw [e2] at ho; cases ho
    obtain ⟨ob0, rfl⟩ := this
    exact killO_has r ob0 hk
end
def appendG (P : Program) (σ : St) (dst : Option Tmp) (t tx : TypeId) (s x : V) : Option St :=
  match dst, tyElem P t with
  | some N, some e => match (P.info? e).bind (·.zero) with
    | some z => match (P.info? e).map (·.size), (P.info? e).map (·.bytes), srcRows P σ.o tx x with
      | some sz, some bytes, some (szx, X) => match s with
        | .x (.one (.rs r [] sz' 0 len)) => match getA σ.l r, getA σ.g r with
          | none, some ⟨.sl, sz2, R⟩ =>
            if z.cells.size = sz ∧ 0 < sz ∧ szx = sz ∧ sz' = sz ∧ sz2 = sz ∧ len = R.length ∧ flatRows X = true ∧ (getA σ.l (σ.d, N * 64)).isNone = true ∧
              R.length + X.length ≤ 9223372036854775807 ∧ ((R.length + X.length) + (R.length + X.length) / 4 + 192) * bytes ≤ 281474976710656 then
              some (put ⟨σ.t.map (killV r), σ.d, ((σ.d, N * 64), ⟨.sl, sz, R ++ X⟩) :: delA (killL r σ.l) r, delA (killL r σ.g) r⟩ dst (.x (.one (.rs (σ.d, N * 64) [] sz 0 (R.length + X.length)))))
            else none
          | _, _ => none
        | _ => none
      | _, _, _ => none
    | none => none
  | _, _ => none
section
variable {P : Program} {w w0 : World} {g g0 : Gh} {σ σ' : St} {a : Act}
theorem appendG_run (h : Rel g0 w0 σ g a w) {dst : Option Tmp} {t tx ty : TypeId} {s x : V} {ys yx : Value} (hs : appendG P σ dst t tx s x = some σ') (hv : VR w σ.o g s ys) (hx : VR w σ.o g x yx) :
    ∃ z w1 g1, (Builtin.append_ #[t, tx] ty #[ys, yx]).run P w = .ok z w1 ∧ Rel g0 w0 σ' g1 (a.put dst z) w1 := by
  obtain ⟨tt, d, l, gs⟩ := σ
  unfold appendG at hs
  split at hs
  case h_2 => cases hs
  rename_i N e he
  split at hs
  case h_2 => cases hs
  rename_i z hz
  split at hs
  case h_2 => cases hs
  rename_i sz bytes szx X hsz hby hsr
  split at hs
  case h_2 => cases hs
  rename_i r sz' len
  split at hs
  case h_2 => cases hs
  rename_i sz2 R hobl hob
  split at hs
  case isFalse => cases hs
  rename_i hc
  obtain ⟨c1, c2, c3, c4, c5, c6, c7, c9, c10, c11⟩ := hc
  cases hs
  subst c3 c4 c5 c6
  rw [Option.bind_eq_some_iff] at hz
  obtain ⟨i, hi, hz⟩ := hz
  rw [hi] at hsz hby
  simp only [Option.map_some, Option.some.injEq] at hsz hby
  subst hsz hby
  obtain ⟨news, k1, k2, k3⟩ := srcRows_src h.heap hsr hx c7 c2
  have hobl' : getA l r = none := hobl
  have hob1 : getA gs r = some ⟨.sl, i.size, R⟩ := hob
  obtain ⟨R', ⟨ob', q1, q2⟩, _, hsl⟩ := hv
  have hk := Rel.killA r h
  have hp := Rel.purge r h
  have hobk : getA (killL r l ++ killL r gs) r = some ⟨.sl, i.size, R⟩ := by
    rw [getA_append, getA_killL, getA_killL, hobl', hob1]; rfl
  have hsub : ∀ r1 ob, getA (delA (killL r l) r ++ delA (killL r gs) r) r1 = some ob → r1 ≠ r ∧ getA (killL r l ++ killL r gs) r1 = some ob := fun r1 ob h1 => by
    rw [getA_append, getA_delA, getA_delA] at h1
    rw [getA_append]
    by_cases e : r = r1
    · rw [if_pos e, if_pos e] at h1; cases h1
    · rw [if_neg e, if_neg e] at h1; exact ⟨fun e' => e e'.symm, h1⟩
  obtain ⟨y', w', g', e1, e2, e3, _⟩ := append_runG (ty := ty) hk hobk hp hsub (r' := (d, N * 64)) rfl (by
      have c9' : getA l (d, N * 64) = none := by simpa using c9
      rw [getA_delA, getA_killL, c9']
      split <;> rfl) (flatRows_nr c7) (flatRows_notOwn c7) k2 (tyElem_spec he) hi hz rfl c1 c2 hsl k1 k3 c10 c11
  refine ⟨y', w', g', e1, e2.put (some N) (v := .x (.one (.rs (d, N * 64) [] i.size 0 (R.length + X.length)))) ?_⟩
  refine ⟨R ++ X, ⟨⟨.sl, i.size, R ++ X⟩, ?_, rfl⟩, by simp, e3⟩
  show (if (d, N * 64) = (d, N * 64) then _ else _) = _
  rw [if_pos rfl]
end
end Go.Rx
namespace Go.Rx
open Go.RowKit
section
variable {P : Program} {g0 gh : Gh} {w0 w w' : World} {a : Act} {t t2 : List V} {d : Nat} {l gs : Store}
def shp (off : Nat) : Path → Path
  | [] => []
  | (i, j) :: p => (i + off, j) :: p
theorem shp_inj {off : Nat} : ∀ {p q : Path}, shp off p = shp off q → p = q
  | [], [], _ => rfl
  | [], (_, _) :: _, h => by cases h
  | (_, _) :: _, [], h => by cases h
  | (i, j) :: p, (i', j') :: q, h => by
    simp only [shp, List.cons.injEq, Prod.mk.injEq] at h
    obtain ⟨⟨h1, h2⟩, h3⟩ := h
    rw [show i = i' by omega, h2, h3]
theorem shp_snoc {off : Nat} {p : Path} (h : p ≠ []) (q : Nat × Nat) : shp off (p ++ [q]) = shp off p ++ [q] := by
  cases p with
  | nil => exact absurd rfl h
  | cons q p => obtain ⟨i, j⟩ := q; rfl
theorem rowsAt_shp {sz off : Nat} {R : List (List C)} {p : Path} (hp : p ≠ []) : rowsAt sz (R.drop off) p = rowsAt sz R (shp off p) := by
  cases p with
  | nil => exact absurd rfl hp
  | cons q p =>
    obtain ⟨i, j⟩ := q
    simp only [rowsAt, shp, List.getElem?_drop, Nat.add_comm off i]
theorem cellAt_drop (R : List (List C)) (off i j : Nat) : cellAt (R.drop off) i j = cellAt R (i + off) j := by
  show ((R.drop off).getD i []).getD j .bad = (R.getD (i + off) []).getD j .bad
  congr 1
  simp [List.getD_eq_getElem?_getD, List.getElem?_drop, Nat.add_comm off i]
theorem cell_trS {o : Store} {G1 : Path → Option Nat} {c : C} {r r' : Root} {p q : Path} {i i0 j : Nat} {y : Value} (hn : nr c = true) (hS : ∀ k, gh.S k → w'.heap[k]? = w.heap[k]?)
    (hown : ∀ s Q, c = .own s Q → G1 (p ++ [(i, j)]) = gh.G r (q ++ [(i0, j)]) ∧ ∀ b cells e f, gh.G r (q ++ [(i0, j)]) = some b → w.heap[b]? = some (.cells cells e f) → w'.heap[b]? = some (.cells cells e f))
    (h : CR w o gh (some (r, q, i0, j)) c y) : CR w' [] (gh1 gh r' G1) (some (r', p, i, j)) c y := by
  cases c with
  | v x => exact h
  | sh s R => exact Sh.mono (fun k hk => ⟨hk, hS k hk⟩) h
  | ps cs => exact Sh.mono (fun k hk => ⟨hk, hS k hk⟩) h
  | bad => trivial
  | rs _ _ _ _ _ => simp [nr] at hn
  | pt _ _ _ _ _ => simp [nr] at hn
  | own s Q =>
    obtain ⟨k1, k2⟩ := hown s Q rfl
    have h' : SlAt gh w r (q ++ [(i0, j)]) s 0 Q.length y := h
    show SlAt (gh1 gh r' G1) w' r' (p ++ [(i, j)]) s 0 Q.length y
    unfold SlAt at h' ⊢
    rw [show (gh1 gh r' G1).G r' (p ++ [(i, j)]) = gh.G r (q ++ [(i0, j)]) from (if_pos rfl).trans k1]
    cases hg : gh.G r (q ++ [(i0, j)]) with
    | none => rw [hg] at h'; exact h'
    | some b =>
      rw [hg] at h'
      obtain ⟨ad, cap, e1, eb, e2, e3, e4, e5, e6⟩ := h'
      refine ⟨ad, cap, e1, eb, e2, e3, e4, fun h0 => ?_, fun h0 => ?_⟩
      · obtain ⟨f1, cells, e, f, f2, f3⟩ := e5 h0
        exact ⟨f1, cells, e, f, k2 b cells e f hg f2, f3⟩
      · obtain ⟨cells, e, f, f2, f3⟩ := e6 h0
        exact ⟨cells, e, f, k2 b cells e f hg f2, f3⟩
theorem append_cutcore {r r' : Root} {sz off : Nat} {R X : List (List C)} (hr : Rel g0 w0 ⟨t, d, l, gs⟩ gh a w) (hob' : getA (l ++ gs) r = some ⟨.sl, sz, R⟩) {l2 gs2 : Store} (h2 : Rel g0 w0 ⟨t2, d, l2, gs2⟩ gh a w)
    (hsub : ∀ r1 ob, getA (l2 ++ gs2) r1 = some ob → r1 ≠ r ∧ getA (l ++ gs) r1 = some ob) (hr' : r'.1 = d) (hf : getA l2 r' = none) (hXn : nrRR X = true) (hXo : ∀ i j s Q, cellAt X i j ≠ .own s Q) (hXl : ∀ k, k < X.length → (X.getD k []).length = sz) (hRl : ∀ k, k < R.length → (R.getD k []).length = sz)
    (hos : w'.os = w.os) (htape : w'.tape = w.tape) (hout : w'.output = w.output) (hsz : w.heap.size ≤ w'.heap.size) (hblk : ∀ k, k < w.heap.size → w'.heap[k]? = w.heap[k]?)
    (hc : ∃ cells e f, w'.heap[w.heap.size]? = some (.cells cells e f) ∧ Thaw f cells.size ∧ ((R.drop off).length + X.length) * sz ≤ cells.size ∧
      (∀ i j, i < (R.drop off).length → j < sz → CR w (l ++ gs) gh (some (r, [], i + off, j)) (cellAt R (i + off) j) (cells.getD (i * sz + j) undef)) ∧
      ∀ k j, k < X.length → j < sz → CR w [] gh none (cellAt X k j) (cells.getD (((R.drop off).length + k) * sz + j) undef)) :
    ∃ g', Rel g0 w0 ⟨t2, d, (r', ⟨.sl, sz, R.drop off ++ X⟩) :: l2, gs2⟩ g' a w' ∧ g'.G r' [] = some w.heap.size := by
  have hRn : nrRR R = true := hr.obj r _ hob'
  have hDn : nrRR (R.drop off) = true := by
    rw [nrRR_all, List.all_eq_true] at hRn ⊢
    exact fun x hx => hRn x (List.mem_of_mem_drop hx)
  have hlive : ∀ r1 p s Q, Live (l2 ++ gs2) r1 p s Q → r1 ≠ r ∧ Live (l ++ gs) r1 p s Q := fun r1 p s Q ⟨ob, q1, q2⟩ =>
    ⟨(hsub r1 ob q1).1, ob, (hsub r1 ob q1).2, q2⟩
  have hself : ∀ p s Q, rowsAt sz R p = some (s, Q) → Live (l ++ gs) r p s Q := fun p s Q hq => ⟨_, hob', hq⟩
  have hlt : ∀ r1 p s Q b, Live (l ++ gs) r1 p s Q → gh.G r1 p = some b → b < w.heap.size := fun r1 p s Q b hl hg => by
    obtain ⟨_, _, cs, e', f', k3, _⟩ := hr.heap.rows r1 p s Q b hl hg
    exact block_lt k3
  have hnS : ¬ gh.S w.heap.size := fun hs => absurd (hr.heap.S _ hs) (Nat.lt_irrefl _)
  have hSk : ∀ k, gh.S k → w'.heap[k]? = w.heap[k]? := fun k hk => hblk k (hr.heap.S k hk)
  let G1 : Path → Option Nat := fun p => if p = [] then some w.heap.size else gh.G r (shp off p)
  have hG1 : ∀ p, p ≠ [] → G1 p = gh.G r (shp off p) := fun p hp => if_neg hp
  have hkeepB : ∀ (b : Nat) cells e f, w.heap[b]? = some (.cells cells e f) → w'.heap[b]? = some (.cells cells e f) := fun b cells e f hb => by
    rw [hblk b (block_lt hb)]; exact hb
  have hrow : ∀ p s Q, p ≠ [] → rowsAt sz (R.drop off ++ X) p = some (s, Q) → rowsAt sz R (shp off p) = some (s, Q) := fun p s Q hp hq => by
    rw [← rowsAt_shp hp]; exact rowsAt_app hXo hp hq
  have hA : Adopt gh w w' (l2 ++ gs2) r' sz (R.drop off ++ X) G1 (some w.heap.size) := by
    refine ⟨hos, htape, hout, hsz, fun k hk _ => hblk k hk, fun k hk => by cases hk; exact hnS, fun k arr cl hk hm => ?_, fun r1 p s Q k hl hk hg => ?_, fun p s Q b hq hg => ?_, fun p s Q hq hg => ?_, fun p s Q p2 s2 Q2 b hq hq2 hg hg2 => ?_, fun p s Q b r1 p1 s1 R1 hq hg hl hg1 => ?_⟩
    · cases hk
      exact absurd (block_lt hm) (Nat.lt_irrefl _)
    · cases hk
      exact absurd (hlt r1 p s Q _ (hlive r1 p s Q hl).2 hg) (Nat.lt_irrefl _)
    · by_cases hp : p = []
      · subst hp
        simp only [rowsAt, Option.some.injEq, Prod.mk.injEq] at hq
        obtain ⟨rfl, rfl⟩ := hq
        have : w.heap.size = b := Option.some.inj ((if_pos rfl : G1 [] = some w.heap.size).symm.trans hg)
        subst this
        obtain ⟨cells, e, f, c1, c2, c3, c4, c5⟩ := hc
        have hdl : (R.drop off).length = R.length - off := List.length_drop
        refine ⟨hnS, fun i hi => ?_, cells, e, f, c1, c2, by rw [List.length_append]; exact c3, fun i j hi hj => ?_⟩
        · rw [List.getD_eq_getElem?_getD]
          by_cases hlt : i < (R.drop off).length
          · rw [List.getElem?_append_left hlt, List.getElem?_drop, ← List.getD_eq_getElem?_getD]; exact hRl _ (by omega)
          · rw [List.getElem?_append_right (Nat.le_of_not_lt hlt), ← List.getD_eq_getElem?_getD]
            exact hXl _ (by rw [List.length_append] at hi; omega)
        · by_cases hlt : i < (R.drop off).length
          · have e1 : cellAt (R.drop off ++ X) i j = cellAt R (i + off) j := by
              rw [← cellAt_drop]
              unfold cellAt; rw [List.getD_eq_getElem?_getD (l := R.drop off ++ X), List.getElem?_append_left hlt, ← List.getD_eq_getElem?_getD]
            rw [e1]
            refine cell_trS (q := []) (nrRR_get hRn (i + off) j) hSk (fun s Q hQ => ?_) (c4 i j hlt hj)
            exact ⟨hG1 _ (by simp), fun b cells e f _ hb => hkeepB b cells e f hb⟩
          · have e1 : cellAt (R.drop off ++ X) i j = cellAt X (i - (R.drop off).length) j := by unfold cellAt; rw [List.getD_eq_getElem?_getD (l := R.drop off ++ X), List.getElem?_append_right (Nat.le_of_not_lt hlt), ← List.getD_eq_getElem?_getD]
            have c6 := c5 (i - (R.drop off).length) j (by rw [List.length_append] at hi; omega) hj
            rw [show (R.drop off).length + (i - (R.drop off).length) = i by omega] at c6
            rw [e1]
            exact CR.any _ (CR.goes (o := []) (o' := []) (g := gh) (g' := gh1 gh r' G1) ⟨fun k (hk : gh.S k) => ⟨hk, hSk k hk⟩, fun _ _ _ _ ⟨_, h, _⟩ => (by cases h)⟩ c6)
      · have hq' := hrow p s Q hp hq
        rw [hG1 p hp] at hg
        obtain ⟨k1, k2, cs, e', f', k3, kf, k4, k5⟩ := hr.heap.rows r _ s Q b (hself _ s Q hq') hg
        refine ⟨k1, k2, cs, e', f', hkeepB b cs e' f' k3, kf, k4, fun i j hi hj => ?_⟩
        refine cell_trS (nrRR_get (nrRR_rowsAt hRn hq') i j) hSk (fun s2 Q2 hQ => ?_) (k5 i j hi hj)
        exact ⟨by rw [hG1 _ (by simp), shp_snoc hp], fun b cells e f _ hb => hkeepB b cells e f hb⟩
    · by_cases hp : p = []
      · subst hp; exact absurd ((if_pos rfl : G1 [] = some w.heap.size).symm.trans hg) (by simp)
      · rw [hG1 p hp] at hg
        rcases hr.heap.none r _ _ s Q hob' (hrow p s Q hp hq) hg with h | ⟨h, _⟩
        · exact h
        · cases h
    · by_cases hp : p = [] <;> by_cases hp2 : p2 = []
      · rw [hp, hp2]
      · subst hp
        rw [hG1 p2 hp2] at hg2
        have : w.heap.size = b := Option.some.inj ((if_pos rfl : G1 [] = some w.heap.size).symm.trans hg)
        have := hlt r _ s2 Q2 b (hself _ s2 Q2 (hrow p2 s2 Q2 hp2 hq2)) hg2
        omega
      · subst hp2
        rw [hG1 p hp] at hg
        have : w.heap.size = b := Option.some.inj ((if_pos rfl : G1 [] = some w.heap.size).symm.trans hg2)
        have := hlt r _ s Q b (hself _ s Q (hrow p s Q hp hq)) hg
        omega
      · rw [hG1 p hp] at hg
        rw [hG1 p2 hp2] at hg2
        exact shp_inj (hr.heap.inj r _ s Q r _ s2 Q2 b (hself _ s Q (hrow p s Q hp hq)) (hself _ s2 Q2 (hrow p2 s2 Q2 hp2 hq2)) hg hg2).2
    · obtain ⟨n1, n2⟩ := hlive r1 p1 s1 R1 hl
      by_cases hp : p = []
      · subst hp
        have : w.heap.size = b := Option.some.inj ((if_pos rfl : G1 [] = some w.heap.size).symm.trans hg)
        have := hlt r1 p1 s1 R1 b n2 hg1
        omega
      · rw [hG1 p hp] at hg
        exact n1 (hr.heap.inj r1 p1 s1 R1 r _ s Q b n2 (hself _ s Q (hrow p s Q hp hq)) hg1 hg).1
  have hAd := h2.adopt hA hr' hf (by rw [nrRR_all, List.all_append, ← nrRR_all, ← nrRR_all, hDn, hXn]; rfl) hr.maps (fun r1 ob h1 _ => ⟨ob, (hsub r1 ob h1).2, rfl⟩) (.ext (fun k hk _ => hblk k hk) (fun _ _ hs => hs) fun r1 p s Q k hl hG hk => (by
      obtain ⟨ob, q1, q2⟩ := hl
      have q1' : (if r' = r1 then some (⟨.sl, sz, R.drop off ++ X⟩ : Obj') else getA (l2 ++ gs2) r1) = some ob := q1
      split at q1'
      · rename_i e
        cases q1'
        subst e
        have hG' : G1 p = some k := (if_pos rfl : (gh1 gh r' G1).G r' p = G1 p).symm.trans hG
        by_cases hp : p = []
        · subst hp
          have : w.heap.size = k := Option.some.inj ((if_pos rfl : G1 [] = some w.heap.size).symm.trans hG')
          omega
        · rw [hG1 p hp] at hG'
          exact ⟨_, _, _, _, hself _ s Q (hrow p s Q hp q2), hG'⟩
      · rename_i e
        obtain ⟨n1, n2⟩ := hlive r1 p s Q ⟨ob, q1', q2⟩
        have hG' : gh.G r1 p = some k := (if_neg (fun e' => e e'.symm) : (gh1 gh r' G1).G r1 p = gh.G r1 p).symm.trans hG
        exact ⟨_, _, _, _, n2, hG'⟩))
  exact ⟨_, hAd.1, (if_pos rfl : (gh1 gh r' G1).G r' [] = G1 []).trans (if_pos rfl)⟩
theorem appendCut_run {r r' : Root} {sz off len : Nat} {R X : List (List C)} (hr : Rel g0 w0 ⟨t, d, l, gs⟩ gh a w) (hob : getA l r = some ⟨.sl, sz, R⟩) (h2 : Rel g0 w0 ⟨t2, d, delA l r, gs⟩ gh a w)
    (hr' : r'.1 = d) (hf : getA (delA l r) r' = none) (hXn : nrRR X = true) (hXo : ∀ i j s Q, cellAt X i j ≠ .own s Q) (hXl : ∀ k, k < X.length → (X.getD k []).length = sz)
    {ty tx tt e : TypeId} {i : TypeInfo} {z : Value} {ys yx : Value} {news : List Value} (ht : P.underlying tt = some (.slice e)) (hi : P.info? e = some i) (hz : i.zero = some z) (hsize : i.size = sz) (hzs : z.cells.size = sz)
    (hlen : off + len = R.length) (h0 : 0 < len)
    (hs : SlAt gh w r [] sz off len ys) (hsrc : Src P sz tx yx X.length news w) (hXc : ∀ k j, k < X.length → j < sz → CR w [] gh none (cellAt X k j) (news.getD (k * sz + j) undef))
    (h63 : len + X.length ≤ 9223372036854775807) (hby : ((len + X.length) + (len + X.length) / 4 + 192) * i.bytes ≤ 281474976710656) :
    ∃ y' w' g', (Builtin.append_ #[tt, tx] ty #[ys, yx]).run P w = .ok y' w' ∧
      ((Rel g0 w0 ⟨t2, d, (r', ⟨.sl, sz, R ++ X⟩) :: delA l r, gs⟩ g' a w' ∧ SlAt g' w' r' [] sz off (len + X.length) y') ∨
       (Rel g0 w0 ⟨t2, d, (r', ⟨.sl, sz, R.drop off ++ X⟩) :: delA l r, gs⟩ g' a w' ∧ SlAt g' w' r' [] sz 0 (len + X.length) y')) := by
  subst hsize
  have hob' : getA (l ++ gs) r = some ⟨.sl, i.size, R⟩ := by rw [getA_append, hob]
  have hsub : ∀ r1 ob, getA (delA l r ++ gs) r1 = some ob → r1 ≠ r ∧ getA (l ++ gs) r1 = some ob := fun r1 ob h1 => by
    rw [getA_append, getA_delA] at h1
    rw [getA_append]
    by_cases e : r = r1
    · subst e
      rw [if_pos rfl] at h1
      have k1 := hr.out r ob h1
      have k2 := hr.loc r _ hob
      simp only at k1 k2
      omega
    · rw [if_neg e] at h1
      exact ⟨fun e' => e e'.symm, h1⟩
  have hnl := hsrc.newsLen
  have hdl : (R.drop off).length = len := by rw [List.length_drop]; omega
  unfold SlAt at hs
  cases hG : gh.G r [] with
  | none => rw [hG] at hs; omega
  | some b =>
    rw [hG] at hs
    obtain ⟨ad, cap, hys, hab, hlc, hcm, h4, _, h6⟩ := hs
    obtain rfl := h4 h0
    obtain ⟨cells, e0, f, hb, hcap⟩ := h6 h0
    obtain ⟨_, hRl, cells', e1, f1, hb1, hth, hfit, hcR⟩ := hr.heap.rows r [] i.size R b ⟨_, hob', rfl⟩ hG
    have hbe : cells' = cells ∧ e1 = e0 ∧ f1 = f := by rw [hb] at hb1; cases hb1; exact ⟨rfl, rfl, rfl⟩
    obtain ⟨rfl, rfl, rfl⟩ := hbe
    have eo : off * i.size + len * i.size = R.length * i.size := by rw [← Nat.add_mul, hlen]
    by_cases hroom : len + X.length ≤ cap
    · have hrc : (R.length + X.length) * i.size ≤ cells'.size := by rw [← hcap]; exact Nat.mul_le_mul_right _ (by omega)
      have hfit2 : R.length * i.size + news.length ≤ cells'.size := by rw [hnl, ← Nat.add_mul]; exact hrc
      have hrun := run_append_room_src (P := P) w tt tx ty e i ht hi b (off * i.size) len cap yx X.length news hsrc hroom
        (fun j hj => by rw [cell_of_block hb (show off * i.size + len * i.size + j < cells'.size by omega)]; rfl)
        (fun j hj => by
          have := hth (off * i.size + len * i.size + j) (by omega)
          simp only [World.frozen?, hb]
          simpa using this)
      rw [eo] at hrun
      obtain ⟨wos, wtape, wout, wsize, wother⟩ := setCells_world b news (R.length * i.size) w
      obtain ⟨cur', hcur, hcs, hval⟩ := setCells_block b news (R.length * i.size) w cells' e1 f1 hb (by omega)
      obtain ⟨g', k1, k2, k3⟩ := append_core (w' := w.setCells b (R.length * i.size) news) (b' := b) hr hob' h2 hsub hr' hf hXn hXo hXl hRl wos wtape wout (Nat.le_of_eq wsize.symm) (fun k _ hk => wother k hk) (.inr hG)
        ⟨cur', e1, f1, hcur, fun k hk => hth k (by rw [← hcs]; exact hk), by rw [hcs]; exact hrc, fun p j hp hj => by
          have hlt := mul_lt hp hj
          rw [hval, if_neg (by omega)]
          exact hcR p j hp hj, fun p j hp hj => by
          have hlt := mul_lt hp hj
          have e1 : (R.length + p) * i.size + j = R.length * i.size + (p * i.size + j) := by rw [Nat.add_mul]; omega
          rw [e1, hval, if_pos (by rw [hnl]; omega), show R.length * i.size + (p * i.size + j) - R.length * i.size = p * i.size + j by omega]
          exact hXc p j hp hj⟩
      subst hys
      refine ⟨_, _, g', hrun, .inl ⟨k1, ?_⟩⟩
      unfold SlAt
      rw [k2]
      refine ⟨⟨b, off * i.size, none⟩, cap, rfl, rfl, hroom, hcm, fun _ => rfl, fun ho => ?_, fun _ => ⟨cur', e1, f1, hcur, by rw [hcs]; exact hcap⟩⟩
      subst ho
      exact ⟨by rw [Nat.zero_mul], cur', e1, f1, hcur, by rw [hcs, ← hcap, Nat.zero_add]⟩
    · have holdlen : ((cells'.toList.drop (off * i.size)).take (len * i.size)).length = len * i.size := by simp; omega
      have hget : ∀ j, j < len * i.size → ((cells'.toList.drop (off * i.size)).take (len * i.size)).getD j undef = cells'.getD (off * i.size + j) undef := fun j hj => by
        rw [List.getD_eq_getElem?_getD, List.getElem?_take, if_pos hj, List.getElem?_drop, ← List.getD_eq_getElem?_getD, getD_flat _ _ (by omega)]
      have hold := run_firstCells_some (P := P) w.drew i.size len ⟨b, off * i.size, none⟩ len cap _ holdlen (fun j v hv => by
        have hj : j < len * i.size := by rw [← holdlen]; exact (List.getElem?_eq_some_iff.1 hv).1
        have hj2 : off * i.size + j < cells'.size := by omega
        have hc := cell_of_block (n := off * i.size + j) hb hj2
        rw [List.getElem?_take, if_pos hj, List.getElem?_drop, Array.getElem?_toList, Array.getElem?_eq_getElem hj2] at hv
        cases hv
        show w.cell? ((⟨b, off * i.size, none⟩ : Addr).add j) = _
        rw [add_lit, hc]
        simp [Array.getD, hj2])
      subst hys
      generalize (cells'.toList.drop (off * i.size)).take (len * i.size) = olds at holdlen hget hold
      have hrun := run_append_grow_src (P := P) w tt tx ty e i z ht hi hz (some ⟨b, off * i.size, none⟩) len cap olds hold yx X.length news hsrc (by omega) (by omega) (growslice_fits_wide (by omega) hby)
      have hge := grownCap_ge w (len + X.length) cap e
      have hcm2 := grownCap_le_maxLen w (len + X.length) cap e h63
      generalize hN : grownCap w (len + X.length) cap e = N at hrun hge hcm2
      have hlenn : (olds ++ news).length = (len + X.length) * i.size := by rw [List.length_append, holdlen, hnl, Nat.add_mul]
      have hnew : (w.drew.alloc (.cells ((olds ++ news).toArray ++ Builtin.zeroCells z.cells (N - (len + X.length))) e)).heap[w.heap.size]? = some (.cells ((olds ++ news).toArray ++ Builtin.zeroCells z.cells (N - (len + X.length))) e) := heap_alloc_new w.drew _
      have hcs : ((olds ++ news).toArray ++ Builtin.zeroCells z.cells (N - (len + X.length))).size = N * i.size := by
        rw [Array.size_append, size_zeroCells, hzs, List.size_toArray, hlenn, ← Nat.add_mul]; congr 1; omega
      obtain ⟨g', k1, k2⟩ := append_cutcore (off := off) (w' := w.drew.alloc (.cells ((olds ++ news).toArray ++ Builtin.zeroCells z.cells (N - (len + X.length))) e)) hr hob' h2 hsub hr' hf hXn hXo hXl hRl rfl rfl rfl
        (by simp) (fun k hk => heap_alloc w.drew _ k hk) ⟨_, e, (0, 0), hnew, fun _ _ h => absurd h.2 (Nat.not_lt_zero _), by rw [hcs, hdl]; exact Nat.mul_le_mul_right _ hge, fun p j hp hj => by
          rw [hdl] at hp
          have hlt := mul_lt hp hj
          rw [arr_getD _ _ _ (by rw [hlenn, Nat.add_mul]; omega), List.getD_eq_getElem?_getD, List.getElem?_append_left (by rw [holdlen]; exact hlt), ← List.getD_eq_getElem?_getD, hget _ hlt]
          have := hcR (p + off) j (by omega) hj
          rw [show off * i.size + (p * i.size + j) = (p + off) * i.size + j by rw [Nat.add_mul]; omega]
          exact this, fun p j hp hj => by
          have hlt := mul_lt hp hj
          rw [hdl]
          have e1 : (len + p) * i.size + j = len * i.size + (p * i.size + j) := by rw [Nat.add_mul]; omega
          rw [e1, arr_getD _ _ _ (by rw [hlenn, Nat.add_mul]; omega), List.getD_eq_getElem?_getD, List.getElem?_append_right (by rw [holdlen]; omega), holdlen, Nat.add_sub_cancel_left, ← List.getD_eq_getElem?_getD]
          exact hXc p j hp hj⟩
      refine ⟨_, _, g', hrun, .inr ⟨k1, ?_⟩⟩
      unfold SlAt
      rw [k2]
      exact ⟨⟨w.heap.size, 0, none⟩, N, rfl, rfl, hge, hcm2, fun _ => by simp, fun _ => ⟨rfl, _, e, (0, 0), hnew, hcs.symm⟩, fun _ => ⟨_, e, (0, 0), hnew, by rw [Nat.zero_add]; exact hcs.symm⟩⟩
def frzS (g : Gh) (r : Root) (sz : Nat) (R : List (List C)) (k : Nat) : Prop := g.S k ∨ ∃ p s Q, rowsAt sz R p = some (s, Q) ∧ g.G r p = some k
theorem Rel.freeze {r : Root} {sz : Nat} {R : List (List C)} {t' : List V} {l' : Store} (hr : Rel g0 w0 ⟨t, d, l, gs⟩ gh a w) (hob : getA (l ++ gs) r = some ⟨.sl, sz, R⟩) (h2 : Rel g0 w0 ⟨t', d, l', gs⟩ gh a w)
    (hsub : ∀ r1 ob, getA (l' ++ gs) r1 = some ob → r1 ≠ r ∧ getA (l ++ gs) r1 = some ob) : Rel g0 w0 ⟨t', d, l', gs⟩ ⟨gh.G, frzS gh r sz R⟩ a w := by
  have hself : ∀ p s Q, rowsAt sz R p = some (s, Q) → Live (l ++ gs) r p s Q := fun p s Q hq => ⟨_, hob, hq⟩
  have hlive : ∀ r1 p s Q, Live (l' ++ gs) r1 p s Q → r1 ≠ r ∧ Live (l ++ gs) r1 p s Q := fun r1 p s Q ⟨ob, q1, q2⟩ =>
    ⟨(hsub r1 ob q1).1, ob, (hsub r1 ob q1).2, q2⟩
  have goes : Goes w (l' ++ gs) gh w (l' ++ gs) ⟨gh.G, frzS gh r sz R⟩ := ⟨fun k hk => ⟨.inl hk, rfl⟩, fun r1 p s Q hl => ⟨⟨Q, hl, Nat.le_refl _⟩, rfl, fun b cells e f _ hb => ⟨cells, hb, rfl⟩⟩⟩
  have hnot : ∀ r1 p s Q b, Live (l' ++ gs) r1 p s Q → gh.G r1 p = some b → ¬ gh.S b → ¬ frzS gh r sz R b := fun r1 p s Q b hl hg hS h => by
    rcases h with h | ⟨p0, s0, Q0, q1, q2⟩
    · exact hS h
    · obtain ⟨n1, n2⟩ := hlive r1 p s Q hl
      exact n1 (hr.heap.inj r1 p s Q r p0 s0 Q0 b n2 (hself _ _ _ q1) hg q2).1
  refine ⟨h2.defers, h2.size, fun i hi => VR.goes goes (h2.tmps i hi), ⟨fun r1 p s Q b hl hg => ?_, fun r1 p ob s Q h1 h3 h4 => h2.heap.none r1 p ob s Q h1 h3 h4, fun r1 p1 s1 R1 r2 p2 s2 R2 b l1 l2 b1 b2 => h2.heap.inj r1 p1 s1 R1 r2 p2 s2 R2 b l1 l2 b1 b2, fun k hk => ?_⟩,
    ⟨h2.keep.os, h2.keep.tape, h2.keep.output, h2.keep.size, fun k hk => .inl (h2.keep.S k hk), h2.keep.block⟩, h2.loc, h2.out, h2.obj,
    hr.maps.mono (fun r1 ob h1 _ => ⟨ob, (hsub r1 ob h1).2, rfl⟩) (fun b arr cl h1 h3 => ⟨h1, fun h => ?_⟩) (.mk (fun _ _ _ _ _ _ => rfl) (fun k hk h => ?_) fun k hk r1 p s Q hl => hk.2.2 r1 p s Q (hlive r1 p s Q hl).2), ⟨h2.pin.at_, h2.pin.nil_, h2.pin.old⟩⟩
  · obtain ⟨k1, k2, cells, e, f, k3, k4, k5, k6⟩ := h2.heap.rows r1 p s Q b hl hg
    refine ⟨hnot r1 p s Q b hl hg k1, k2, cells, e, f, k3, k4, k5, fun i j hi hj => ?_⟩
    exact CR.goesAt goes hl hi (by rw [k2 i hi]; exact hj) (k6 i j hi hj)
  · rcases hk with h | ⟨p0, s0, Q0, q1, q2⟩
    · exact h2.heap.S k h
    · obtain ⟨_, _, cs, e', f', k3, _⟩ := hr.heap.rows r p0 s0 Q0 k (hself _ _ _ q1) q2
      exact block_lt k3
  · rcases h with h | ⟨p0, s0, Q0, q1, q2⟩
    · exact h3 h
    · obtain ⟨_, _, cs, e', f', k3, _⟩ := hr.heap.rows r p0 s0 Q0 b (hself _ _ _ q1) q2
      rw [h1] at k3; cases k3
  · rcases h with h | ⟨p0, s0, Q0, q1, q2⟩
    · exact hk.2.1 h
    · exact hk.2.2 r p0 s0 Q0 (hself _ _ _ q1) q2
theorem Sh.of_ownS {o : Store} {g : Gh} {S' : Nat → Prop} {r : Root} (hh : HeapRel w o g) (hS : ∀ k, g.S k → S' k) (hB : ∀ p s Q k, Live o r p s Q → g.G r p = some k → S' k) :
    ∀ (n : Nat) (c : C), SizeOf.sizeOf c < n → ∀ p i j sz R y, Live o r p sz R → i < R.length → j < (R.getD i []).length → cellAt R i j = c →
    CR w o g (some (r, p, i, j)) c y → Sh w S' (toSh c) y := by
  intro n
  induction n with
  | zero => intro c h; omega
  | succ n ih =>
    intro c hc p i j sz R y hl hi hj hcell hcr
    have mono : ∀ {c' : C} {y' : Value}, Sh w g.S c' y' → Sh w S' c' y' := fun h => Sh.mono (fun k hk => ⟨hS k hk, rfl⟩) h
    cases c with
    | v x => cases hcr; exact .v _
    | sh m Q => exact mono hcr
    | ps cs => exact mono hcr
    | rs => exact .bad _
    | pt => exact .bad _
    | bad => exact .bad _
    | own m Q =>
      obtain ⟨ob, h1, h2⟩ := hl
      have hl' : Live o r (p ++ [(i, j)]) m Q := ⟨ob, h1, rowsAt_snoc h2 hi hj hcell⟩
      simp only [toSh]
      have hs : SlAt g w r (p ++ [(i, j)]) m 0 Q.length y := hcr
      unfold SlAt at hs
      split at hs
      · obtain ⟨rfl, h0⟩ := hs
        rw [List.length_eq_zero_iff.1 h0]
        exact .nil m
      · rename_i b hb
        obtain ⟨q, cap, rfl, _, e2, e3, _, e5, _⟩ := hs
        obtain ⟨rfl, _⟩ := e5 rfl
        obtain ⟨_, k2, cells, e, f, k3, _, k4, k5⟩ := hh.rows r _ m Q b hl' hb
        refine .slice m _ _ _ _ (fun i j => cells.getD (i * m + j) undef) (toShRR_length Q) e2 e3 (fun _ => hB _ _ _ _ hl' hb) (fun i hi => ?_) (fun i j hi hj => ?_) (fun i j hi hj => ?_)
        · rw [toShRR_get, toShR_length]; exact k2 i hi
        · rw [add_lit, add_lit, Nat.zero_add]
          have : (i + 1) * m ≤ Q.length * m := Nat.mul_le_mul_right _ hi
          rw [Nat.add_mul, Nat.one_mul] at this
          exact cell_of_block k3 (by omega)
        · rw [toSh_cell]
          have hj' : j < (Q.getD i []).length := by rw [k2 i hi]; exact hj
          have hlt := sizeOf_cell (sz := m) hi hj'
          exact ih _ (by omega) _ i j m Q _ hl' hi hj' rfl (k5 i j hi hj)
theorem Sh.of_slS {o : Store} {g : Gh} {S' : Nat → Prop} {r : Root} (hh : HeapRel w o g) (hS : ∀ k, g.S k → S' k) (hB : ∀ p s Q k, Live o r p s Q → g.G r p = some k → S' k)
    {sz off len : Nat} {R : List (List C)} {y : Value} (hl : Live o r [] sz R) (hle : off + len ≤ R.length) (h0 : 0 < len) (hs : SlAt g w r [] sz off len y) : Sh w S' (.sh sz (toShRR ((R.drop off).take len))) y := by
  unfold SlAt at hs
  split at hs
  · omega
  · rename_i b hb
    obtain ⟨q, cap, rfl, eb, e2, e3, e4, e5⟩ := hs
    obtain ⟨_, k2, cells, e, f, k3, _, k4, k5⟩ := hh.rows r [] sz R b hl hb
    obtain rfl := e4 h0
    refine .slice sz _ _ _ _ (fun i j => cells.getD ((off + i) * sz + j) undef) ?_ e2 e3 (fun _ => hB _ _ _ _ hl hb) (fun i hi => ?_) (fun i j hi hj => ?_) (fun i j hi hj => ?_)
    · rw [toShRR_length]; simp; omega
    · rw [toShRR_get, toShR_length, toShRR_take_drop _ _ _ _ hi]; exact k2 _ (by omega)
    · rw [add_lit, add_lit]
      have : (off + i + 1) * sz ≤ R.length * sz := Nat.mul_le_mul_right _ (by omega)
      rw [Nat.add_mul, Nat.one_mul, Nat.add_mul] at this
      rw [Nat.add_mul]
      exact cell_of_block k3 (by omega)
    · rw [toSh_cell]
      have e1 : cellAt ((R.drop off).take len) i j = cellAt R (off + i) j := by unfold cellAt; rw [toShRR_take_drop _ _ _ _ hi]
      rw [e1]
      have hj' : j < (R.getD (off + i) []).length := by rw [k2 _ (by omega)]; exact hj
      exact Sh.of_ownS hh hS hB _ _ (Nat.lt_succ_self _) [] (off + i) j sz R _ hl (by omega) hj' rfl (k5 _ _ (by omega) hj)
variable {σ σ' : St} {g : Gh}
def appendC (P : Program) (σ : St) (dst : Option Tmp) (t tx : TypeId) (s x : V) : Option St :=
  match dst, tyElem P t with
  | some N, some e => match ((P.info? e).bind (·.zero)).map (·.cells.toList), (P.info? e).map (·.size), (P.info? e).map (·.bytes), srcRows P σ.o tx x with
    | some zs, some sz, some bytes, some (szx, X) => match s with
      | .x (.one (.rs r [] sz' off len)) => match getA σ.l r with
        | some ⟨.sl, sz2, R⟩ =>
          if 0 < len ∧ zs.length = sz ∧ 0 < sz ∧ szx = sz ∧ sz' = sz ∧ sz2 = sz ∧ off + len = R.length ∧ flatRows X = true ∧ dropOk σ.d (delA (killL r σ.l) r) σ.g (σ.t.map (killV r)) = true ∧ (getA (delA (killL r σ.l) r) (σ.d, N * 64)).isNone = true ∧
              len + X.length ≤ 9223372036854775807 ∧ ((len + X.length) + (len + X.length) / 4 + 192) * bytes ≤ 281474976710656 then
            some (put ⟨σ.t.map (killV r), σ.d, delA (killL r σ.l) r, σ.g⟩ dst (.x (.one (.sh sz (toShRR (R.drop off ++ X))))))
          else none
        | _ => none
      | _ => none
    | _, _, _, _ => none
  | _, _ => none
theorem T2_rfl : ∀ t : List V, T2 t t
  | [] => trivial
  | _ :: t => ⟨.inl rfl, T2_rfl t⟩
theorem appendC_run (h : Rel g0 w0 σ g a w) {dst : Option Tmp} {t tx ty : TypeId} {s x : V} {ys yx : Value} (hs : appendC P σ dst t tx s x = some σ') (hv : VR w σ.o g s ys) (hx : VR w σ.o g x yx) :
    ∃ z w1 g1, (Builtin.append_ #[t, tx] ty #[ys, yx]).run P w = .ok z w1 ∧ Rel g0 w0 σ' g1 (a.put dst z) w1 := by
  obtain ⟨tt, d, l, gs⟩ := σ
  unfold appendC at hs
  split at hs
  case h_2 => cases hs
  rename_i N e he
  split at hs
  case h_2 => cases hs
  rename_i zs sz bytes szx X hz hsz hby hsr
  split at hs
  case h_2 => cases hs
  rename_i r sz' off len
  split at hs
  case h_2 => cases hs
  rename_i sz2 R hob
  split at hs
  case isFalse => cases hs
  rename_i hc
  obtain ⟨c0, c1, c2, c3, c4, c5, c6, c7, c8, c9, c10, c11⟩ := hc
  cases hs
  subst c3 c4 c5
  obtain ⟨z, hz1, rfl⟩ := Option.map_eq_some_iff.1 hz
  rw [Option.bind_eq_some_iff] at hz1
  obtain ⟨i, hi, hz2⟩ := hz1
  rw [hi] at hsz hby
  simp only [Option.map_some, Option.some.injEq] at hsz hby
  subst hsz hby
  obtain ⟨news, k1, k2, k3⟩ := srcRows_src h.heap hsr hx c7 c2
  obtain ⟨R', ⟨ob', q1, q2⟩, _, hsl⟩ := hv
  have hkl := Rel.kill r h
  have hobk : getA (killL r l) r = some ⟨.sl, i.size, R⟩ := by
    have hob2 : getA l r = some ⟨.sl, i.size, R⟩ := hob
    rw [getA_killL, hob2]; rfl
  have hdrop : Rel g0 w0 ⟨tt.map (killV r), d, delA (killL r l) r, gs⟩ g a w := Rel.drop (T2_kill r tt) (fun r1 ob1 hg => by
    rw [getA_delA] at hg
    split at hg
    · cases hg
    · exact hg) c8 hkl
  have hf : getA (delA (killL r l) r) (d, N * 64) = none := by simpa using c9
  obtain ⟨y', w', g', e1, e2⟩ := appendCut_run (ty := ty) hkl hobk hdrop (r' := (d, N * 64)) rfl hf (flatRows_nr c7) (flatRows_notOwn c7) k2 (tyElem_spec he) hi hz2 rfl (by simpa using c1) c6 c0 hsl k1 k3 c10 c11
  have hgn : getA gs (d, N * 64) = none := by
    cases hg : getA gs (d, N * 64) with
    | none => rfl
    | some ob => have := h.out _ ob hg; simp only at this; omega
  -- the new rows are told as rows that nobody writes
  have fin : ∀ (Q : List (List C)) (off' : Nat), Rel g0 w0 ⟨tt.map (killV r), d, ((d, N * 64), ⟨.sl, i.size, Q⟩) :: delA (killL r l) r, gs⟩ g' a w' → SlAt g' w' (d, N * 64) [] i.size off' (len + X.length) y' → off' + (len + X.length) = Q.length → Q.drop off' = R.drop off ++ X →
      ∃ g1, Rel g0 w0 (put ⟨tt.map (killV r), d, delA (killL r l) r, gs⟩ (some N) (.x (.one (.sh i.size (toShRR (R.drop off ++ X)))))) g1 (a.put (some N) y') w' := fun Q off' hr1 hs1 hq hqe => by
    have hobN : getA (((d, N * 64), (⟨.sl, i.size, Q⟩ : Obj')) :: delA (killL r l) r ++ gs) (d, N * 64) = some ⟨.sl, i.size, Q⟩ := if_pos rfl
    have hdr := Rel.drop (l' := delA (killL r l) r) (T2_rfl _) (fun r1 ob1 hg => by
      show (if (d, N * 64) = r1 then _ else _) = _
      rw [if_neg (fun e => by rw [← e, hf] at hg; cases hg)]; exact hg) c8 hr1
    have hfz := Rel.freeze hr1 hobN hdr fun r1 ob hg => by
      have hne : (d, N * 64) ≠ r1 := fun e => by
        rw [← e, getA_append, hf] at hg
        rw [show getA gs (d, N * 64) = some ob from hg] at hgn
        cases hgn
      exact ⟨Ne.symm hne, by show (if (d, N * 64) = r1 then _ else _) = _; rw [if_neg hne]; exact hg⟩
    refine ⟨_, hfz.put (some N) (v := .x (.one (.sh i.size (toShRR (R.drop off ++ X))))) ?_⟩
    have hsh := Sh.of_slS (S' := frzS g' (d, N * 64) i.size Q) hr1.heap (fun k hk => .inl hk) (fun p s K k ⟨ob, m1, m2⟩ hk => .inr (by
      have m3 : some (⟨.sl, i.size, Q⟩ : Obj') = some ob := hobN.symm.trans m1
      cases m3
      exact ⟨p, s, K, m2, hk⟩)) ⟨_, hobN, rfl⟩ (Nat.le_of_eq hq) (by omega) hs1
    rw [hqe, List.take_of_length_le (by rw [← hqe, List.length_drop]; omega)] at hsh
    exact hsh
  rcases e2 with ⟨m1, m2⟩ | ⟨m1, m2⟩
  · obtain ⟨g1, m3⟩ := fin _ _ m1 m2 (by rw [List.length_append]; omega) (by rw [List.drop_append_of_le_length (by omega)])
    exact ⟨_, _, g1, e1, m3⟩
  · obtain ⟨g1, m3⟩ := fin _ _ m1 m2 (by rw [List.length_append, List.length_drop]; omega) rfl
    exact ⟨_, _, g1, e1, m3⟩
end
end Go.Rx
namespace Go.Rx
open Go.RowKit
theorem SlAt.ren0 {w : World} {g g' : Gh} {r r0 : Root} {p p0 : Path} {sz off len : Nat} {y : Value} (hG : g'.G r p = g.G r0 p0) (h : SlAt g w r0 p0 sz off len y) : SlAt g' w r p sz off len y := by
  unfold SlAt at *
  rw [hG]; exact h
theorem Rel.addNil {t : List V} {d : Nat} {l g : Store} {g0 gh : Gh} {w0 w : World} {a : Act} {r : Root} {sz : Nat} (hr : Rel g0 w0 ⟨t, d, l, g⟩ gh a w) (hd : r.1 = d) (hf : getA l r = none) :
    ∃ gh', Rel g0 w0 ⟨t, d, (r, ⟨.sl, sz, []⟩) :: l, g⟩ gh' a w ∧ Goes w (l ++ g) gh w ((r, (⟨.sl, sz, []⟩ : Obj')) :: l ++ g) gh' ∧ VR w ((r, (⟨.sl, sz, []⟩ : Obj')) :: l ++ g) gh' (.x (.one (.rs r [] sz 0 0))) (.slice none 0 0) := by
  have hfo : getA (l ++ g) r = none := by
    rw [getA_append, hf]
    cases hg : getA g r with
    | none => rfl
    | some ob => have := hr.out r ob hg; simp only at this; omega
  let gh' : Gh := { G := fun r' p' => if r' = r then none else gh.G r' p', S := gh.S }
  have hne : ∀ r' p' s R, Live (l ++ g) r' p' s R → r' ≠ r := fun r' p' s R ⟨ob, h1, _⟩ e => by subst e; rw [hfo] at h1; cases h1
  have hget : ∀ r', r' ≠ r → getA ((r, (⟨.sl, sz, []⟩ : Obj')) :: l ++ g) r' = getA (l ++ g) r' := fun r' h => by
    show (if r = r' then _ else _) = _
    rw [if_neg (Ne.symm h)]; rfl
  have hsame : getA ((r, (⟨.sl, sz, []⟩ : Obj')) :: l ++ g) r = some ⟨.sl, sz, []⟩ := by
    show (if r = r then _ else _) = _
    rw [if_pos rfl]
  have goes : Goes w (l ++ g) gh w ((r, (⟨.sl, sz, []⟩ : Obj')) :: l ++ g) gh' := by
    refine ⟨fun k hk => ⟨hk, rfl⟩, fun r' p s R hl => ⟨⟨R, ?_, Nat.le_refl _⟩, ?_, fun b cells e f _ hb => ⟨cells, hb, rfl⟩⟩⟩
    · obtain ⟨ob, h1, h2⟩ := hl
      exact ⟨ob, by rw [hget r' (hne r' p s R ⟨ob, h1, h2⟩)]; exact h1, h2⟩
    · show (if r' = r then none else gh.G r' p) = _
      rw [if_neg (hne r' p s R hl)]
  have old : ∀ r' p s R, Live ((r, (⟨.sl, sz, []⟩ : Obj')) :: l ++ g) r' p s R → r' ≠ r → Live (l ++ g) r' p s R := fun r' p s R ⟨ob, h1, h2⟩ h => ⟨ob, by rw [← hget r' h]; exact h1, h2⟩
  have crl : ∀ loc c y, CR w (l ++ g) gh (some loc) c y → loc.1 ≠ r → CR w ((r, (⟨.sl, sz, []⟩ : Obj')) :: l ++ g) gh' (some loc) c y := fun loc c y hc hl => by
    obtain ⟨r1, p1, i1, j1⟩ := loc
    cases c with
    | own s R =>
      have hc' : SlAt gh w r1 (p1 ++ [(i1, j1)]) s 0 R.length y := hc
      refine SlAt.ren0 (g := gh) ?_ hc'
      show (if r1 = r then none else gh.G r1 _) = _
      rw [if_neg hl]
    | v x => exact hc
    | sh s R => exact hc
    | ps cs => exact hc
    | bad => trivial
    | rs r2 p2 s off len => exact CR.goes (c := .rs r2 p2 s off len) goes hc
    | pt r2 p2 s row off => exact CR.goes (c := .pt r2 p2 s row off) goes hc
  refine ⟨gh', ⟨hr.defers, hr.size, fun k hk => VR.goes goes (hr.tmps k hk), ⟨fun r' p s R b hl hb => ?_, fun r' p ob s R h1 h2 hb => ?_, fun r1 p1 s1 R1 r2 p2 s2 R2 b l1 l2 b1 b2 => ?_, hr.heap.S⟩, ?_, fun r' ob h => ?_, hr.out, fun r' ob h => ?_, hr.maps.mono (fun r' ob h1 h2 => (by
      change getA ((r, (⟨.sl, sz, []⟩ : Obj')) :: l ++ g) r' = some ob at h1
      by_cases e : r' = r
      · rw [e, hsame] at h1; cases h1; cases h2
      · rw [hget r' e] at h1; exact ⟨ob, h1, rfl⟩)) (fun b arr cl h1 h2 => ⟨h1, h2⟩) (.ext (fun _ _ _ => rfl) (fun _ _ hs => hs) fun r' p s R k hl hG _ => (by
      have hn : r' ≠ r := fun e => by subst e; rw [show gh'.G r' p = none from if_pos rfl] at hG; cases hG
      rw [show gh'.G r' p = gh.G r' p from if_neg hn] at hG
      exact ⟨_, _, _, _, old _ _ _ _ hl hn, hG⟩)), hr.pin.goes goes fun _ ob h => ⟨ob, h⟩⟩, goes, ⟨[], ⟨_, hsame, rfl⟩, Nat.le_refl _, (by
      unfold SlAt
      rw [show gh'.G r [] = none from if_pos rfl]
      exact ⟨rfl, rfl⟩)⟩⟩
  · have hn : r' ≠ r := fun e => by subst e; rw [show gh'.G r' p = none from if_pos rfl] at hb; cases hb
    rw [show gh'.G r' p = gh.G r' p from if_neg hn] at hb
    obtain ⟨k1, k2, cells, e, f, k3, k4, k5, k6⟩ := hr.heap.rows r' p s R b (old _ _ _ _ hl hn) hb
    exact ⟨k1, k2, cells, e, f, k3, k4, k5, fun i j hi hj => crl _ _ _ (k6 i j hi hj) hn⟩
  · by_cases e : r' = r
    · subst e
      have hob : ob = ⟨.sl, sz, []⟩ := by
        have := hsame
        rw [show getA ((r', (⟨.sl, sz, []⟩ : Obj')) :: l ++ g) r' = some ob from h1] at this
        exact Option.some.inj this
      subst hob
      cases p with
      | nil => simp only [rowsAt, Option.some.injEq, Prod.mk.injEq] at h2; exact .inl h2.2.symm
      | cons q p => simp [rowsAt] at h2
    · rw [show gh'.G r' p = gh.G r' p from if_neg e] at hb
      exact hr.heap.none r' p ob s R ((hget r' e).symm.trans h1) h2 hb
  · have n1 : r1 ≠ r := fun e => by subst e; rw [show gh'.G r1 p1 = none from if_pos rfl] at b1; cases b1
    have n2 : r2 ≠ r := fun e => by subst e; rw [show gh'.G r2 p2 = none from if_pos rfl] at b2; cases b2
    rw [show gh'.G r1 p1 = gh.G r1 p1 from if_neg n1] at b1
    rw [show gh'.G r2 p2 = gh.G r2 p2 from if_neg n2] at b2
    exact hr.heap.inj r1 p1 s1 R1 r2 p2 s2 R2 b (old _ _ _ _ l1 n1) (old _ _ _ _ l2 n2) b1 b2
  · exact ⟨hr.keep.os, hr.keep.tape, hr.keep.output, hr.keep.size, hr.keep.S, hr.keep.block⟩
  · by_cases e : r' = r
    · rw [e]; exact Nat.le_of_eq hd.symm
    · refine hr.loc r' ob ?_
      have h' : (if r = r' then some (⟨.sl, sz, []⟩ : Obj') else getA l r') = some ob := h
      rwa [if_neg (Ne.symm e)] at h'
  · by_cases e : r' = r
    · subst e
      have := hsame
      rw [show getA ((r', (⟨.sl, sz, []⟩ : Obj')) :: l ++ g) r' = some ob from h] at this
      cases this; rfl
    · exact hr.obj r' ob ((hget r' e).symm.trans h)
end Go.Rx
namespace Go.Rx
open Go.RowKit
def tyZero (P : Program) (t : TypeId) : Option (List Value) := ((P.info? t).bind (·.zero)).map (·.cells.toList)
def tyBytes (P : Program) (t : TypeId) : Option Nat := (P.info? t).map (·.bytes)
def ptV (σ : St) (N sz : Nat) : V := .x (.one (.pt (σ.d, N * 64) [] sz 0 0))
def slV (σ : St) (N sz len : Nat) : V := .x (.one (.rs (σ.d, N * 64) [] sz 0 len))
def newSt (σ : St) (N : Nat) (ob : Obj') : St := { σ with l := ((σ.d, N * 64), ob) :: σ.l }
def fresh (σ : St) (N : Nat) : Bool := (getA σ.l (σ.d, N * 64)).isNone
def isNilP : Value → Bool
  | .pointer none => true
  | _ => false
def isNilS : Value → Bool
  | .slice none _ _ => true
  | _ => false
def bldZ : List Value → Bool
  | [x, y] => isNilP x && isNilS y
  | _ => false
def bldT (P : Program) (t : TypeId) : Bool := match tyZero P t with
  | some zs => bldZ zs
  | none => false
def boxS (σ : St) (dst : Option Tmp) (v : V) : Option St :=
  match dst, v with
  | some N, .x x => match cellsX x with
    | some cs => if fresh σ N then some (put (newSt σ N ⟨.box, cs.length, [cs]⟩) dst (ptV σ N cs.length)) else none
    | none => none
  | _, _ => none
def allocS (P : Program) (σ : St) (dst : Option Tmp) (t : TypeId) : Option St :=
  match dst, tyZero P t with
  | some N, some zs => if fresh σ N then some (put (newSt σ N ⟨.box, zs.length, [zs.map .v]⟩) dst (ptV σ N zs.length)) else none
  | _, _ => none
def makeS (P : Program) (σ : St) (dst : Option Tmp) (t : TypeId) (l c : V) : Option St :=
  match dst, tyElem P t, plain l, plain c with
  | some N, some e, some (.int .i64 n), some (.int .i64 m) => match tyZero P e, tySz P e, tyBytes P e with
    | some zs, some s, some b =>
      if fresh σ N = true ∧ zs.length = s ∧ 0 < s ∧ 0 ≤ n ∧ n ≤ m ∧ m ≤ 9223372036854775807 ∧ b * m ≤ 281474976710656 then
        some (put (newSt σ N ⟨.sl, s, List.replicate n.toNat (zs.map .v)⟩) dst (slV σ N s n.toNat)) else none
    | _, _, _ => none
  | _, _, _, _ => none
def buildV (P : Program) (t : TypeId) (ps : List (Nat × V)) : Option V :=
  match fldsOk P t, tyZero P t with
  | true, some zs => (buildCells P t (zs.map .v) ps).map fun cs => .x (.agg cs)
  | _, _ => none
def partsOk : Nat → List (Nat × V) → Option (List (List C))
  | _, [] => some []
  | i, (k, .x x) :: ps => if k = i then
      match cellsX x, partsOk (i + 1) ps with
      | some cs, some R => some (cs :: R)
      | _, _ => none
    else none
  | _, (_, .tup _) :: _ => none
def sized (sz : Nat) (R : List (List C)) : Bool := R.all fun row => decide (row.length = sz)
def buildS (P : Program) (σ : St) (dst : Option Tmp) (t : TypeId) (n : Nat) (ps : List (Nat × V)) : Option St :=
  match dst, tyElem P t with
  | some N, some e => match tyZero P e, tySz P e, partsOk 0 ps with
    | some zs, some sz, some R =>
      if fresh σ N = true ∧ zs.length = sz ∧ 0 < sz ∧ R.length = n ∧ n * sz ≤ 16777216 ∧ sized sz R = true ∧ flatRows R = true then
        some (put (newSt σ N ⟨.sl, sz, R⟩) dst (slV σ N sz n)) else none
    | _, _, _ => none
  | _, _ => none
def noOwns (cs : List C) : Bool := cs.all fun c => match c with | .own _ _ => false | _ => true
def below (d : Nat) (cs : List C) : Bool := cs.all fun c => match refRoot c with | some r => decide (r.1 < d) | none => true
def blank : C → C
  | .rs _ _ _ _ _ => .bad
  | .pt _ _ _ _ _ => .bad
  | .v x => .v x
  | .sh s R => .sh s R
  | .own s R => .own s R
  | .ps cs => .ps cs
  | .bad => .bad
def adoptL (r : Root) (row : Nat) : Nat → List C → St → Option St
  | _, [], σ => some σ
  | j, c :: cs, σ => match c with
    | .rs r' p' s off len => match getA σ.l r', getA σ.l r with
      | some ⟨.sl, s', R'⟩, some ⟨.sl, m, R⟩ =>
        if p' = [] ∧ off = 0 ∧ s' = s ∧ len = R'.length ∧ r ≠ r' ∧ dropOk σ.d (delA (killL r' σ.l) r') σ.g (σ.t.map (killV r')) = true then
          adoptL r row (j + 1) cs ⟨σ.t.map (killV r'), σ.d, setA (delA (killL r' σ.l) r') r ⟨.sl, m, setCell R row j (.own s R')⟩, σ.g⟩ else none
      | _, _ => none
    | .pt _ _ _ _ _ => none
    | _ => adoptL r row (j + 1) cs σ
def buildM (P : Program) (σ : St) (dst : Option Tmp) (t : TypeId) (n : Nat) (ps : List (Nat × V)) : Option St :=
  match dst, tyElem P t with
  | some N, some e => match tyZero P e, tySz P e, partsOk 0 ps with
    | some zs, some sz, some [row] =>
      if fresh σ N = true ∧ zs.length = sz ∧ 0 < sz ∧ n = 1 ∧ sz ≤ 16777216 ∧ row.length = sz ∧ nrR (row.map blank) = true then
        adoptL (σ.d, N * 64) 0 0 row (put (newSt σ N ⟨.sl, sz, [row.map blank]⟩) dst (slV σ N sz 1)) else none
    | _, _, _ => none
  | _, _ => none
def isNilSl : Value → Bool
  | .slice none _ _ => true
  | _ => false
def slEl (P : Program) (t : TypeId) : Bool := match tyElem P t with
  | some e => match tyZero P e with
    | some zs => zs.any isNilSl
    | none => false
  | none => false
def orE (a b : Option St) : Option St := match a with
  | some x => some x
  | none => b
def appendL (P : Program) (σ : St) (dst : Option Tmp) (t tx : TypeId) (s x : V) : Option St := if slEl P t = true then orE (appendM P σ dst t tx s x) (appendS P σ dst t tx s x) else appendS P σ dst t tx s x
def appendN (P : Program) (σ : St) (dst : Option Tmp) (t tx : TypeId) (x : V) : Option St := match dst, tyElem P t with
  | some N, some e => match tySz P e with
    | some sz => if fresh σ N = true then appendL P ⟨σ.t, σ.d, ((σ.d, N * 64), ⟨.sl, sz, []⟩) :: σ.l, σ.g⟩ dst t tx (slV σ N sz 0) x else none
    | none => none
  | _, _ => none
def appendO (P : Program) (σ : St) (dst : Option Tmp) (t tx : TypeId) (s x : V) : Option St := match s with
  | .x (.one (.v (.slice none 0 0))) => appendN P σ dst t tx x
  | .x (.one (.rs r p sz off len)) => if (getA σ.l r).isNone = true then appendG P σ dst t tx (.x (.one (.rs r p sz off len))) x else if 0 < off then appendC P σ dst t tx (.x (.one (.rs r p sz off len))) x else appendL P σ dst t tx (.x (.one (.rs r p sz off len))) x
  | s => appendL P σ dst t tx s x
def buildO (P : Program) (σ : St) (dst : Option Tmp) (t : TypeId) (n : Nat) (ps : List (Nat × V)) : Option St := if slEl P t = true then orE (buildM P σ dst t n ps) (buildS P σ dst t n ps) else buildS P σ dst t n ps
def storeM (P : Program) (σ : St) (t : TypeId) (x v : V) : Option St :=
  match x, v with
  | .x (.one (.pt r [] sz row off)), .x y => match cellsX y, tySz P t, getA σ.l r with
    | some cs, some n, some ⟨.sl, m, Q⟩ =>
      if m = sz ∧ cs.length = n ∧ row < Q.length ∧ off + n ≤ sz ∧ noOwns (((Q.getD row []).drop off).take n) = true ∧ nrR (cs.map blank) = true then
        adoptL r row off cs ⟨σ.t, σ.d, setA σ.l r ⟨.sl, m, Q.set row (setRange (Q.getD row []) off (cs.map blank))⟩, σ.g⟩ else none
    | _, _, _ => none
  | _, _ => none
def storeS (P : Program) (σ : St) (t : TypeId) (x v : V) : Option St :=
  match x, v with
  | .x (.one (.pt r p sz row off)), .x y => match cellsX y, tySz P t, getA σ.o r with
    | some cs, some n, some ob => match rowsAt ob.sz ob.rows p with
      | some (sz', Q) =>
        if sz' = sz ∧ cs.length = n ∧ row < Q.length ∧ off + n ≤ sz ∧ noOwns (((Q.getD row []).drop off).take n) = true ∧ ((ob.kind.isBox = true ∧ p = []) ∨ nrR cs = true) then
          some (setRows σ r p (Q.set row (setRange (Q.getD row []) off cs))) else storeM P σ t x v
      | none => none
    | _, _, _ => none
  | _, _ => none
def byteRows (s : ByteArray) : List (List C) := s.data.toList.map fun b => [.v (.int .u8 b.toNat)]
def convS (P : Program) (σ : St) (dst : Option Tmp) (t u : TypeId) (v : V) : Option St :=
  match tyElem P u, v with
  | some e, .x (.one (.v (.string s))) => match dst, P.underlying t, P.underlying e with
    | some N, some .string, some (.int .u8) => if fresh σ N = true ∧ s.size ≤ 281474976710656 then some (put (newSt σ N ⟨.sl, 1, byteRows s⟩) dst (slV σ N 1 s.size)) else none
    | _, _, _ => none
  | _, _ => (convV P σ.o t u v).map (put σ dst)
def stepO (P : Program) (σ : St) (o : Oper) : Option St :=
  match o.op with
  | .box _ x => boxS σ o.dst (ev σ x)
  | .alloc t => allocS P σ o.dst t
  | .makeSlice t l c => makeS P σ o.dst t (ev σ l) (ev σ c)
  | .store t x y => (storeS P σ t (ev σ x) (ev σ y)).map fun σ' => put σ' o.dst (.x (.one .bad))
  | .call { callee := .builtin .append, args := as, argTypes := ats } => match as.toList, ats.toList with
    | [x, y], [t, tx] => appendO P σ o.dst t tx (ev σ x) (ev σ y)
    | _, _ => none
  | .build t parts => (buildV P t (parts.toList.map fun p => (p.1, ev σ p.2))).map (put σ o.dst)
  | .buildSlice t n parts => buildO P σ o.dst t n (parts.toList.map fun p => (p.1, ev σ p.2))
  | .convert t u x => convS P σ o.dst t u (ev σ x)
  | _ => (opV P σ o).map (put σ o.dst)
def viewV (o : Store) : V → Option X
  | .x x => viewX o x
  | _ => none
def viewVs (o : Store) : List V → Option (List X)
  | [] => some []
  | v :: vs => match viewV o v, viewVs o vs with
    | some x, some xs => some (x :: xs)
    | _, _ => none
def callW (P : Program) (o : Oper) (f : FuncId) (as : List Operand) (σ : St) (K : St → Prop) : Prop :=
  match o.dst with
  | some N => ∃ xs ret, viewVs σ.o (as.map (ev σ)) = some xs ∧ PureFn P f xs ret ∧ poR (retRow ret) = true ∧ freshR σ.l (newRoots σ.d N 0 (retRow ret)) = true ∧
      K (put (impSt σ N ret) o.dst (packT (impXs σ.d N 0 ret)))
  | none => False
def SemStep (P : Program) (o : Oper) (σ : St) (K : St → Prop) : Prop := ∀ (g0 : Gh) (w0 : World) [Tb P g0 w0] (g : Gh) (a : Act) (w : World) (N : Act → World → Prop) (Q : Exit → Act → World → Prop),
  Rel g0 w0 σ g a w → (∀ σ' g' a' w', K σ' → Rel g0 w0 σ' g' a' w' → N a' w') → o.wp P a w N Q
def wop : OpW := fun P o σ K =>
  match o.op with
  | .call { callee := .value (.func f), args := as, argTypes := _ } => callW P o f as.toList σ K ∨ SemStep P o σ K
  | .makeMap _ _ => SemStep P o σ K
  | .lookup _ _ _ _ => SemStep P o σ K
  | .mapUpdate _ _ _ _ => SemStep P o σ K
  | .alloc t => if bldT P t = true then SemStep P o σ K else ∃ σ', stepO P σ o = some σ' ∧ K σ'
  | _ => ∃ σ', stepO P σ o = some σ' ∧ K σ'
section
variable {P : Program} {w w0 w' : World} {g g0 gr : Gh} {σ : St} {a : Act}
theorem cellOk_refOr {c : C} (h : cellOk c = true) : refOr c = true := by
  cases c <;> first | rfl | cases h
theorem getA_newSt (σ : St) (N : Nat) (ob : Obj') : getA (newSt σ N ob).o (σ.d, N * 64) = some ob := by
  show (if (σ.d, N * 64) = (σ.d, N * 64) then some ob else _) = _
  rw [if_pos rfl]
theorem ptV_rel {w : World} (σ : St) (N sz b : Nat) (row : List C) (k : Kind) (g : Gh) (hb : g.G (σ.d, N * 64) [] = some b) :
    VR w (newSt σ N ⟨k, sz, [row]⟩).o g (ptV σ N sz) (.pointer (some ⟨b, 0, none⟩)) :=
  ⟨[row], b, ⟨_, getA_newSt σ N _, rfl⟩, by simp, hb, by simp⟩
theorem boxS_run (h : Rel g0 w0 σ g a w) {dst : Option Tmp} {v : V} {σ' : St} {y : Value} (hs : boxS σ dst v = some σ') (hv : VR w σ.o g v y) (e : TypeId) :
    ∃ z w1 g1, (Instr.box e y).run P w = .ok z w1 ∧ Rel g0 w0 σ' g1 (a.put dst z) w1 := by
  unfold boxS at hs
  split at hs
  · rename_i N x
    split at hs
    · rename_i cs hcs
      split at hs
      · rename_i hf
        cases hs
        obtain ⟨h1, h2, h3⟩ := cellsX_rel hcs hv
        have hfr : getA σ.l (σ.d, N * 64) = none := by simpa [fresh] using hf
        obtain ⟨r1, r2⟩ := h.new (N * 64) .box cs.length [cs] y.cells e hfr (by
            simp only [okObj, List.all_cons, List.all_nil, Bool.and_true, List.all_eq_true]
            intro c hc
            obtain ⟨j, hj, rfl⟩ := List.getElem_of_mem hc
            have := h3 j hj
            rw [List.getD_eq_getElem?_getD, List.getElem?_eq_getElem hj] at this
            exact cellOk_refOr this)
          (fun i hi => by obtain rfl : i = 0 := by simp at hi; omega
                          rfl) (by simp; rw [← h1]; simp) (fun i j hi hj => by
            obtain rfl : i = 0 := by simp at hi; omega
            have := h2 j hj
            rw [getD_flat _ _ (by rw [← h1] at hj; simpa using hj)] at this
            simpa [cellAt] using this)
        refine ⟨_, _, _, by simp only [Instr.box, newVar, newRow, newObj, Sem.run_bind, Sem.run, Result.andThen_ok, Sem.run_pure]; rfl, (r1.put (some N) (v := ptV σ N cs.length) (y := .pointer (some ⟨w.heap.size, 0, none⟩)) ?_)⟩
        exact ptV_rel σ N _ _ _ _ _ (by simp [Gh.new])
      · cases hs
    · cases hs
  · cases hs
theorem allocS_run (h : Rel g0 w0 σ g a w) {dst : Option Tmp} {t : TypeId} {σ' : St} (hs : allocS P σ dst t = some σ') :
    ∃ z w1 g1, (Instr.alloc t true (.tuple #[])).run P w = .ok z w1 ∧ Rel g0 w0 σ' g1 (a.put dst z) w1 := by
  unfold allocS at hs
  split at hs
  · rename_i N zs hz
    split at hs
    · rename_i hf
      cases hs
      simp only [tyZero, Option.map_eq_some_iff, Option.bind_eq_some_iff] at hz
      obtain ⟨z, ⟨i, hi, hiz⟩, rfl⟩ := hz
      have hfr : getA σ.l (σ.d, N * 64) = none := by simpa [fresh] using hf
      have hrun : (zeroValue t).run P w = .ok z w := by simp [zeroValue, typeInfo, program, hi, hiz, Sem.run]
      obtain ⟨r1, r2⟩ := h.new (N * 64) .box z.cells.toList.length [z.cells.toList.map .v] z.cells t hfr (by simp [okObj, refOr, nr])
          (fun i hi => by obtain rfl : i = 0 := by simp at hi; omega
                          simp) (by simp) (fun i j hi hj => by
            obtain rfl : i = 0 := by simp at hi; omega
            have hj' : j < z.cells.size := by simpa using hj
            show CR w σ.o g none (((z.cells.toList.map C.v)).getD j .bad) _
            simp [List.getD_eq_getElem?_getD, CR, hj', Array.getD])
      refine ⟨_, _, _, ?_, (r1.put (some N) (v := ptV σ N z.cells.toList.length) (y := .pointer (some ⟨w.heap.size, 0, none⟩)) ?_)⟩
      · simp only [Instr.alloc, Sem.run_bind, hrun, Result.andThen_ok, newVar, newRow, newObj, Sem.run, Sem.run_pure]; rfl
      · exact ptV_rel σ N _ _ _ _ _ (by simp [Gh.new])
    · cases hs
  · cases hs
theorem run_askRoom (n : Nat) (w : World) : (askRoom n).run P w = .ok () w := by
  unfold askRoom; split <;> rfl
theorem wrap_fit {n : Int} (h0 : 0 ≤ n) (h1 : n ≤ 9223372036854775807) : IntKind.i64.wrap n = n := by
  rw [IntKind.wrap_i64]; omega
theorem makeS_run (h : Rel g0 w0 σ g a w) {dst : Option Tmp} {t : TypeId} {l c : V} {σ' : St} {y z : Value} (hs : makeS P σ dst t l c = some σ') (hl : VR w σ.o g l y) (hc : VR w σ.o g c z) :
    ∃ u w1 g1, (Instr.makeSlice t y z).run P w = .ok u w1 ∧ Rel g0 w0 σ' g1 (a.put dst u) w1 := by
  unfold makeS at hs
  split at hs
  · rename_i N e n m he hn hm
    obtain rfl := plain_eq hn hl
    obtain rfl := plain_eq hm hc
    split at hs
    · rename_i zs s b hz hsz hb
      split at hs
      · rename_i hcond
        obtain ⟨hf, rfl, hs0, h0, h1, h2, h3⟩ := hcond
        cases hs
        simp only [tyZero, Option.map_eq_some_iff, Option.bind_eq_some_iff] at hz
        obtain ⟨v, ⟨i, hi, hiz⟩, rfl⟩ := hz
        simp only [tyBytes, hi, Option.map_some, Option.some.injEq] at hb
        subst hb
        have hfr : getA σ.l (σ.d, N * 64) = none := by simpa [fresh] using hf
        have hrun : (zeroValue e).run P w = .ok v w := by simp [zeroValue, typeInfo, program, hi, hiz, Sem.run]
        have hti : (typeInfo e).run P w = .ok i w := by simp [typeInfo, program, hi, Sem.run]
        obtain ⟨n, rfl⟩ := Int.eq_ofNat_of_zero_le h0
        obtain ⟨m, rfl⟩ := Int.eq_ofNat_of_zero_le (show 0 ≤ m by omega)
        have hvs : v.cells.toList.length = v.cells.size := Array.length_toList
        have wn := wrap_fit h0 (by omega)
        have wm := wrap_fit (show (0 : Int) ≤ m by omega) h2
        let cells : Array Value := (Array.range (m * v.cells.size)).map (v.cells[· % v.cells.size]!)
        have hcz : cells.size = m * v.cells.size := by simp [cells]
        have hm2 : (Instr.makeSlice t (.int .i64 n) (.int .i64 m)).run P w = .ok (.slice (some ⟨w.heap.size, 0, none⟩) n m) (w.alloc (.cells cells e)) := by
          have d1 : decide ((n : Int) < 0) = false := by simp
          have hts := tySz_run hsz
          simp only [hvs] at hts
          simp only [Instr.makeSlice, Sem.run_bind, run_underlying (tyElem_spec he), Result.andThen_ok, asInt, asIntOf, Sem.run_pure, hti, wn, wm]
          rw [if_neg (by simp; omega)]
          simp only [Sem.run_bind, run_askRoom, Result.andThen_ok, hts, Int.toNat_natCast]
          by_cases hmz : m * v.cells.size = 0
          · simp only [hmz, if_true, Sem.run_pure, Result.andThen_ok, newRow, newObj, Sem.run_bind, Sem.run]
            have : cells = #[] := by simp [cells, hmz]
            have h0' : ∀ f : Nat → Value, (Array.range 0).map f = #[] := fun f => by simp
            rw [this, h0']; rfl
          · simp only [if_neg hmz, Sem.run_bind, hrun, Result.andThen_ok, Sem.run_pure, newRow, newObj, Sem.run]; rfl
        have hnm : n ≤ m := by omega
        have hgetr : ∀ i, i < n → (List.replicate n (v.cells.toList.map C.v)).getD i [] = v.cells.toList.map C.v := fun i hi => by
          simp [List.getD_eq_getElem?_getD, hi]
        obtain ⟨r1, r2⟩ := h.new (N * 64) .sl v.cells.toList.length (List.replicate n (v.cells.toList.map .v)) cells e hfr (by
            simp only [okObj]
            have hrow : ∀ l : List Value, nrR (l.map .v) = true := fun l => by induction l <;> simp_all [nrR, nr]
            have : ∀ n, nrRR (List.replicate n (v.cells.toList.map .v)) = true := fun n => by
              induction n with
              | zero => rfl
              | succ n ih => simp [List.replicate_succ, nrRR, ih, hrow]
            exact this n)
          (fun i hi => by rw [hgetr i (by simpa using hi)]; simp) (by rw [hcz]; simp; exact Nat.mul_le_mul_right _ hnm) (fun i j hi hj => by
            simp only [List.length_replicate] at hi
            have hj' : j < v.cells.size := by simpa using hj
            unfold cellAt
            rw [hgetr i hi]
            have hlt : i * v.cells.toList.length + j < m * v.cells.size := by
              have : (i + 1) * v.cells.size ≤ m * v.cells.size := Nat.mul_le_mul_right _ (by omega)
              rw [Nat.add_mul, Nat.one_mul] at this
              rw [hvs]; omega
            have hmod : (i * v.cells.size + j) % v.cells.size = j := by
              rw [Nat.add_comm, Nat.add_mul_mod_self_right, Nat.mod_eq_of_lt hj']
            have hlt2 : i * v.cells.toList.length + j < cells.size := by rw [hcz]; exact hlt
            have hval : cells.getD (i * v.cells.toList.length + j) undef = v.cells[j] := by
              rw [show cells.getD (i * v.cells.toList.length + j) undef = cells[i * v.cells.toList.length + j] from dif_pos hlt2]
              simp only [cells, Array.getElem_map, Array.getElem_range, hvs, hmod]
              exact getElem!_pos v.cells j hj'
            rw [hval]
            simp [List.getD_eq_getElem?_getD, hj', CR])
        refine ⟨_, _, _, hm2, r1.put (some N) (v := slV σ N v.cells.toList.length n) (y := .slice (some ⟨w.heap.size, 0, none⟩) n m) ?_⟩
        refine ⟨List.replicate n (v.cells.toList.map .v), ⟨_, getA_newSt σ N _, rfl⟩, by simp, ?_⟩
        have hG : (g.new (σ.d, N * 64) w.heap.size).G (σ.d, N * 64) [] = some w.heap.size := by simp [Gh.new]
        unfold SlAt
        rw [hG]
        exact ⟨_, m, rfl, rfl, hnm, by unfold maxLen; omega, fun _ => by simp, fun _ => ⟨rfl, cells, e, (0, 0), heap_alloc_new w _, by rw [hcz, hvs]⟩, fun _ => ⟨cells, e, (0, 0), heap_alloc_new w _, by rw [hcz, hvs, Nat.zero_add]⟩⟩
      · cases hs
    · cases hs
  · cases hs
end
end Go.Rx
namespace Go.Rx
open Go.RowKit
theorem nrR_all (cs : List C) : nrR cs = cs.all nr := by induction cs <;> simp_all [nrR]
theorem nrR_setRange {row cs : List C} {off : Nat} (h : nrR row = true) (h' : nrR cs = true) : nrR (setRange row off cs) = true := by
  rw [nrR_all, List.all_eq_true] at *
  intro c hc
  simp only [setRange, List.append_assoc, List.mem_append] at hc
  rcases hc with hc | hc | hc
  · exact h c (List.mem_of_mem_take hc)
  · exact h' c hc
  · exact h c (List.mem_of_mem_drop hc)
theorem nrRR_set {R : List (List C)} {i : Nat} {row : List C} (h : nrRR R = true) (h' : nrR row = true) : nrRR (R.set i row) = true := by
  rw [nrRR_all, List.all_eq_true] at *
  intro r hr
  rcases List.mem_or_eq_of_mem_set hr with hr | rfl
  · exact h r hr
  · exact h'
theorem nrRR_row {R : List (List C)} (h : nrRR R = true) (i : Nat) : nrR (R.getD i []) = true := by
  rw [nrRR_all, List.all_eq_true] at h
  rw [List.getD_eq_getElem?_getD]
  cases hi : R[i]? with
  | none => rfl
  | some r => exact h r (List.mem_of_getElem? hi)
theorem nrR_setC {row : List C} {j : Nat} {c : C} (h : nrR row = true) (h' : nr c = true) : nrR (row.set j c) = true := by
  rw [nrR_all, List.all_eq_true] at *
  intro r hr
  rcases List.mem_or_eq_of_mem_set hr with hr | rfl
  · exact h r hr
  · exact h'
theorem nrRR_updAt {Q' : List (List C)} (hQ : nrRR Q' = true) : ∀ (p : Path) (R : List (List C)), nrRR R = true → nrRR (updAt R p Q') = true
  | [], _, _ => hQ
  | (i, j) :: p, R, h => by
    simp only [updAt]
    split
    · rename_i sz Q hc
      obtain ⟨h1, h2, h3⟩ := bind_cell hc
      have := nrRR_get h i j
      rw [h3] at this
      exact nrRR_set h (nrR_setC (nrRR_row h i) (by simp only [nr]; exact nrRR_updAt hQ p Q (by simpa [nr] using this)))
    · exact h
theorem refOr_of_nr {c : C} (h : nr c = true) : refOr c = true := by cases c <;> first | rfl | exact h
theorem okObj_upd {ob : Obj'} {p : Path} {sz row off : Nat} {Q : List (List C)} {cs : List C} (h : okObj ob = true) (hR : rowsAt ob.sz ob.rows p = some (sz, Q)) (hcs : ∀ c ∈ cs, refOr c = true)
    (hc : (ob.kind = .box ∧ p = []) ∨ nrR cs = true) : okObj { ob with rows := updAt ob.rows p (Q.set row (setRange (Q.getD row []) off cs)) } = true := by
  obtain ⟨k, s, rows⟩ := ob
  simp only [okObj] at h hR hc ⊢
  have nested : ∀ (p : Path) (s : Nat) (R : List (List C)), nrRR R = true → rowsAt s R p = some (sz, Q) → nrR cs = true → nrRR (updAt R p (Q.set row (setRange (Q.getD row []) off cs))) = true := fun p s R hn hr hcs =>
    nrRR_updAt (nrRR_set (nrRR_rowsAt hn hr) (nrR_setRange (nrRR_row (nrRR_rowsAt hn hr) row) hcs)) p R hn
  cases k with
  | vr => exact h
  | mp b es =>
    have h0 : rows = [] := by simpa using h
    subst h0
    cases p with
    | nil =>
      simp only [rowsAt, Option.some.injEq, Prod.mk.injEq] at hR
      obtain ⟨rfl, rfl⟩ := hR
      simp [updAt]
    | cons q p =>
      obtain ⟨a, b⟩ := q
      simp [rowsAt] at hR
  | bl T e b rw' s' =>
    have h0 : rows = [] := by simpa using h
    subst h0
    cases p with
    | nil =>
      simp only [rowsAt, Option.some.injEq, Prod.mk.injEq] at hR
      obtain ⟨rfl, rfl⟩ := hR
      simp [updAt]
    | cons q p =>
      obtain ⟨a, b⟩ := q
      simp [rowsAt] at hR
  | sl =>
    rcases hc with ⟨e, _⟩ | hc
    · cases e
    · exact nested p s rows h hR hc
  | box =>
    simp only [List.all_eq_true] at h ⊢
    cases p with
    | nil =>
      simp only [rowsAt, Option.some.injEq, Prod.mk.injEq] at hR
      obtain ⟨rfl, rfl⟩ := hR
      simp only [updAt]
      intro r hr c hcr
      rcases List.mem_or_eq_of_mem_set hr with hr | rfl
      · exact h r hr c hcr
      · have hrow : ∀ c ∈ rows.getD row [], refOr c = true := fun c hc => by
          rw [List.getD_eq_getElem?_getD] at hc
          cases hi : rows[row]? with
          | none => simp [hi] at hc
          | some r => rw [hi] at hc; exact h r (List.mem_of_getElem? hi) c hc
        simp only [setRange, List.append_assoc, List.mem_append] at hcr
        rcases hcr with hc' | hc' | hc'
        · exact hrow c (List.mem_of_mem_take hc')
        · exact hcs c hc'
        · exact hrow c (List.mem_of_mem_drop hc')
    | cons x p =>
      obtain ⟨i, j⟩ := x
      rcases hc with ⟨_, e⟩ | hc
      · cases e
      · simp only [rowsAt] at hR
        split at hR
        · rename_i s1 Q1 hb
          obtain ⟨h1, h2, h3⟩ := bind_cell hb
          simp only [updAt, hb]
          intro r hr c hcr
          rcases List.mem_or_eq_of_mem_set hr with hr | rfl
          · exact h r hr c hcr
          · have hmem : rows.getD i [] ∈ rows := by rw [List.getD_eq_getElem?_getD, List.getElem?_eq_getElem h1]; exact List.getElem_mem h1
            rcases List.mem_or_eq_of_mem_set hcr with hc' | rfl
            · exact h _ hmem c hc'
            · have hown : C.own s1 Q1 ∈ rows.getD i [] := by
                rw [← h3]; unfold cellAt
                rw [List.getD_eq_getElem?_getD (l := rows.getD i []), List.getElem?_eq_getElem h2]; exact List.getElem_mem h2
              have := h _ hmem _ hown
              simp only [refOr, nr] at this ⊢
              exact nested p s1 Q1 this hR hc
        · cases hR
section
variable {P : Program} {w w0 w' : World} {g g0 gr : Gh} {σ : St} {a : Act}
theorem scalar_one {v : Value} (h : scalar v = true) : v.oneCell' = true := by cases v <;> first | rfl | cases h
theorem CR.blank {o : Store} {c : C} {y : Value} (h : CR w o g none c y) : CR w o g none (Rx.blank c) y := by
  cases c <;> first | exact h | trivial
theorem adoptL_run {r : Root} {row : Nat} {σ' : St} : ∀ (cs : List C) (j : Nat) (σ : St) (gh : Gh), Rel g0 w0 σ gh a w →
    (∃ m R, getA σ.l r = some ⟨.sl, m, R⟩ ∧ row < R.length ∧ (R.getD row []).length = m ∧ j + cs.length ≤ m ∧ ∀ k r' p' s off len, k < cs.length → cs.getD k .bad = .rs r' p' s off len → cellAt R row (j + k) = .bad ∧
      (r ≠ r' → (getA σ.l r').isSome = true → ∀ b cells e f, gh.G r [] = some b → w.heap[b]? = some (.cells cells e f) → SlAt gh w r' p' s off len (cells.getD (row * m + (j + k)) undef))) →
    adoptL r row j cs σ = some σ' → ∃ gh', Rel g0 w0 σ' gh' a w
  | [], j, σ, gh, h, _, hs => by
    simp only [adoptL, Option.some.injEq] at hs
    subst hs
    exact ⟨gh, h⟩
  | c :: cs, j, σ, gh, h, ⟨m, R, hob, hrow, hrl, hlen, hall⟩, hs => by
    have step : ∀ k r' p' s off len, k < cs.length → cs.getD k .bad = .rs r' p' s off len → cellAt R row (j + 1 + k) = .bad ∧
        (r ≠ r' → (getA σ.l r').isSome = true → ∀ b cells e f, gh.G r [] = some b → w.heap[b]? = some (.cells cells e f) → SlAt gh w r' p' s off len (cells.getD (row * m + (j + 1 + k)) undef)) := fun k r' p' s off len hk hc => by
      have := hall (k + 1) r' p' s off len (by simpa using hk) (by simpa using hc)
      rwa [show j + (k + 1) = j + 1 + k by omega] at this
    simp only [List.length_cons] at hlen
    have skip : adoptL r row (j + 1) cs σ = some σ' → ∃ gh', Rel g0 w0 σ' gh' a w := fun hs => adoptL_run cs (j + 1) σ gh h ⟨m, R, hob, hrow, hrl, by omega, step⟩ hs
    cases c with
    | rs r' p' s off len =>
      simp only [adoptL] at hs
      split at hs
      · rename_i s' R' m2 R2 hob' hob2
        rw [hob] at hob2
        cases hob2
        split at hs
        · rename_i hc
          obtain ⟨rfl, rfl, rfl, rfl, hne, hdr⟩ := hc
          obtain ⟨t, d, l, gs⟩ := σ
          have hk := Rel.kill r' h
          have hobK : getA (killL r' l) r = some ⟨.sl, m, R⟩ := by
            have hob3 : getA l r = some ⟨.sl, m, R⟩ := hob
            rw [getA_killL, hob3]; rfl
          have hobK' : getA (killL r' l) r' = some ⟨.sl, s', R'⟩ := by
            have hob3 : getA l r' = some ⟨.sl, s', R'⟩ := hob'
            rw [getA_killL, hob3]; rfl
          have h2 : Rel g0 w0 ⟨t.map (killV r'), d, delA (killL r' l) r', gs⟩ gh a w := Rel.drop (T2_kill r' t) (fun r1 ob1 hg => by
            rw [getA_delA] at hg
            split at hg
            · cases hg
            · exact hg) hdr hk
          obtain ⟨hbad, hm⟩ := hall 0 r' [] s' 0 R'.length (by simp) rfl
          have hm' := hm hne (by have hob3 : getA l r' = some ⟨.sl, s', R'⟩ := hob'; rw [hob3]; rfl)
          have h3 := Rel.adoptCell hk hobK hobK' hne h2 hrow (j := j) (by omega) hrl hbad (fun b cells e f hb hcl => hm' b cells e f hb hcl)
          have hjr : j < (R.getD row []).length := by rw [hrl]; omega
          refine adoptL_run cs (j + 1) _ _ h3 ⟨m, setCell R row j (.own s' R'), ?_, by rw [setCell_length]; exact hrow, by rw [setCell_row]; exact hrl, by omega, fun k r2 p2 s2 off2 len2 hk2 hc2 => ?_⟩ hs
          · show getA (setA (delA (killL r' l) r') r _) r = _
            rw [getA_setA, if_pos rfl, getA_delA, if_neg (Ne.symm hne), hobK]; rfl
          · obtain ⟨q1, q2⟩ := step k r2 p2 s2 off2 len2 hk2 hc2
            refine ⟨?_, fun hn2 hsome b cells e f hb hcl => ?_⟩
            · rw [setCell_cell R _ hrow hjr, if_neg (by omega)]; exact q1
            · have hs2 : (getA l r2).isSome = true := by
                have hsome' : (getA (setA (delA (killL r' l) r') r ⟨.sl, m, setCell R row j (.own s' R')⟩) r2).isSome = true := hsome
                rw [getA_setA, if_neg hn2, getA_delA] at hsome'
                split at hsome'
                · cases hsome'
                · rw [getA_killL, Option.isSome_map] at hsome'; exact hsome'
              have hb' : gh.G r [] = some b := by simpa [gh2] using hb
              refine SlAt.ren' ?_ (q2 hn2 hs2 b cells e f hb' hcl)
              exact if_neg (Ne.symm hn2)
        · cases hs
      · cases hs
    | pt _ _ _ _ _ => cases hs
    | v x => exact skip hs
    | sh s Q => exact skip hs
    | own s Q => exact skip hs
    | ps cs' => exact skip hs
    | bad => exact skip hs
theorem storeM_run (h : Rel g0 w0 σ g a w) {t : TypeId} {x v : V} {σ' : St} {y z : Value} (hs : storeM P σ t x v = some σ') (hx : VR w σ.o g x y) (hv : VR w σ.o g v z) :
    ∃ w1 g1, (Instr.storeAt t y z).run P w = .ok () w1 ∧ Rel g0 w0 σ' g1 a w1 := by
  unfold storeM at hs
  split at hs
  · rename_i r sz row off vx
    split at hs
    · rename_i cs n m Q hcs hn hob
      split at hs
      · rename_i hc
        obtain ⟨rfl, rfl, hrow, hoff, hno, hnr⟩ := hc
        obtain ⟨R, b, hl, hlt, hb, rfl⟩ := hx
        have hobo : getA σ.o r = some ⟨.sl, m, Q⟩ := by show getA (σ.l ++ σ.g) r = _; rw [getA_append, hob]
        have hlive : Live σ.o r [] m Q := ⟨_, hobo, rfl⟩
        obtain ⟨_, rfl⟩ := Live.unique hlive hl
        obtain ⟨h1, h2, h3⟩ := cellsX_rel hcs hv
        obtain ⟨_, hlen, cells, e, f, hblk, hthaw, hsize, _⟩ := h.heap.rows r [] m Q b hlive hb
        have hmul : (row + 1) * m ≤ Q.length * m := Nat.mul_le_mul_right _ (by omega)
        rw [Nat.add_mul, Nat.one_mul] at hmul
        have hbl : (cs.map blank).length = cs.length := by simp
        have hget : ∀ j, j < cs.length → (cs.map blank).getD j .bad = blank (cs.getD j .bad) := fun j hj => by
          simp [List.getD_eq_getElem?_getD, List.getElem?_map, List.getElem?_eq_getElem hj]
        have hold : ∀ j, off ≤ j → j < off + (cs.map blank).length → ∀ m K, cellAt Q row j ≠ .own m K := by
          rw [hbl]
          intro j hj1 hj2 m K he
          simp only [noOwns, List.all_eq_true] at hno
          have hmem : C.own m K ∈ ((Q.getD row []).drop off).take cs.length := by
            have hjl : j < (Q.getD row []).length := by rw [hlen row hrow]; omega
            rw [List.mem_iff_getElem?]
            refine ⟨j - off, ?_⟩
            rw [List.getElem?_take, if_pos (by omega), List.getElem?_drop, show off + (j - off) = j by omega, List.getElem?_eq_getElem hjl, ← he]
            unfold cellAt
            rw [List.getD_eq_getElem?_getD (l := Q.getD row []), List.getElem?_eq_getElem hjl]; rfl
          have := hno _ hmem
          simp at this
        have nrAll : ∀ cs : List C, nrR cs = cs.all nr := fun cs => by induction cs <;> simp_all [nrR]
        have hrefs : ∀ c ∈ cs.map blank, refOr c = true := fun c hc => by
          rw [nrAll, List.all_eq_true] at hnr
          exact refOr_of_nr (hnr c hc)
        obtain ⟨r1, hgo⟩ := h.store (off := off) (cs := cs.map blank) (ys := z.cells.toList) hlive hb hrow (by rw [hbl]; exact hoff) hold
          (fun ob' hob' => by rw [hobo] at hob'; cases hob'; exact okObj_upd (ob := ⟨.sl, m, Q⟩) (p := []) (h.obj r _ hobo) rfl hrefs (.inr hnr)) (by rw [hbl]; exact h1)
          (fun j hj => by rw [hbl] at hj; rw [hget j hj]; exact CR.blank (h2 j hj))
        have hset : setRows σ r [] (Q.set row (setRange (Q.getD row []) off (cs.map blank))) = ⟨σ.t, σ.d, setA σ.l r ⟨.sl, m, Q.set row (setRange (Q.getD row []) off (cs.map blank))⟩, σ.g⟩ := by
          unfold setRows; rw [hob]; rfl
        rw [hset] at r1 hgo
        have hvs : z.cells.size = cs.length := by rw [← h1]; simp
        have hst := run_storeCells_cells (P := P) b (row * m + off) z.cells.toList 0 w (fun j hj => by
            rw [h1] at hj
            rw [Nat.add_zero, cell_of_block hblk (by omega)]; rfl) (fun j hj => by
            rw [h1] at hj
            have := hthaw (row * m + off + j) (by omega)
            simp only [World.frozen?, hblk, Nat.add_zero]
            simpa using this) (fun v hv => by
            obtain ⟨j, hj, rfl⟩ := List.getElem_of_mem hv
            have hj' : j < cs.length := by rw [← h1]; exact hj
            have := CR.scalar (h3 j hj') (h2 j hj')
            rw [List.getD_eq_getElem?_getD, List.getElem?_eq_getElem hj] at this
            exact scalar_one this)
        obtain ⟨cells', hb', hcs', hval⟩ := setCells_block b z.cells.toList (row * m + off) w cells e f hblk (by rw [h1]; omega)
        have hrl := hlen row hrow
        have hrl2 : ((Q.set row (setRange (Q.getD row []) off (cs.map blank))).getD row []) = setRange (Q.getD row []) off (cs.map blank) := by
          rw [List.getD_eq_getElem?_getD, List.getElem?_set_self hrow]; rfl
        have hsrl : (setRange (Q.getD row []) off (cs.map blank)).length = m := by
          simp only [setRange, List.length_append, List.length_take, List.length_drop, hbl, hrl]; omega
        have hall : ∀ k r' p' s off' len, k < cs.length → cs.getD k .bad = .rs r' p' s off' len → cellAt (Q.set row (setRange (Q.getD row []) off (cs.map blank))) row (off + k) = .bad ∧
            (r ≠ r' → (getA (setA σ.l r ⟨.sl, m, Q.set row (setRange (Q.getD row []) off (cs.map blank))⟩) r').isSome = true → ∀ b2 cells2 e2 f2, g.G r [] = some b2 → (w.setCells b (row * m + off) z.cells.toList).heap[b2]? = some (.cells cells2 e2 f2) →
              SlAt g (w.setCells b (row * m + off) z.cells.toList) r' p' s off' len (cells2.getD (row * m + (off + k)) undef)) := fun k r' p' s off' len hk hck => by
          refine ⟨?_, fun hne hsome b2 cells2 e2 f2 hb2 hcl2 => ?_⟩
          · unfold cellAt
            rw [hrl2]
            have : (setRange (Q.getD row []) off (cs.map blank)).getD (off + k) .bad = blank (cs.getD k .bad) := by
              rw [← hget k hk]
              simp only [setRange, List.append_assoc]
              rw [List.getD_eq_getElem?_getD, List.getElem?_append_right (by simp only [List.length_take]; omega), List.length_take, Nat.min_eq_left (by rw [hrl]; omega), show off + k - off = k by omega, List.getElem?_append_left (by simpa using hk), ← List.getD_eq_getElem?_getD]
            rw [this, hck]; rfl
          · rw [hb] at hb2
            cases hb2
            rw [hb'] at hcl2
            cases hcl2
            have hv1 := hval (row * m + (off + k))
            rw [if_pos (by rw [h1]; omega), show row * m + (off + k) - (row * m + off) = k by omega] at hv1
            rw [hv1]
            have hc2 := CR.goes hgo (h2 k hk)
            rw [hck] at hc2
            obtain ⟨_, _, _, hsl⟩ := hc2
            exact hsl
        obtain ⟨g1, hfin⟩ := adoptL_run cs off _ g r1 ⟨m, Q.set row (setRange (Q.getD row []) off (cs.map blank)), by rw [getA_setA, if_pos rfl, hob]; rfl, by simpa using hrow, by rw [hrl2, hsrl], by omega, hall⟩ hs
        refine ⟨_, g1, ?_, hfin⟩
        simp only [Instr.storeAt, Instr.sureAddr, storeVar, Sem.run_bind, Sem.run_pure, Result.andThen_ok, tySz_run hn, hvs, ne_eq, not_true, if_false, hst, Nat.add_zero]
      · cases hs
    · cases hs
  · cases hs
theorem storeS_run (h : Rel g0 w0 σ g a w) {t : TypeId} {x v : V} {σ' : St} {y z : Value} (hs : storeS P σ t x v = some σ') (hx : VR w σ.o g x y) (hv : VR w σ.o g v z) :
    ∃ w1 g1, (Instr.storeAt t y z).run P w = .ok () w1 ∧ Rel g0 w0 σ' g1 a w1 := by
  unfold storeS at hs
  split at hs
  · rename_i r p sz row off vx
    split at hs
    · rename_i cs n ob hcs hn hob
      split at hs
      · rename_i sz' Q hQ
        split at hs
        · rename_i hc
          obtain ⟨rfl, rfl, hrow, hoff, hno, hok⟩ := hc
          cases hs
          obtain ⟨R, b, hl, hlt, hb, rfl⟩ := hx
          have hlive : Live σ.o r p sz' Q := ⟨ob, hob, hQ⟩
          obtain ⟨_, rfl⟩ := Live.unique hlive hl
          obtain ⟨h1, h2, h3⟩ := cellsX_rel hcs hv
          obtain ⟨_, hlen, cells, e, f, hblk, hthaw, hsize, _⟩ := h.heap.rows r p sz' Q b hlive hb
          have hmul : (row + 1) * sz' ≤ Q.length * sz' := Nat.mul_le_mul_right _ (by omega)
          rw [Nat.add_mul, Nat.one_mul] at hmul
          have hold : ∀ j, off ≤ j → j < off + cs.length → ∀ m K, cellAt Q row j ≠ .own m K := by
            intro j hj1 hj2 m K he
            simp only [noOwns, List.all_eq_true] at hno
            have hmem : C.own m K ∈ ((Q.getD row []).drop off).take cs.length := by
              have hjl : j < (Q.getD row []).length := by rw [hlen row hrow]; omega
              rw [List.mem_iff_getElem?]
              refine ⟨j - off, ?_⟩
              rw [List.getElem?_take, if_pos (by omega), List.getElem?_drop, show off + (j - off) = j by omega, List.getElem?_eq_getElem hjl, ← he]
              unfold cellAt
              rw [List.getD_eq_getElem?_getD (l := Q.getD row []), List.getElem?_eq_getElem hjl]; rfl
            have := hno _ hmem
            simp at this
          have hrefs : ∀ c ∈ cs, refOr c = true := fun c hc => by
            obtain ⟨j, hj, rfl⟩ := List.getElem_of_mem hc
            have := h3 j hj
            rw [List.getD_eq_getElem?_getD, List.getElem?_eq_getElem hj] at this
            exact cellOk_refOr this
          obtain ⟨r1, _⟩ := h.store (off := off) (ys := z.cells.toList) hlive hb hrow hoff hold
            (fun ob' hob' => by rw [hob] at hob'; cases hob'; exact okObj_upd (h.obj r ob hob) hQ hrefs (hok.imp (fun ⟨e1, e2⟩ => ⟨Kind.isBox_eq e1, e2⟩) id)) h1 h2
          refine ⟨_, g, ?_, r1⟩
          have hvs : z.cells.size = cs.length := by rw [← h1]; simp
          have hst := run_storeCells_cells (P := P) b (row * sz' + off) z.cells.toList 0 w (fun j hj => by
              rw [h1] at hj
              rw [Nat.add_zero, cell_of_block hblk (by omega)]; rfl) (fun j hj => by
              rw [h1] at hj
              have := hthaw (row * sz' + off + j) (by omega)
              simp only [World.frozen?, hblk, Nat.add_zero]
              simpa using this) (fun v hv => by
              obtain ⟨j, hj, rfl⟩ := List.getElem_of_mem hv
              have hj' : j < cs.length := by rw [← h1]; exact hj
              have := CR.scalar (h3 j hj') (h2 j hj')
              rw [List.getD_eq_getElem?_getD, List.getElem?_eq_getElem hj] at this
              exact scalar_one this)
          simp only [Instr.storeAt, Instr.sureAddr, storeVar, Sem.run_bind, Sem.run_pure, Result.andThen_ok, tySz_run hn, hvs, ne_eq, not_true, if_false, hst, Nat.add_zero]
        · exact storeM_run h hs hx hv
      · cases hs
    · cases hs
  · cases hs
theorem viewX_rel {x x' : X} {y : Value} (h : HeapRel w σ.o g) (hv : viewX σ.o x = some x') (hx : XR w σ.o g x y) : XR w [] (Sall w) x' y := by
  have cell : ∀ {c c' : C} {y : Value}, viewC σ.o c = some c' → CR w σ.o g none c y → CR w [] (Sall w) none c' y := fun hv hc =>
    CR.of_sh (g := Sall w) (viewC_rel h hv hc)
  cases x with
  | one c =>
    simp only [viewX, Option.map_eq_some_iff] at hv
    obtain ⟨c', h1, rfl⟩ := hv
    exact cell h1 hx
  | agg cs =>
    simp only [viewX, Option.map_eq_some_iff] at hv
    obtain ⟨cs', h1, rfl⟩ := hv
    obtain ⟨ys, rfl, hl, hc⟩ := hx
    have hlen : ∀ (cs cs' : List C), viewCs σ.o cs = some cs' → cs'.length = cs.length := by
      intro cs; induction cs with
      | nil => intro cs' h; simp only [viewCs, Option.some.injEq] at h; subst h; rfl
      | cons c cs ih =>
        intro cs' h
        simp only [viewCs] at h
        split at h
        · rename_i c1 cs1 e1 e2; cases h; simp [ih _ e2]
        · cases h
    have hget : ∀ (cs cs' : List C), viewCs σ.o cs = some cs' → ∀ j, j < cs.length → viewC σ.o (cs.getD j .bad) = some (cs'.getD j .bad) := by
      intro cs; induction cs with
      | nil => intro cs' _ j hj; simp at hj
      | cons c cs ih =>
        intro cs' h j hj
        simp only [viewCs] at h
        split at h
        · rename_i c1 cs1 e1 e2
          cases h
          cases j with
          | zero => simpa using e1
          | succ j => simpa using ih _ e2 j (by simpa using hj)
        · cases h
    have hll := hlen cs cs' h1
    exact ⟨ys, rfl, by rw [hll]; exact hl, fun j hj => cell (hget cs cs' h1 j (by omega)) (hc j (by omega))⟩
theorem viewVs_rel (h : Rel g0 w0 σ g a w) : ∀ (as : List Operand) (xs : List X), viewVs σ.o (as.map (ev σ)) = some xs →
    xs.length = as.length ∧ ∀ i, i < xs.length → XR w [] (Sall w) (xs.getD i (.one .bad)) ((as.map a.eval).getD i undef)
  | [], xs, hv => by
    simp only [List.map_nil, viewVs, Option.some.injEq] at hv
    subst hv
    exact ⟨rfl, fun i hi => absurd hi (Nat.not_lt_zero _)⟩
  | o :: as, xs, hv => by
    simp only [List.map_cons, viewVs] at hv
    split at hv
    · rename_i x xs' h1 h2
      cases hv
      obtain ⟨e1, e2⟩ := viewVs_rel h as xs' h2
      refine ⟨by simp [e1], fun i hi => ?_⟩
      cases i with
      | zero =>
        have hr := ev_rel h o
        generalize ev σ o = v at h1 hr
        cases v with
        | tup _ => simp [viewV] at h1
        | x x0 => exact viewX_rel h.heap h1 hr
      | succ i => simpa using e2 i (by simpa using hi)
    · cases hv
theorem partsOk_rel (h : Rel g0 w0 σ g a w) : ∀ (ps : List (Nat × Operand)) (i : Nat) (R : List (List C)), partsOk i (ps.map fun p => (p.1, ev σ p.2)) = some R →
    R.length = ps.length ∧ ∀ k, k < ps.length → ∃ v, (ps.map fun p => (p.1, a.eval p.2))[k]? = some (i + k, v) ∧ v.cells.toList.length = (R.getD k []).length ∧ ∀ j, j < (R.getD k []).length → CR w σ.o g none (cellAt R k j) (v.cells.toList.getD j undef)
  | [], i, R, hs => by
    simp only [List.map_nil, partsOk, Option.some.injEq] at hs
    subst hs
    exact ⟨rfl, fun k hk => absurd hk (Nat.not_lt_zero _)⟩
  | (i0, o) :: ps, i, R, hs => by
    simp only [List.map_cons] at hs
    have hr := ev_rel h o
    generalize ev σ o = v at hs hr
    cases v with
    | tup _ => simp [partsOk] at hs
    | x x =>
      simp only [partsOk] at hs
      split at hs
      · rename_i hi
        subst hi
        split at hs
        · rename_i cs R' hcs hR'
          cases hs
          obtain ⟨e1, e2⟩ := partsOk_rel h ps (i0 + 1) R' hR'
          obtain ⟨c1, c2, c3⟩ := cellsX_rel hcs hr
          refine ⟨by simp [e1], fun k hk => ?_⟩
          cases k with
          | zero => exact ⟨a.eval o, rfl, c1, fun j hj => c2 j hj⟩
          | succ k =>
            obtain ⟨v, k1, k2, k3⟩ := e2 k (by simpa using hk)
            refine ⟨v, ?_, k2, k3⟩
            rw [List.map_cons, List.getElem?_cons_succ, k1]
            congr 2; omega
        · cases hs
      · cases hs
theorem buildS_run (h : Rel g0 w0 σ g a w) {dst : Option Tmp} {t : TypeId} {n : Nat} {ps : Array (Nat × Operand)} {σ' : St} (hs : buildS P σ dst t n (ps.toList.map fun p => (p.1, ev σ p.2)) = some σ') :
    ∃ z w1 g1, (Instr.buildSlice t n (ps.map fun (i, x) => (i, a.eval x))).run P w = .ok z w1 ∧ Rel g0 w0 σ' g1 (a.put dst z) w1 := by
  unfold buildS at hs
  split at hs
  case h_2 => cases hs
  rename_i N e he
  split at hs
  case h_2 => cases hs
  rename_i zs sz R hz hsz hR
  split at hs
  case isFalse => cases hs
  rename_i hc
  obtain ⟨c1, c2, c3, c4, c5, c6, c7⟩ := hc
  cases hs
  obtain ⟨p1, p2⟩ := partsOk_rel h ps.toList 0 R hR
  have hrow : ∀ k, k < R.length → (R.getD k []).length = sz := fun k hk => by
    unfold sized at c6
    rw [List.all_eq_true] at c6
    have := c6 (R.getD k []) (by rw [List.getD_eq_getElem?_getD, List.getElem?_eq_getElem hk]; exact List.getElem_mem hk)
    simpa using this
  unfold tyZero at hz
  simp only [Option.map_eq_some_iff, Option.bind_eq_some_iff] at hz
  obtain ⟨zv, ⟨i, hi, hzv⟩, rfl⟩ := hz
  have hsi : i.size = sz := by
    unfold tySz at hsz
    rw [hi] at hsz
    simpa using hsz
  have hps : (ps.map fun (i, x) => (i, a.eval x)).toList = ps.toList.map fun p => (p.1, a.eval p.2) := by simp
  let A0 : Array Value := (Array.range (n * sz)).map (fun q => zv.cells[q % zv.cells.size]!)
  have hA0 : A0.size = n * sz := by simp [A0]
  obtain ⟨B, b1, b2, _, b4⟩ := fill_rows sz (ps.toList.map fun p => (p.1, a.eval p.2)) 0 A0 (fun k hk => by
    obtain ⟨v, v1, v2, _⟩ := p2 k (by simpa using hk)
    exact ⟨v, v1, by rw [hrow k (by rw [p1]; simpa using hk)] at v2; simpa using v2⟩) (by rw [hA0, List.length_map, ← p1, c4, Nat.zero_add]; exact Nat.le_refl _)
  have hfr : getA σ.l (σ.d, N * 64) = none := by simpa [fresh] using c1
  obtain ⟨r1, r2⟩ := h.new (N * 64) .sl sz R B e hfr (flatRows_nr c7) hrow (by rw [b2, hA0, c4]; exact Nat.le_refl _) (fun k j hk hj => by
    obtain ⟨v, v1, v2, v3⟩ := p2 k (by rw [← p1]; exact hk)
    have := b4 k j v v1 hj
    rw [Nat.zero_add] at this
    rw [this]
    exact v3 j (by rw [hrow k hk]; exact hj))
  have hrun : (Instr.buildSlice t n (ps.map fun (i, x) => (i, a.eval x))).run P w = .ok (.slice (some ⟨w.heap.size, 0, none⟩) n n) (w.alloc (.cells B e)) := by
    have hts := tySz_run hsz w
    by_cases h0 : n * sz = 0
    · have hn : n = 0 := by rcases Nat.mul_eq_zero.1 h0 with h | h <;> omega
      subst hn
      have hpe : ps = #[] := by
        have : ps.toList.length = 0 := by rw [← p1, c4]
        apply Array.ext'; simpa using this
      subst hpe
      have hB : B = #[] := by
        have : B.size = 0 := by rw [b2, hA0]; simp
        exact Array.eq_empty_of_size_eq_zero this
      subst hB
      simp [Instr.buildSlice, run_underlying (tyElem_spec he), hts, Instr.fill, newRow]
      exact congrArg (fun c => w.alloc (.cells c e)) (Array.eq_empty_of_size_eq_zero (by simp))
    · have hle : ¬ (n * sz > 2 ^ 24) := by omega
      have hzr : (zeroValue e).run P w = .ok zv w := by simp [zeroValue, typeInfo, hi, hzv]
      have hb1 : Instr.fill (fun i => some (i * sz, sz)) ((Array.range (n * sz)).map fun q => zv.cells[q % zv.cells.size]!) (ps.toList.map fun p => (p.1, a.eval p.2)) = some B := b1
      simp only [Instr.buildSlice, Sem.run_bind, run_underlying (tyElem_spec he), Result.andThen_ok, hts, if_neg hle, if_neg h0, hzr, Sem.run_pure, hps, hb1, newRow]
      rfl
  refine ⟨_, _, _, hrun, r1.put (some N) (v := slV σ N sz n) (y := .slice (some ⟨w.heap.size, 0, none⟩) n n) ?_⟩
  refine ⟨R, ⟨_, getA_newSt σ N ⟨.sl, sz, R⟩, rfl⟩, by omega, ?_⟩
  unfold SlAt
  have hg : (g.new (σ.d, N * 64) w.heap.size).G (σ.d, N * 64) [] = some w.heap.size := by simp [Gh.new]
  rw [hg]
  refine ⟨_, n, rfl, rfl, Nat.le_refl _, ?_, fun _ => by simp, fun _ => ⟨rfl, B, e, (0, 0), heap_alloc_new w _, by rw [b2, hA0]⟩, fun _ => ⟨B, e, (0, 0), heap_alloc_new w _, by rw [b2, hA0, Nat.zero_add]⟩⟩
  have : n * 1 ≤ n * sz := Nat.mul_le_mul_left _ c3
  simp only [maxLen]; omega
theorem buildM_run (h : Rel g0 w0 σ g a w) {dst : Option Tmp} {t : TypeId} {n : Nat} {ps : Array (Nat × Operand)} {σ' : St} (hs : buildM P σ dst t n (ps.toList.map fun p => (p.1, ev σ p.2)) = some σ') :
    ∃ z w1 g1, (Instr.buildSlice t n (ps.map fun (i, x) => (i, a.eval x))).run P w = .ok z w1 ∧ Rel g0 w0 σ' g1 (a.put dst z) w1 := by
  unfold buildM at hs
  split at hs
  case h_2 => cases hs
  rename_i N e he
  split at hs
  case h_2 => cases hs
  rename_i zs sz row hz hsz hR
  split at hs
  case isFalse => cases hs
  rename_i hc
  obtain ⟨c1, c2, c3, rfl, c5, c6, c7⟩ := hc
  obtain ⟨p1, p2⟩ := partsOk_rel h ps.toList 0 [row] hR
  have hp1 : ps.toList.length = 1 := p1.symm
  unfold tyZero at hz
  simp only [Option.map_eq_some_iff, Option.bind_eq_some_iff] at hz
  obtain ⟨zv, ⟨i, hi, hzv⟩, rfl⟩ := hz
  have hsi : i.size = sz := by
    unfold tySz at hsz
    rw [hi] at hsz
    simpa using hsz
  have hps : (ps.map fun (i, x) => (i, a.eval x)).toList = ps.toList.map fun p => (p.1, a.eval p.2) := by simp
  let A0 : Array Value := (Array.range (1 * sz)).map (fun q => zv.cells[q % zv.cells.size]!)
  have hA0 : A0.size = sz := by simp [A0]
  obtain ⟨v, v1, v2, v3⟩ := p2 0 (by omega)
  have v1' := v1
  simp only [List.getD_cons_zero] at v2 v3
  obtain ⟨B, b1, b2, _, b4⟩ := fill_rows sz (ps.toList.map fun p => (p.1, a.eval p.2)) 0 A0 (fun k hk => by
    obtain rfl : k = 0 := by rw [List.length_map] at hk; omega
    exact ⟨v, v1, by simpa [c6] using v2⟩) (by rw [hA0, List.length_map, hp1, Nat.zero_add, Nat.one_mul]; exact Nat.le_refl _)
  have hfr : getA σ.l (σ.d, N * 64) = none := by simpa [fresh] using c1
  have hbv : ∀ j, j < sz → B.getD j undef = v.cells.toList.getD j undef := fun j hj => by
    have := b4 0 j v v1 hj
    simpa using this
  have hcell : ∀ j, j < sz → cellAt [row.map blank] 0 j = blank (row.getD j .bad) := fun j hj => by
    unfold cellAt
    simp [List.getD_eq_getElem?_getD, List.getElem?_map, List.getElem?_eq_getElem (show j < row.length by omega)]
  have hcr : ∀ j, j < sz → CR w σ.o g none (row.getD j .bad) (v.cells.toList.getD j undef) := fun j hj => v3 j (by rw [c6]; exact hj)
  obtain ⟨r1, r2⟩ := h.new (N * 64) .sl sz [row.map blank] B e hfr (by simp only [okObj, nrRR, c7, Bool.true_and]) (fun i hi => by
      obtain rfl : i = 0 := by simp at hi; omega
      simp [c6]) (by rw [b2, hA0]; simp) (fun i j hi hj => by
    obtain rfl : i = 0 := by simp at hi; omega
    rw [hcell j hj, Nat.zero_mul, Nat.zero_add, hbv j hj]
    exact CR.blank (hcr j hj))
  have hrun : (Instr.buildSlice t 1 (ps.map fun (i, x) => (i, a.eval x))).run P w = .ok (.slice (some ⟨w.heap.size, 0, none⟩) 1 1) (w.alloc (.cells B e)) := by
    have hts := tySz_run hsz w
    have h0 : ¬ (1 * sz = 0) := by omega
    have hle : ¬ (1 * sz > 2 ^ 24) := by omega
    have hzr : (zeroValue e).run P w = .ok zv w := by simp [zeroValue, typeInfo, hi, hzv]
    have hb1 : Instr.fill (fun i => some (i * sz, sz)) ((Array.range (1 * sz)).map fun q => zv.cells[q % zv.cells.size]!) (ps.toList.map fun p => (p.1, a.eval p.2)) = some B := b1
    simp only [Instr.buildSlice, Sem.run_bind, run_underlying (tyElem_spec he), Result.andThen_ok, hts, if_neg hle, if_neg h0, hzr, Sem.run_pure, hps, hb1, newRow]
    rfl
  have hg : (g.new (σ.d, N * 64) w.heap.size).G (σ.d, N * 64) [] = some w.heap.size := by simp [Gh.new]
  have r3 : Rel g0 w0 (put (newSt σ N ⟨.sl, sz, [row.map blank]⟩) (some N) (slV σ N sz 1)) (g.new (σ.d, N * 64) w.heap.size) (a.put (some N) (.slice (some ⟨w.heap.size, 0, none⟩) 1 1)) (w.alloc (.cells B e)) := by
    refine r1.put (some N) (v := slV σ N sz 1) (y := .slice (some ⟨w.heap.size, 0, none⟩) 1 1) ?_
    refine ⟨[row.map blank], ⟨_, getA_newSt σ N ⟨.sl, sz, _⟩, rfl⟩, by simp, ?_⟩
    unfold SlAt
    rw [hg]
    exact ⟨_, 1, rfl, rfl, Nat.le_refl _, by simp only [maxLen]; omega, fun _ => by simp, fun _ => ⟨rfl, B, e, (0, 0), heap_alloc_new w _, by rw [b2, hA0, Nat.one_mul]⟩, fun _ => ⟨B, e, (0, 0), heap_alloc_new w _, by rw [b2, hA0, Nat.zero_add, Nat.one_mul]⟩⟩
  obtain ⟨g1, hfin⟩ := adoptL_run row 0 _ _ r3 ⟨sz, [row.map blank], by
      show (if (σ.d, N * 64) = (σ.d, N * 64) then some _ else _) = _
      rw [if_pos rfl], by simp, by simp [c6], by omega, fun k r' p' s off len hk hck => by
    have hk' : k < sz := by omega
    refine ⟨by rw [Nat.zero_add, hcell k hk', hck]; rfl, fun hne hsome b2 cells2 e2 f2 hb2 hcl2 => ?_⟩
    rw [hg] at hb2
    cases hb2
    rw [heap_alloc_new] at hcl2
    cases hcl2
    have hv1 := hcr k hk'
    rw [hck] at hv1
    have hv2 := CR.goes r2 hv1
    obtain ⟨_, _, _, hsl⟩ := hv2
    rw [Nat.zero_mul, Nat.zero_add, Nat.zero_add, hbv k hk']
    exact hsl⟩ hs
  exact ⟨_, _, g1, hrun, hfin⟩
theorem appendO_run (h : Rel g0 w0 σ g a w) {dst : Option Tmp} {t tx ty : TypeId} {s x : V} {ys yx : Value} {σ' : St} (hs : appendO P σ dst t tx s x = some σ') (hv : VR w σ.o g s ys) (hx : VR w σ.o g x yx) :
    ∃ z w1 g1, (Builtin.append_ #[t, tx] ty #[ys, yx]).run P w = .ok z w1 ∧ Rel g0 w0 σ' g1 (a.put dst z) w1 := by
  have hL : ∀ (σ : St) (g : Gh), Rel g0 w0 σ g a w → VR w σ.o g x yx → ∀ s ys, appendL P σ dst t tx s x = some σ' → VR w σ.o g s ys → ∃ z w1 g1, (Builtin.append_ #[t, tx] ty #[ys, yx]).run P w = .ok z w1 ∧ Rel g0 w0 σ' g1 (a.put dst z) w1 := fun σ g h hx s ys hs hv => by
    unfold appendL orE at hs
    split at hs
    · split at hs
      · rename_i x1 h1
        cases hs
        exact appendM_run h h1 hv hx
      · exact appendS_run h hs hv hx
    · exact appendS_run h hs hv hx
  unfold appendO at hs
  split at hs
  · unfold appendN at hs
    split at hs
    case h_2 => cases hs
    rename_i N e he
    split at hs
    case h_2 => cases hs
    rename_i sz hsz
    split at hs
    case isFalse => cases hs
    rename_i hf
    obtain ⟨t0, d0, l0, g0'⟩ := σ
    obtain ⟨g2, k1, k2, k3⟩ := h.addNil (r := (d0, N * 64)) (sz := sz) rfl (Option.isNone_iff_eq_none.1 hf)
    cases (show ys = .slice none 0 0 from hv)
    exact hL _ g2 k1 (VR.goes k2 hx) _ _ hs k3
  · split at hs
    · exact appendG_run h hs hv hx
    · split at hs
      · exact appendC_run h hs hv hx
      · exact hL _ _ h hx _ _ hs hv
  · exact hL _ _ h hx _ _ hs hv
theorem buildO_run (h : Rel g0 w0 σ g a w) {dst : Option Tmp} {t : TypeId} {n : Nat} {ps : Array (Nat × Operand)} {σ' : St} (hs : buildO P σ dst t n (ps.toList.map fun p => (p.1, ev σ p.2)) = some σ') :
    ∃ z w1 g1, (Instr.buildSlice t n (ps.map fun (i, x) => (i, a.eval x))).run P w = .ok z w1 ∧ Rel g0 w0 σ' g1 (a.put dst z) w1 := by
  unfold buildO orE at hs
  split at hs
  · split at hs
    · rename_i x1 h1
      cases hs
      exact buildM_run h h1
    · exact buildS_run h hs
  · exact buildS_run h hs
theorem buildV_run (h : Rel g0 w0 σ g a w) {t : TypeId} {ps : Array (Nat × Operand)} {v : V} (hs : buildV P t (ps.toList.map fun p => (p.1, ev σ p.2)) = some v) :
    ∃ z, (Instr.build t (ps.map fun (i, x) => (i, a.eval x))).run P w = .ok z w ∧ VR w σ.o g v z := by
  unfold buildV at hs
  split at hs
  case h_2 => cases hs
  rename_i zs hok hz
  obtain ⟨cs, hcs, rfl⟩ := Option.map_eq_some_iff.1 hs
  unfold tyZero at hz
  simp only [Option.map_eq_some_iff, Option.bind_eq_some_iff] at hz
  obtain ⟨zv, ⟨i, hi, hzv⟩, rfl⟩ := hz
  unfold fldsOk at hok
  split at hok
  case h_2 => cases hok
  rename_i fs hfs
  have hsr := sizes_run (P := P) w fs.toList hok
  let pl : List (Nat × Nat) := fs.toList.map fun f => (f.offset, ((P.info? f.type).map (·.size)).getD 0)
  have hp : ∀ f off ft n, tyFld P t f = some (off, ft) → tySz P ft = some n → (fun i => pl.toArray[i]?) f = some (off, n) := fun f off ft n h1 h2 => by
    unfold tyFld at h1
    rw [hfs] at h1
    obtain ⟨fd, h3, h4⟩ := Option.map_eq_some_iff.1 h1
    cases h4
    unfold tySz at h2
    have h5 : fs.toList[f]? = some fd := by simpa using h3
    show pl.toArray[f]? = _
    rw [List.getElem?_toArray, List.getElem?_map, h5]
    simp [h2]
  obtain ⟨B, b1, b2, b3⟩ := buildCells_rel (P := P) (w := w) (g := g) (o := σ.o) hp (ps.toList.map fun p => (p.1, ev σ p.2)) (ps.toList.map fun p => (p.1, a.eval p.2)) _ cs zv.cells (by simp) (fun k f v hk => by
    rw [List.getElem?_map] at hk ⊢
    obtain ⟨p, hp, he⟩ := Option.map_eq_some_iff.1 hk
    cases he
    exact ⟨a.eval p.2, by rw [hp]; rfl, ev_rel h p.2⟩) hcs (by simp) (fun j hj => by
    simp only [List.length_map] at hj
    have : (zv.cells.toList.map C.v).getD j .bad = .v (zv.cells.getD j undef) := by
      have hj' : j < zv.cells.size := by simpa using hj
      simp [List.getD_eq_getElem?_getD, Array.getD, hj']
    rw [this]; rfl)
  have hzr : (zeroValue t).run P w = .ok zv w := by simp [zeroValue, typeInfo, hi, hzv]
  have hmap : (fs.mapM fun f => do pure (f.offset, ← sizeOf f.type) : Sem _).run P w = .ok pl.toArray w := by
    rw [Array.mapM_eq_mapM_toList, Sem.run_map, hsr]; rfl
  have hps : (ps.map fun (i, x) => (i, a.eval x)).toList = ps.toList.map fun p => (p.1, a.eval p.2) := by simp
  have b1' : Instr.fill (fun i => pl.toArray[i]?) zv.cells (ps.toList.map fun p => (p.1, a.eval p.2)) = some B := b1
  refine ⟨.agg B, ?_, B.toList, by simp, by simpa using b2, fun j hj => ?_⟩
  · simp only [Instr.build, Sem.run_bind, hzr, Result.andThen_ok, run_underlying hfs, hmap, hps, b1', Sem.run_pure]
  · have := b3 j hj
    rwa [getD_flat _ _ (by omega)]
theorem Rel.drew' (h : Rel g0 w0 σ g a w) : Rel g0 w0 σ g a w.drew := by
  have hgoes : Goes w σ.o g w.drew σ.o g := ⟨fun k hk => ⟨hk, rfl⟩, fun r p m K hK => ⟨⟨K, hK, Nat.le_refl _⟩, rfl, fun b cs e f _ hb => ⟨cs, hb, rfl⟩⟩⟩
  refine ⟨h.defers, h.size, fun i hi => VR.goes hgoes (h.tmps i hi), ⟨?_, h.heap.none, h.heap.inj, h.heap.S⟩, ⟨h.keep.os, h.keep.tape, h.keep.output, h.keep.size, h.keep.S, h.keep.block⟩, h.loc, h.out, h.obj, h.maps.mono (fun _ ob h1 _ => ⟨ob, h1, rfl⟩) (fun _ _ _ h1 h2 => ⟨h1, h2⟩) (fun _ hk => ⟨rfl, hk⟩), ⟨h.pin.at_, h.pin.nil_, h.pin.old⟩⟩
  intro r p m K b hK hb
  obtain ⟨k1, k2, cs, e, f, k3, kf, k4, k5⟩ := h.heap.rows r p m K b hK hb
  exact ⟨k1, k2, cs, e, f, k3, kf, k4, fun i j hi hj => CR.goesAt hgoes hK hi (by rw [k2 i hi]; exact hj) (k5 i j hi hj)⟩
theorem byteRows_length (s : ByteArray) : (byteRows s).length = s.size := by rw [byteRows, List.length_map, Array.length_toList]; rfl
theorem byteRows_getD (s : ByteArray) (i : Nat) (hi : i < s.size) : (byteRows s).getD i [] = [.v (.int .u8 (s.data[i]'hi).toNat)] := by
  have : i < s.data.toList.length := by rw [Array.length_toList]; exact hi
  simp [byteRows, List.getD_eq_getElem?_getD, List.getElem?_map, List.getElem?_eq_getElem this]
theorem byteRows_nr (s : ByteArray) : nrRR (byteRows s) = true := by
  unfold byteRows
  induction s.data.toList with
  | nil => rfl
  | cons b l ih => simp [nrRR, nrR, nr, ih]
theorem convS_run (h : Rel g0 w0 σ g a w) {dst : Option Tmp} {t u : TypeId} {v : V} {σ' : St} {y : Value} (hs : convS P σ dst t u v = some σ') (hv : VR w σ.o g v y) :
    ∃ z w1 g1, (convert t u y).run P w = .ok z w1 ∧ Rel g0 w0 σ' g1 (a.put dst z) w1 := by
  unfold convS at hs
  split at hs
  · rename_i e s he
    split at hs
    · rename_i N hu hub
      split at hs
      · rename_i hc
        cases hs
        obtain rfl : y = .string s := hv
        have hfr : getA σ.l (σ.d, N * 64) = none := by simpa [fresh] using hc.1
        have hge := grownCap_ge w s.size 0 e
        have hcm := grownCap_le_maxLen w s.size 0 e (Nat.le_trans hc.2 (by decide))
        have hrun := run_bytes_of_string (P := P) w t u e s hu (tyElem_spec he) hub
        generalize hN : grownCap w s.size 0 e = cap at hge hcm hrun
        have hbs : (bytesRow s cap).size = cap := by rw [bytesRow, Array.size_append, Array.size_map, Array.size_replicate, show s.data.size = s.size from rfl]; omega
        obtain ⟨r1, r2⟩ := h.drew'.new' (N * 64) .sl 1 (byteRows s) (bytesRow s cap) e ((bytesRow s cap).size, (bytesRow s cap).size + 1) (fun i hi hf => by simp only at hf; omega) hfr (by simp only [okObj]; exact byteRows_nr s)
          (fun i hi => by rw [byteRows_length] at hi; rw [byteRows_getD s i hi]; rfl) (by rw [byteRows_length, hbs]; omega) (fun i j hi hj => by
            rw [byteRows_length] at hi
            obtain rfl : j = 0 := by omega
            unfold cellAt
            rw [byteRows_getD s i hi]
            have hi2 : i < s.data.size := hi
            simp [bytesRow, Array.getD, CR, Array.getElem_append]
            rw [if_pos (by omega), dif_pos hi])
        refine ⟨_, _, _, hrun, r1.put (some N) (v := slV σ N 1 s.size) (y := .slice (some ⟨w.heap.size, 0, none⟩) s.size cap) ?_⟩
        refine ⟨byteRows s, ⟨_, getA_newSt σ N _, rfl⟩, by rw [byteRows_length]; omega, ?_⟩
        have hG : (g.new (σ.d, N * 64) w.drew.heap.size).G (σ.d, N * 64) [] = some w.drew.heap.size := by simp [Gh.new]
        unfold SlAt
        rw [hG]
        exact ⟨_, cap, rfl, rfl, hge, hcm, fun _ => by simp, fun _ => ⟨rfl, _, _, _, heap_alloc_new w.drew _, by rw [hbs]; omega⟩, fun _ => ⟨_, _, _, heap_alloc_new w.drew _, by rw [hbs]; omega⟩⟩
      · cases hs
    · cases hs
  · obtain ⟨r, hr, rfl⟩ := Option.map_eq_some_iff.1 hs
    obtain ⟨z, h1, h2⟩ := convV_run h.heap hr hv
    exact ⟨z, w, g, h1, h.put dst h2⟩
theorem Rel.tb [Tb P g0 w0] (h : Rel g0 w0 σ g a w) : Tb P (Sall w) w := (Tb.keep (P := P) h.keep).on fun x hx => ⟨h.heap.S x hx, rfl⟩
theorem wop_sound : OpSound wop P := by
  intro g0 w0 _ o σ g a w K N Q hw hr hk
  unfold wop at hw
  split at hw
  · rename_i f as ats ho
    rcases hw with hw | hw
    case inr => exact hw g0 w0 g a w N Q hr hk
    unfold callW at hw
    split at hw
    · rename_i n hdst
      obtain ⟨xs, ret, h1, ⟨⟨fn, hfn, hname, hbody⟩, h2⟩, h3, h4, h5⟩ := hw
      have hb : fn.body ≠ none := fun e => by simp [e] at hbody
      have hrun : (execOp a.eval o).run P w = .ok (.enter f (as.map a.eval)) w := by
        simp [execOp, ho, resolve, Deferred.ofValue, Act.eval, invoke, callFunc, program, hfn, hname, hb, Sem.run]
      obtain ⟨e1, e2⟩ := viewVs_rel hr as.toList xs h1
      have := hr.tb (P := P)
      have hc := h2 w (as.toList.map a.eval) (by simp [e1]) e2
      unfold Oper.wp
      rw [hrun, Oper.upon_enter]
      have hargs : (as.toList.map a.eval).toArray = as.map a.eval := by apply Array.ext'; simp
      rw [hargs] at hc
      refine hc.mono fun e w' he => ?_
      obtain ⟨gr, zs, rfl, hret, hkeep⟩ := he
      obtain ⟨g', k1, k2, _⟩ := hr.take hkeep hret h3 n h4
      exact hk _ g' _ _ h5 (k1.put o.dst k2)
    · exact hw.elim
  · exact hw g0 w0 g a w N Q hr hk
  · exact hw g0 w0 g a w N Q hr hk
  · exact hw g0 w0 g a w N Q hr hk
  · rename_i t ho
    split at hw
    · exact hw g0 w0 g a w N Q hr hk
    · obtain ⟨σ', hs, hK⟩ := hw
      unfold stepO at hs
      rw [ho] at hs
      obtain ⟨z, w1, g1, h1, h2⟩ := allocS_run hr hs
      have hrun : (execOp a.eval o).run P w = .ok (.value z) w1 := by simp only [execOp, ho]; rw [Sem.run_bind, h1]; rfl
      unfold Oper.wp; rw [hrun, Oper.upon_value]
      exact hk _ _ _ _ hK h2
  · obtain ⟨σ', hs, hK⟩ := hw
    unfold stepO at hs
    split at hs
    · rename_i t x ho
      obtain ⟨z, w1, g1, h1, h2⟩ := boxS_run hr hs (ev_rel hr x) t
      have hrun : (execOp a.eval o).run P w = .ok (.value z) w1 := by simp only [execOp, ho]; rw [Sem.run_bind, h1]; rfl
      unfold Oper.wp; rw [hrun, Oper.upon_value]
      exact hk _ _ _ _ hK h2
    · rename_i t ho
      obtain ⟨z, w1, g1, h1, h2⟩ := allocS_run hr hs
      have hrun : (execOp a.eval o).run P w = .ok (.value z) w1 := by simp only [execOp, ho]; rw [Sem.run_bind, h1]; rfl
      unfold Oper.wp; rw [hrun, Oper.upon_value]
      exact hk _ _ _ _ hK h2
    · rename_i t l c ho
      obtain ⟨z, w1, g1, h1, h2⟩ := makeS_run hr hs (ev_rel hr l) (ev_rel hr c)
      have hrun : (execOp a.eval o).run P w = .ok (.value z) w1 := by simp only [execOp, ho]; rw [Sem.run_bind, h1]; rfl
      unfold Oper.wp; rw [hrun, Oper.upon_value]
      exact hk _ _ _ _ hK h2
    · rename_i t x y ho
      simp only [Option.map_eq_some_iff] at hs
      obtain ⟨σ1, hs1, rfl⟩ := hs
      obtain ⟨w1, g1, h1, h2⟩ := storeS_run hr hs1 (ev_rel hr x) (ev_rel hr y)
      have hrun : (execOp a.eval o).run P w = .ok .skip w1 := by simp only [execOp, ho]; rw [Sem.run_bind, h1]; rfl
      unfold Oper.wp; rw [hrun, Oper.upon_skip]
      exact hk _ _ _ _ hK (h2.put o.dst (v := .x (.one .bad)) trivial)
    · rename_i as ats ho
      split at hs
      · rename_i x y t tx has hats
        obtain rfl : as = #[x, y] := by apply Array.ext'; simpa using has
        obtain rfl : ats = #[t, tx] := by apply Array.ext'; simpa using hats
        obtain ⟨z, w1, g1, h1, h2⟩ := appendO_run (ty := o.type) hr hs (ev_rel hr x) (ev_rel hr y)
        have hrun : (execOp a.eval o).run P w = .ok (.value z) w1 := by
          unfold execOp
          simp only [ho, resolve, invoke, builtin, Sem.run_bind, Sem.run_pure, Result.andThen_ok, List.map_toArray, List.map_cons, List.map_nil, h1]
        unfold Oper.wp; rw [hrun, Oper.upon_value]
        exact hk _ _ _ _ hK h2
      · cases hs
    · rename_i t parts ho
      obtain ⟨v, hv, rfl⟩ := Option.map_eq_some_iff.1 hs
      obtain ⟨z, h1, h2⟩ := buildV_run hr hv
      have hrun : (execOp a.eval o).run P w = .ok (.value z) w := by simp only [execOp, ho]; rw [Sem.run_bind, h1]; rfl
      unfold Oper.wp; rw [hrun, Oper.upon_value]
      exact hk _ _ _ _ hK (hr.put o.dst h2)
    · rename_i t n parts ho
      obtain ⟨z, w1, g1, h1, h2⟩ := buildO_run hr hs
      have hrun : (execOp a.eval o).run P w = .ok (.value z) w1 := by simp only [execOp, ho]; rw [Sem.run_bind, h1]; rfl
      unfold Oper.wp; rw [hrun, Oper.upon_value]
      exact hk _ _ _ _ hK h2
    · rename_i t u x ho
      obtain ⟨z, w1, g1, h1, h2⟩ := convS_run hr hs (ev_rel hr x)
      have hrun : (execOp a.eval o).run P w = .ok (.value z) w1 := by simp only [execOp, ho]; rw [Sem.run_bind, h1]; rfl
      unfold Oper.wp; rw [hrun, Oper.upon_value]
      exact hk _ _ _ _ hK h2
    · simp only [Option.map_eq_some_iff] at hs
      obtain ⟨v, hv, rfl⟩ := hs
      obtain ⟨z, h1, h2⟩ := opV_run hr hv
      unfold Oper.wp; rw [h1, Oper.upon_value]
      exact hk _ _ _ _ hK (hr.put o.dst h2)
end
end Go.Rx
