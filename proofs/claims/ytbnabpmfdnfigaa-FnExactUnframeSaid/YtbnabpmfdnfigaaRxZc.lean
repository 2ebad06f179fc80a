/- The caller of a function that writes through a pointer. -/
import Derived.Test.YtbnabpmfdnfigaaRxZb
namespace Go.Rx
open Go.RowKit
section
variable {P : Program} {w w0 w' : World} {g g0 gr : Gh} {σ : St} {a : Act} {o : Store}

/-- What the caller's state is, once the rows are turned. -/
def ioSt (σ : St) (r : Root) (R' : List (List Value)) : St := setRows σ r [] (vR R')

theorem CR.moreS {S' : Nat → Prop} {r : Root} {p : Path} {i j : Nat} {c : C} {y : Value} (hS : ∀ k, g.S k → S' k) (h : CR w o g (some (r, p, i, j)) c y) : CR w o { g with S := S' } (some (r, p, i, j)) c y := by
  cases c with
  | v x => exact h
  | sh s R => exact Sh.mono (fun k hk => ⟨hS k hk, rfl⟩) h
  | ps cs => exact Sh.mono (fun k hk => ⟨hS k hk, rfl⟩) h
  | own s R => exact h
  | rs r p s o l => exact h
  | pt r p s row off => exact h
  | bad => trivial

/-- As Rel.ext, for both stores. -/
theorem Rel.ext' {τ τ' : St} (ht : τ'.t = τ.t ∧ τ'.d = τ.d) (hl : (∀ r, getA τ'.l r = getA τ.l r) ∧ ∀ r, getA τ'.g r = getA τ.g r) (h : Rel g0 w0 τ g a w) : Rel g0 w0 τ' g a w := by
  have ho : ∀ r, getA τ'.o r = getA τ.o r := fun r => by
    show getA (τ'.l ++ τ'.g) r = getA (τ.l ++ τ.g) r
    rw [getA_append, getA_append, hl.1, hl.2]
  have hlive : ∀ r p m K, Live τ'.o r p m K ↔ Live τ.o r p m K := fun r p m K => by unfold Live; rw [ho]
  have hgoes : Goes w τ.o g w τ'.o g := ⟨fun k hk => ⟨hk, rfl⟩, fun r p m K hK => ⟨⟨K, (hlive r p m K).2 hK, Nat.le_refl _⟩, rfl, fun b cs e f _ hb => ⟨cs, hb, rfl⟩⟩⟩
  refine ⟨h.defers, by rw [ht.1]; exact h.size, fun i hi => ?_, ⟨?_, ?_, ?_, h.heap.S⟩, h.keep, ?_, ?_, ?_, ?_, h.pin.goes hgoes fun r ob hr => ⟨ob, by rw [hl.2]; exact hr⟩⟩
  · rw [ht.1] at hi ⊢; exact VR.goes hgoes (h.tmps i hi)
  · intro r p m K b hK hb
    have hK' := (hlive r p m K).1 hK
    obtain ⟨k1, k2, cs, e, f, k3, kf, k4, k5⟩ := h.heap.rows r p m K b hK' hb
    exact ⟨k1, k2, cs, e, f, k3, kf, k4, fun i j hi hj => CR.goesAt hgoes hK' hi (by rw [k2 i hi]; exact hj) (k5 i j hi hj)⟩
  · intro r p ob m K h1 h2 h3
    rw [ho] at h1; exact h.heap.none r p ob m K h1 h2 h3
  · intro r p m K r' p' m' K' b h1 h2
    exact h.heap.inj _ _ _ _ _ _ _ _ b ((hlive _ _ _ _).1 h1) ((hlive _ _ _ _).1 h2)
  · intro r ob hr; rw [hl.1] at hr; rw [ht.2]; exact h.loc r ob hr
  · intro r ob hr; rw [hl.2] at hr; rw [ht.2]; exact h.out r ob hr
  · intro r ob hr; rw [ho] at hr; exact h.obj r ob hr
  · intro r ob hr; rw [hl.2] at hr; rw [ht.2]; exact h.gref r ob hr

/-- Rows of plain values, all of them turned at once. -/
theorem Rel.turn (h : Rel g0 w0 σ g a w) {r : Root} {kd : Kind} {sz : Nat} {R R' : List (List Value)} {b : Nat} {cells cells' : Array Value} {e : TypeId} {fz : Nat × Nat} (hob : getA σ.o r = some (ioOb kd sz R)) (hok' : ioOk kd sz R') (hlen : R'.length = R.length) (hg : g.G r [] = some b)
    (hb : w.heap[b]? = some (.cells cells e fz)) {w1 : World} (hb' : w1.heap[b]? = some (.cells cells' e fz)) (hcs : cells'.size = cells.size)
    (hcv : ∀ i j, i < R'.length → j < sz → cells'.getD (i * sz + j) undef = (R'.getD i []).getD j undef)
    (wos : w1.os = w.os) (wtape : w1.tape = w.tape) (wout : w1.output = w.output) (wsize : w1.heap.size = w.heap.size) (wother : ∀ k, k ≠ b → w1.heap[k]? = w.heap[k]?) :
    Rel g0 w0 (ioSt σ r R') g a w1 := by
  have hlv : Live σ.o r [] sz (vR R) := ⟨_, hob, rfl⟩
  obtain ⟨hnS, hrl, cells0, e0, fz0, hbl, hth, hsz, hcell⟩ := h.heap.rows r [] sz (vR R) b hlv hg
  rw [hb] at hbl
  cases hbl
  have hget : ∀ r', getA (ioSt σ r R').o r' = if r = r' then some (ioOb kd sz R') else getA σ.o r' := setRows_get hob [] (vR R')
  have hback : ∀ r' p m Q, Live (ioSt σ r R').o r' p m Q → (r' = r ∧ p = [] ∧ m = sz ∧ Q = vR R') ∨ (r' ≠ r ∧ Live σ.o r' p m Q) := by
    rintro r' p m Q ⟨ob, h1, h2⟩
    rw [hget] at h1
    by_cases er : r = r'
    · rw [if_pos er] at h1
      cases h1
      exact .inl ⟨er.symm, rowsAt_noOwn (noOwn_vR R') h2⟩
    · rw [if_neg er] at h1
      exact .inr ⟨fun e' => er e'.symm, ob, h1, h2⟩
  have hgoes : Goes w σ.o g w1 (ioSt σ r R').o g := by
    refine ⟨fun k hk => ⟨hk, wother k (fun e' => hnS (e' ▸ hk))⟩, fun r' p m K hl => ⟨?_, rfl, fun b' cs' e' f' _ hb2 => ?_⟩⟩
    · obtain ⟨ob, h1, h2⟩ := hl
      by_cases er : r = r'
      · subst er
        rw [hob] at h1
        cases h1
        obtain ⟨rfl, rfl, rfl⟩ := rowsAt_noOwn (noOwn_vR R) h2
        exact ⟨vR R', ⟨ioOb kd _ R', by rw [hget, if_pos rfl], rfl⟩, by show (vR R).length ≤ _; rw [vR_length, vR_length, hlen]; exact Nat.le_refl _⟩
      · exact ⟨K, ⟨ob, by rw [hget, if_neg er]; exact h1, h2⟩, Nat.le_refl _⟩
    · by_cases eb : b' = b
      · subst eb
        rw [hb] at hb2
        cases hb2
        exact ⟨cells', hb', hcs⟩
      · exact ⟨cs', by rw [wother b' eb]; exact hb2, rfl⟩
  refine ⟨h.defers, ?_, fun i hi => ?_, ⟨?_, ?_, ?_, ?_⟩, ⟨wos.trans h.keep.os, wtape.trans h.keep.tape, wout.trans h.keep.output, by rw [wsize]; exact h.keep.size, h.keep.S, fun k hk => ?_⟩, ?_, ?_, ?_, ?_, h.pin.goes hgoes fun r' ob' h' => ?_⟩
  · rw [show (ioSt σ r R').t = σ.t from (setRows_t r [] _).1]; exact h.size
  · rw [show (ioSt σ r R').t = σ.t from (setRows_t r [] _).1] at hi ⊢
    exact VR.goes hgoes (h.tmps i hi)
  · intro r' p m Q b' hl hg'
    rcases hback r' p m Q hl with ⟨rfl, rfl, rfl, rfl⟩ | ⟨hne, hl'⟩
    · rw [hg] at hg'; cases hg'
      refine ⟨hnS, fun i hi => by rw [vR_length] at hi; rw [vR_getD, List.length_map]; exact hok'.2 i hi, cells', e, fz, hb', by rw [hcs]; exact hth, by rw [hcs, vR_length, hlen, ← vR_length R]; exact hsz, fun i j hi hj => ?_⟩
      rw [vR_length] at hi
      rw [cellAt_vR (by rw [hok'.2 i hi]; exact hj)]
      exact hcv i j hi hj
    · obtain ⟨k1, k2, cs, e', f', k3, kf, k4, k5⟩ := h.heap.rows r' p m Q b' hl' hg'
      have hbb : b' ≠ b := fun e1 => by subst e1; exact hne (h.heap.inj _ _ _ _ _ _ _ _ _ hl' hlv hg' hg).1
      exact ⟨k1, k2, cs, e', f', by rw [wother b' hbb]; exact k3, kf, k4, fun i j hi hj => CR.goesAt hgoes hl' hi (by rw [k2 i hi]; exact hj) (k5 i j hi hj)⟩
  · intro r' p ob m Q h1 h2 hg'
    rcases hback r' p m Q ⟨ob, h1, h2⟩ with ⟨rfl, rfl, rfl, rfl⟩ | ⟨hne, ob', h1', h2'⟩
    · rw [hg] at hg'; cases hg'
    · have : getA σ.o r' = some ob := by rw [hget, if_neg (fun e' => hne e'.symm)] at h1; exact h1
      rw [this] at h1'; cases h1'
      exact h.heap.none r' p ob m Q this h2' hg'
  · intro r1 p1 m1 Q1 r2 p2 m2 Q2 b' hl1 hl2 hg1 hg2
    have old : ∀ r' p m Q, Live (ioSt σ r R').o r' p m Q → ∃ m' Q', Live σ.o r' p m' Q' := fun r' p m Q hl => by
      rcases hback r' p m Q hl with ⟨rfl, rfl, rfl, rfl⟩ | ⟨_, hl'⟩
      · exact ⟨_, _, hlv⟩
      · exact ⟨_, _, hl'⟩
    obtain ⟨_, _, k1⟩ := old _ _ _ _ hl1
    obtain ⟨_, _, k2⟩ := old _ _ _ _ hl2
    exact h.heap.inj _ _ _ _ _ _ _ _ b' k1 k2 hg1 hg2
  · intro k hk; rw [wsize]; exact h.heap.S k hk
  · rw [wother k (fun e' => hnS (e' ▸ h.keep.S k hk))]; exact h.keep.block k hk
  · rw [show (ioSt σ r R').d = σ.d from (setRows_t r [] _).2]; exact (setRows_loc h.loc h.out r [] (vR R')).1
  · rw [show (ioSt σ r R').d = σ.d from (setRows_t r [] _).2]; exact (setRows_loc h.loc h.out r [] (vR R')).2
  · intro r' ob hr
    rw [hget] at hr
    split at hr
    · cases hr; exact okObj_io hok'
    · exact h.obj r' ob hr
  · intro r' ob hr i j r2 hi hj href
    rw [show (ioSt σ r R').d = σ.d from (setRows_t r [] _).2]
    have hr' : getA (ioSt σ r R').g r' = some ob := hr
    unfold ioSt setRows at hr'
    cases hll : getA σ.l r with
    | some ob2 =>
      simp only [hll] at hr'
      exact h.gref r' ob hr' i j r2 hi hj href
    | none =>
      have h0 : getA (σ.l ++ σ.g) r = some (ioOb kd sz R) := hob
      rw [getA_append, hll] at h0
      have h0' : getA σ.g r = some (ioOb kd sz R) := h0
      simp only [hll, h0'] at hr'
      rw [getA_setA] at hr'
      split at hr'
      · rename_i er
        subst er
        rw [h0'] at hr'
        cases hr'
        have hj' : j < ((vR R').getD i []).length := hj
        rw [vR_getD, List.length_map] at hj'
        have href' : refRoot (cellAt (vR R') i j) = some r2 := href
        rw [cellAt_vR hj'] at href'
        cases href'
      · exact h.gref r' ob hr' i j r2 hi hj href
  · unfold ioSt setRows
    split
    · exact ⟨ob', h'⟩
    · split
      · simp only [getA_setA]
        split
        · exact ⟨_, by rw [h']; rfl⟩
        · exact ⟨ob', h'⟩
      · exact ⟨ob', h'⟩

theorem Rel.io (h : Rel g0 w0 σ g a w) {r : Root} {kd : Kind} {sz : Nat} {R R' : List (List Value)} {b : Option Nat} {ret : List X} {zs : List Value} (hob : getA σ.o r = some (ioOb kd sz R)) (hg : g.G r [] = b) (hbn : b = none → R = [])
    (hlen : R'.length = R.length) (hok' : ioOk kd sz R') (hk : Keep (Sbut w b) w gr w') (hr : RetR w' gr ret zs)
    (hb : ∀ b', b = some b' → ¬ gr.S b' ∧ (∀ r p m K, Live (retStore ret) r p m K → gr.G r p ≠ some b') ∧ ∀ cells e fz, w.heap[b']? = some (.cells cells e fz) →
        ∃ cells', w'.heap[b']? = some (.cells cells' e fz) ∧ cells'.size = cells.size ∧ ∀ i j, i < R'.length → j < sz → cells'.getD (i * sz + j) undef = (R'.getD i []).getD j undef)
    (hpo : poR (retRow ret) = true) (N : Nat) (hf : freshR (ioSt σ r R').l (newRoots σ.d N 0 (retRow ret)) = true) :
    ∃ g', Rel g0 w0 (impSt (ioSt σ r R') N ret) g' a w' ∧ VR w' (impSt (ioSt σ r R') N ret).o g' (packT (impXs σ.d N 0 ret)) (packV (packX ret zs)) := by
  have hd : (ioSt σ r R').d = σ.d := (setRows_t r [] _).2
  -- the caller, with the rows turned, in a world between
  have mid : ∃ w1 : World, w1.os = w.os ∧ w1.tape = w.tape ∧ w1.output = w.output ∧ w1.heap.size = w.heap.size ∧ (∀ k, some k ≠ b → w1.heap[k]? = w.heap[k]?) ∧ (∀ k, some k = b → w1.heap[k]? = w'.heap[k]?) ∧ Rel g0 w0 (ioSt σ r R') g a w1 := by
    cases b with
    | none =>
      refine ⟨w, rfl, rfl, rfl, rfl, fun _ _ => rfl, fun k hk => (by cases hk), ?_⟩
      have hR := hbn rfl
      subst hR
      have hR' : R' = [] := List.eq_nil_of_length_eq_zero hlen
      subst hR'
      refine Rel.ext' ?_ ?_ h
      · show (setRows σ r [] (vR [])).t = σ.t ∧ (setRows σ r [] (vR [])).d = σ.d; exact setRows_t r [] _
      · unfold ioSt setRows
        have h0 : getA (σ.l ++ σ.g) r = some (ioOb kd sz []) := hob
        rw [getA_append] at h0
        cases hl : getA σ.l r with
        | some ob =>
          rw [hl] at h0
          cases h0
          refine ⟨fun r' => ?_, fun r' => rfl⟩
          simp only [getA_setA]
          split
          · rename_i e'; subst e'; rw [hl]; rfl
          · rfl
        | none =>
          rw [hl] at h0
          have h0' : getA σ.g r = some (ioOb kd sz []) := h0
          refine ⟨fun r' => (by simp only [h0']), fun r' => ?_⟩
          simp only [h0', getA_setA]
          split
          · rename_i e'; subst e'; rw [h0']; rfl
          · rfl
    | some b =>
      obtain ⟨_, _, hbv⟩ := hb b rfl
      have hlv : Live σ.o r [] sz (vR R) := ⟨_, hob, rfl⟩
      obtain ⟨hnS, hrl, cells, e, fz, hbl, hth, hsz, hcell⟩ := h.heap.rows r [] sz (vR R) b hlv hg
      obtain ⟨cells', hb', hcs, hcv⟩ := hbv cells e fz hbl
      let w1 : World := { w with heap := w.heap.setIfInBounds b (.cells cells' e fz) }
      have hlt := block_lt hbl
      have h1b : w1.heap[b]? = some (.cells cells' e fz) := by simp [w1, hlt]
      have h1o : ∀ k, k ≠ b → w1.heap[k]? = w.heap[k]? := fun k hk' => by
        simp only [w1]; rw [Array.getElem?_setIfInBounds_ne (Ne.symm hk')]
      refine ⟨w1, rfl, rfl, rfl, by simp [w1], fun k hk' => h1o k fun e' => hk' (by rw [e']), fun k hk' => by cases hk'; rw [h1b, hb'], ?_⟩
      exact h.turn hob hok' hlen hg hbl h1b hcs hcv rfl rfl rfl (by simp [w1]) h1o
  obtain ⟨w1, wos, wtape, wout, wsize, wother, wblk, hst⟩ := mid
  let gr' : Gh := { gr with S := fun k => gr.S k ∨ some k = b }
  have hS : ∀ k, gr.S k → gr'.S k := fun k h => .inl h
  have hk1 : Keep (Sall w1) w1 gr' w' := by
    refine ⟨hk.os.trans wos.symm, hk.tape.trans wtape.symm, hk.output.trans wout.symm, by rw [wsize]; exact hk.size, fun k hk' => ?_, fun k hk' => ?_⟩
    · have hk2 : k < w.heap.size := by have : k < w1.heap.size := hk'; rwa [wsize] at this
      by_cases e1 : some k = b
      · exact .inr e1
      · exact .inl (hk.S k ⟨hk2, e1⟩)
    · have hk2 : k < w.heap.size := by have : k < w1.heap.size := hk'; rwa [wsize] at this
      by_cases e1 : some k = b
      · exact (wblk k e1).symm
      · rw [wother k e1]; exact hk.block k ⟨hk2, e1⟩
  have hr1 : RetR w' gr' ret zs := by
    refine ⟨⟨fun r p m K b2 hl2 hg2 => ?_, hr.heap.none, hr.heap.inj, fun k hk' => ?_⟩, hr.nr, hr.len, fun j hj => CR.moreS hS (hr.cells j hj)⟩
    · obtain ⟨k1, k2, cs, e2, f2, k3, k4, k5, k6⟩ := hr.heap.rows r p m K b2 hl2 hg2
      refine ⟨fun hs => ?_, k2, cs, e2, f2, k3, k4, k5, fun i j hi hj => CR.moreS hS (k6 i j hi hj)⟩
      rcases hs with hs | hs
      · exact k1 hs
      · exact (hb b2 hs.symm).2.1 r p m K hl2 hg2
    · rcases hk' with hs | hs
      · exact hr.heap.S k hs
      · have hlv : Live σ.o r [] sz (vR R) := ⟨_, hob, rfl⟩
        obtain ⟨_, _, cells, e, fz, hbl, _⟩ := h.heap.rows r [] sz (vR R) k hlv (hg.trans hs.symm)
        exact Nat.lt_of_lt_of_le (block_lt hbl) hk.size
  obtain ⟨g', k1, k2, _⟩ := hst.take (N := N) hk1 hr1 hpo (by rw [hd]; exact hf)
  rw [hd] at k2
  exact ⟨g', k1, k2⟩

variable {k : List Fr} {Q : Ex → St → Prop}

theorem viewV_plain {x x' : X} (h : isVX x = true) (hv : viewX o x = some x') : x' = x := by
  have cell : ∀ {c c' : C}, isV c = true → viewC o c = some c' → c' = c := fun {c c'} h hc => by
    cases c <;> first | (simp only [viewC, Option.some.injEq] at hc; exact hc.symm) | cases h
  cases x with
  | one c =>
    simp only [viewX, Option.map_eq_some_iff] at hv
    obtain ⟨c', h1, rfl⟩ := hv
    rw [cell h h1]
  | agg cs =>
    simp only [viewX, Option.map_eq_some_iff] at hv
    obtain ⟨cs', h1, rfl⟩ := hv
    congr 1
    simp only [isVX, List.all_eq_true] at h
    induction cs generalizing cs' with
    | nil => simp only [viewCs, Option.some.injEq] at h1; exact h1.symm
    | cons c cs ih =>
      simp only [viewCs] at h1
      split at h1
      · rename_i c1 cs1 e1 e2
        cases h1
        rw [cell (h c (List.mem_cons_self ..)) e1, ih cs1 e2 (fun x hx => h x (List.mem_cons_of_mem _ hx))]
      · cases h1

/-- Values that are plain, of operands. -/
def plainXs : List V → Option (List X)
  | [] => some []
  | .x x :: vs => if isVX x then (plainXs vs).map (x :: ·) else none
  | .tup _ :: _ => none

theorem plainXs_rel (h : Rel g0 w0 σ g a w) : ∀ (as : List Operand) (xs : List X), plainXs (as.map (ev σ)) = some xs →
    xs.length = as.length ∧ ∀ i, i < xs.length → ∀ (o' : Store) (g' : Gh), XR w o' g' (xs.getD i (.one .bad)) ((as.map a.eval).getD i undef)
  | [], xs, hv => by
    simp only [List.map_nil, plainXs, Option.some.injEq] at hv
    subst hv
    exact ⟨rfl, fun i hi => absurd hi (Nat.not_lt_zero _)⟩
  | q :: as, xs, hv => by
    have hr := ev_rel h q
    simp only [List.map_cons] at hv
    generalize ev σ q = v at hv hr
    cases v with
    | tup _ => simp [plainXs] at hv
    | x x =>
      simp only [plainXs] at hv
      split at hv
      · rename_i hp
        obtain ⟨xs', h2, rfl⟩ := Option.map_eq_some_iff.1 hv
        obtain ⟨e1, e2⟩ := plainXs_rel h as xs' h2
        refine ⟨by simp [e1], fun i hi o' g' => ?_⟩
        cases i with
        | zero => exact XR.ofV hp hr
        | succ i => simpa using e2 i (by simpa using hi) o' g'
      · cases hv

/-- What the caller gives along: a pointer to the variable, or the slice whole. -/
def ioArg (r : Root) (k : Kind) (sz len : Nat) : C := match k with | .box => .pt r [] sz 0 0 | _ => .rs r [] sz 0 len

theorem GoL_io {N : Tmp} {f : FuncId} {q : Operand} {as : List Operand} {as0 : Array Operand} {ats : Array TypeId} {ty : TypeId} {gd : Option (Tmp × Bool)} {l : List SOp} (r : Root) (kd : Kind) (sz : Nat) (R : List (List Value)) {args : List X} {R' : List (List Value)} {ret : List X}
    (has : as0.toList = q :: as) (hg : gdS σ.t ⟨some N, .call { callee := .value (.func f), args := as0, argTypes := ats }, ty, gd⟩ = some true) (hq : ev σ q = .x (.one (ioArg r kd sz R.length))) (hob : getA σ.o r = some ⟨kd, sz, vR R⟩) (hkd : kd = .box ∨ kd = .sl)
    (hv : plainXs (as.map (ev σ)) = some args) (hf : IoFn P f kd sz R args R' ret)
    (hp : poR (retRow ret) = true) (hr : freshR (ioSt σ r R').l (newRoots σ.d N 0 (retRow ret)) = true) (hk : GoL P l k (put (impSt (ioSt σ r R') N ret) (some N) (packT (impXs σ.d N 0 ret))) Q) :
    GoL P (⟨some N, .call { callee := .value (.func f), args := as0, argTypes := ats }, ty, gd⟩ :: l) k σ Q := by
  refine GoL_sem hg rfl fun g0 w0 g a w N' Q' hrel hnext => ?_
  obtain ⟨⟨fn, hfn, hname, hbody⟩, hlen, hok', h2⟩ := hf
  have hb : fn.body ≠ none := fun e => by simp [e] at hbody
  have hrun : (execOp a.eval (SOp.oper ⟨some N, .call { callee := .value (.func f), args := as0, argTypes := ats }, ty, gd⟩)).run P w = .ok (.enter f (as0.map a.eval)) w := by
    simp [SOp.oper, execOp, resolve, Deferred.ofValue, Act.eval, invoke, callFunc, program, hfn, hname, hb, Sem.run]
  have hpt := ev_rel hrel q
  rw [hq] at hpt
  have hlv2 : Live σ.o r [] sz (vR R) := ⟨_, hob, rfl⟩
  have hobk := hrel.obj r _ hob
  have hnone : g.G r [] = none → R = [] := fun hgn => by
    rcases hrel.heap.none r [] _ sz (vR R) hob rfl hgn with h | ⟨h, _⟩
    · have := congrArg List.length h; rw [vR_length] at this; exact List.eq_nil_of_length_eq_zero this
    · rcases hkd with e | e <;> rw [e] at h <;> cases h
  have hio : IoAt w (g.G r []) kd sz R.length (a.eval q) := by
    rcases hkd with rfl | rfl
    · obtain ⟨R2, b, hlv, _, hgb, hy⟩ := hpt
      exact ⟨b, hgb, by simpa using hy⟩
    · obtain ⟨R2, hlv, _, hs⟩ := hpt
      show SlAt _ w ioR [] sz 0 R.length _
      unfold SlAt at hs ⊢
      rw [Gat_G]
      exact hs
  obtain ⟨e1, e2⟩ := plainXs_rel hrel as args hv
  have hc := h2 w (g.G r []) (a.eval q) (as.map a.eval) hio hnone (fun b' hb' => by
    obtain ⟨_, hrl, cells, e, fz, hbl, hth, hsz, hcell⟩ := hrel.heap.rows r [] sz (vR R) b' hlv2 hb'
    rw [vR_length] at hsz hrl hcell
    refine ⟨cells, e, fz, hbl, hth, hsz, fun i j hi hj => ?_⟩
    have hj' : j < (R.getD i []).length := by have := hrl i hi; rw [vR_getD, List.length_map] at this; rw [this]; exact hj
    have := hcell i j hi hj
    rw [cellAt_vR hj'] at this
    exact this) (by simp [e1]) (fun i hi => e2 i hi _ _)
  have hargs : (a.eval q :: as.map a.eval).toArray = as0.map a.eval := by
    apply Array.ext'
    rw [Array.toList_map, has]; rfl
  rw [hargs] at hc
  unfold Oper.wp
  rw [hrun, Oper.upon_enter]
  refine hc.mono fun en w' he => ?_
  obtain ⟨gr, zs, rfl, hret, hkeep, c1⟩ := he
  obtain ⟨g', k1, k2⟩ := hrel.io (kd := kd) (sz := sz) hob rfl hnone hlen hok' hkeep hret c1 hp N hr
  exact hnext _ _ _ _ hk (k1.put (some N) k2)

end
end Go.Rx
