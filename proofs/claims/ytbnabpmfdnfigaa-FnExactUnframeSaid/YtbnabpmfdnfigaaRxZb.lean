/- Calls that write through a pointer or into a slice: the callee gets a pointer to a variable, or a slice, of its caller's, whose cells are plain values, and turns them. -/
import Derived.Test.YtbnabpmfdnfigaaRxZa
namespace Go.Rx
open Go.RowKit

/-- All that lay, but for one block. -/
def Sbut (w : World) (b : Option Nat) : Gh := ⟨fun _ _ => none, fun k => k < w.heap.size ∧ some k ≠ b⟩
/-- The root of the caller's variable. -/
def ioR : Root := (0, 1)

def isV : C → Bool
  | .v _ => true
  | _ => false
def isVX : X → Bool
  | .one c => isV c
  | .agg cs => cs.all isV

def vR (R : List (List Value)) : List (List C) := R.map (·.map .v)
/-- Where the rows lie. -/
def Gat (w : World) (b : Option Nat) : Gh := ⟨fun r p => if r = ioR ∧ p = [] then b else none, fun k => k < w.heap.size ∧ some k ≠ b⟩
def ioOb (k : Kind) (sz : Nat) (R : List (List Value)) : Obj' := ⟨k, sz, vR R⟩
/-- The argument that is written through, as the callee sees it: a pointer to a variable, or a slice. -/
def ioC (k : Kind) (sz len : Nat) : C := match k with | .box => .pt ioR [] sz 0 0 | _ => .rs ioR [] sz 0 len
def ioOk (k : Kind) (sz : Nat) (R : List (List Value)) : Prop := (k = .box ∧ 0 < R.length ∨ k = .sl) ∧ ∀ i, i < R.length → (R.getD i []).length = sz
def IoAt (w : World) (b : Option Nat) (k : Kind) (sz len : Nat) (y : Value) : Prop := match k with
  | .box => ∃ b', b = some b' ∧ y = .pointer (some ⟨b', 0, none⟩)
  | _ => SlAt (Gat w b) w ioR [] sz 0 len y

/-- 'f', called with a pointer to a variable (k = box) or a slice (k = sl) whose rows hold 'R', and with what reads as 'args', hands back what reads as 'ret', all of it new; the rows hold 'R'' then; nothing else turns. -/
def IoFn (P : Program) (f : FuncId) (k : Kind) (sz : Nat) (R : List (List Value)) (args : List X) (R' : List (List Value)) (ret : List X) : Prop :=
  Callable P f ∧ R'.length = R.length ∧ ioOk k sz R' ∧ ∀ (w : World) (b : Option Nat) (y : Value) (ys : List Value), IoAt w b k sz R.length y → (b = none → R = []) →
    (∀ b', b = some b' → ∃ cells e fz, w.heap[b']? = some (.cells cells e fz) ∧ Thaw fz cells.size ∧ R.length * sz ≤ cells.size ∧ ∀ i j, i < R.length → j < sz → cells.getD (i * sz + j) undef = (R.getD i []).getD j undef) →
    ys.length = args.length → (∀ i, i < args.length → XR w [] (Sbut w b) (args.getD i (.one .bad)) (ys.getD i undef)) →
    Calls P f (y :: ys).toArray w fun en w' => ∃ g zs, en = .returned (packV (packX ret zs)) ∧ RetR w' g ret zs ∧ Keep (Sbut w b) w g w' ∧
      ∀ b', b = some b' → ¬ g.S b' ∧ (∀ r p m K, Live (retStore ret) r p m K → g.G r p ≠ some b') ∧ ∀ cells e fz, w.heap[b']? = some (.cells cells e fz) →
        ∃ cells', w'.heap[b']? = some (.cells cells' e fz) ∧ cells'.size = cells.size ∧ ∀ i j, i < R'.length → j < sz → cells'.getD (i * sz + j) undef = (R'.getD i []).getD j undef

section
variable {P : Program} {w w0 w' : World} {g g0 gr : Gh} {σ : St} {a : Act} {o : Store}

theorem XR.ofV {o o' : Store} {g g' : Gh} {w w' : World} {x : X} {y : Value} (h : isVX x = true) (hx : XR w o g x y) : XR w' o' g' x y := by
  have cell : ∀ {c : C} {y : Value}, isV c = true → CR w o g none c y → CR w' o' g' none c y := fun {c y} h hc => by
    cases c <;> first | exact hc | cases h
  cases x with
  | one c => exact cell h hx
  | agg cs =>
    obtain ⟨ys, e1, e2, e3⟩ := hx
    refine ⟨ys, e1, e2, fun j hj => cell ?_ (e3 j hj)⟩
    have := List.all_eq_true.1 h (cs.getD j .bad)
    refine this ?_
    rw [List.getD_eq_getElem?_getD, List.getElem?_eq_getElem hj]; exact List.getElem_mem hj

theorem vR_length (R : List (List Value)) : (vR R).length = R.length := by simp [vR]
theorem vR_getD (R : List (List Value)) (i : Nat) : (vR R).getD i [] = (R.getD i []).map .v := by
  simp only [vR, List.getD_eq_getElem?_getD, List.getElem?_map]
  cases R[i]? <;> rfl
theorem vs_getD (r : List Value) (j : Nat) (hj : j < r.length) : (r.map C.v).getD j .bad = .v (r.getD j undef) := by
  simp [List.getD_eq_getElem?_getD, List.getElem?_map, List.getElem?_eq_getElem hj]
theorem cellAt_vR {R : List (List Value)} {i j : Nat} (hj : j < (R.getD i []).length) : cellAt (vR R) i j = .v ((R.getD i []).getD j undef) := by
  unfold cellAt; rw [vR_getD, vs_getD _ _ hj]
theorem noOwn_vR (R : List (List Value)) : noOwn (vR R) := by
  intro i j m Q hi hj hq
  rw [vR_getD, List.length_map] at hj
  rw [cellAt_vR hj] at hq; cases hq
theorem okObj_io {k : Kind} {sz : Nat} {R : List (List Value)} (h : ioOk k sz R) : okObj (ioOb k sz R) = true := by
  rcases h.1 with ⟨rfl, _⟩ | rfl
  · simp only [okObj, ioOb, vR, List.all_map, List.all_eq_true, Function.comp_apply]
    intro r _ c _; rfl
  · simp only [okObj, ioOb, vR]
    rw [nrRR_all]
    simp only [List.all_map, List.all_eq_true, Function.comp_apply]
    intro r hr
    clear hr
    induction r with
    | nil => rfl
    | cons x r ih => simp [nrR, nr, ih]
theorem Gat_G (w : World) (b : Option Nat) : (Gat w b).G ioR [] = b := by simp [Gat]

/-! ### the callee -/
def enterIO (fn : Func) (k : Kind) (sz : Nat) (R : List (List Value)) (args : List X) : St :=
  ⟨.x (.one (ioC k sz R.length)) :: (args.map .x ++ List.replicate (fn.ntmps - (args.length + 1)) (.x (.one .bad))), 1, [], [(ioR, ioOb k sz R)]⟩

theorem retG_some {cs : List C} {p : Path} {b : Nat} (h : (retG g cs).G rho p = some b) : ∃ j q r' p' s o l, p = (0, j) :: q ∧ cs.getD j .bad = .rs r' p' s o l ∧ g.G r' (p' ++ q) = some b := by
  simp only [retG, if_true] at h
  split at h
  · rename_i j q
    split at h
    · rename_i r' p' s o l hc
      exact ⟨j, q, r', p', s, o, l, rfl, hc, h⟩
    · cases h
  · cases h

theorem Rel.enterIO (fn : Func) {k : Kind} {sz : Nat} {R : List (List Value)} {args : List X} {y : Value} {ys : List Value} {b : Option Nat} (hok : ioOk k sz R) (hy : IoAt w b k sz R.length y) (hn : b = none → R = [])
    (hb : ∀ b', b = some b' → ∃ cells e fz, w.heap[b']? = some (.cells cells e fz) ∧ Thaw fz cells.size ∧ R.length * sz ≤ cells.size ∧ ∀ i j, i < R.length → j < sz → cells.getD (i * sz + j) undef = (R.getD i []).getD j undef)
    (hl : ys.length = args.length) (hx : ∀ i, i < args.length → XR w [] (Sbut w b) (args.getD i (.one .bad)) (ys.getD i undef)) (hv : args.all isVX = true) :
    Rel (Gat w b) w (enterIO fn k sz R args) (Gat w b) { tmps := (y :: ys).toArray ++ Array.replicate (fn.ntmps - (y :: ys).toArray.size) undef, defers := [] } w := by
  have hget : ∀ r, getA (Rx.enterIO fn k sz R args).o r = if ioR = r then some (ioOb k sz R) else none := fun r => rfl
  have hlive : Live (Rx.enterIO fn k sz R args).o ioR [] sz (vR R) := ⟨ioOb k sz R, by rw [hget, if_pos rfl], rfl⟩
  have hall : ∀ r p m Q, Live (Rx.enterIO fn k sz R args).o r p m Q → r = ioR ∧ p = [] ∧ m = sz ∧ Q = vR R := fun r p m Q ⟨ob, h1, h2⟩ => by
    rw [hget] at h1
    split at h1
    · rename_i e'
      cases h1
      exact ⟨e'.symm, rowsAt_noOwn (noOwn_vR R) h2⟩
    · cases h1
  have hG := Gat_G w b
  refine ⟨rfl, by simp [Rx.enterIO, hl]; omega, fun i hi => ?_, ⟨?_, ?_, ?_, ?_⟩, ⟨rfl, rfl, rfl, Nat.le_refl _, fun _ h => h, fun _ _ => rfl⟩, fun _ _ h => (by cases h), ?_, ?_, ?_, ?_⟩
  · cases i with
    | zero =>
      show XR w _ _ (.one (ioC k sz R.length)) _
      rcases hok.1 with ⟨rfl, hpos⟩ | rfl
      · obtain ⟨b', e1, e2⟩ := hy
        exact ⟨_, b', hlive, by rw [vR_length]; exact hpos, by rw [hG, e1], by simp [Array.getD, e2]⟩
      · exact ⟨_, hlive, by rw [vR_length, Nat.zero_add]; exact Nat.le_refl _, by
          have : (((y :: ys).toArray ++ Array.replicate (fn.ntmps - (y :: ys).toArray.size) undef).getD 0 undef) = y := by simp [Array.getD]
          rw [this]; exact hy⟩
    | succ i =>
      show VR w _ _ ((args.map V.x ++ List.replicate (fn.ntmps - (args.length + 1)) (V.x (.one .bad))).getD i (V.x (.one .bad))) _
      by_cases h : i < args.length
      · have := XR.ofV (o' := (Rx.enterIO fn k sz R args).o) (g' := Gat w b) (w' := w) (by
          refine List.all_eq_true.1 hv _ ?_
          rw [List.getD_eq_getElem?_getD, List.getElem?_eq_getElem h]; exact List.getElem_mem h) (hx i h)
        have h2 : i < ys.length := by omega
        simpa [List.getD_eq_getElem?_getD, List.getElem?_append_left, List.getElem?_map, h, Array.getD_eq_getD_getElem?, Array.getElem?_append, h2, VR] using this
      · have : (args.map V.x ++ List.replicate (fn.ntmps - (args.length + 1)) (V.x (.one .bad))).getD i (V.x (.one .bad)) = .x (.one .bad) := by
          rw [List.getD_eq_getElem?_getD, List.getElem?_append_right (by simpa using h)]
          simp only [List.getElem?_replicate]
          split <;> rfl
        rw [this]; trivial
  · intro r p m Q b' hlv hg
    obtain ⟨rfl, rfl, rfl, rfl⟩ := hall r p m Q hlv
    rw [hG] at hg; subst hg
    obtain ⟨cells, e, fz, h1, h2, h3, h4⟩ := hb b' rfl
    refine ⟨fun h => h.2 rfl, fun i hi => ?_, cells, e, fz, h1, h2, by rw [vR_length]; exact h3, fun i j hi hj => ?_⟩
    · rw [vR_length] at hi; rw [vR_getD, List.length_map]; exact hok.2 i hi
    · rw [vR_length] at hi
      rw [cellAt_vR (by rw [hok.2 i hi]; exact hj)]
      exact h4 i j hi hj
  · intro r p ob m Q h1 h2 hg
    obtain ⟨rfl, rfl, _, rfl⟩ := hall r p m Q ⟨ob, h1, h2⟩
    rw [hG] at hg
    rw [hn hg]; exact .inl rfl
  · intro r p m Q r' p' m' Q' b' hl1 hl2 _ _
    obtain ⟨rfl, rfl, _⟩ := hall _ _ _ _ hl1
    obtain ⟨rfl, rfl, _⟩ := hall _ _ _ _ hl2
    exact ⟨rfl, rfl⟩
  · exact fun k hk => hk.1
  · intro r ob h
    have h' : (if ioR = r then some (ioOb k sz R) else none) = some ob := h
    split at h'
    · rename_i e'; rw [← e']; exact Nat.zero_lt_one
    · cases h'
  · intro r ob h
    rw [hget] at h
    split at h
    · cases h; exact okObj_io hok
    · cases h
  · intro r ob h i j r' hi hj href
    have h' : (if ioR = r then some (ioOb k sz R) else none) = some ob := h
    split at h'
    · cases h'
      have hj' : j < ((vR R).getD i []).length := hj
      rw [vR_getD, List.length_map] at hj'
      rw [show cellAt (ioOb k sz R).rows i j = _ from cellAt_vR hj'] at href
      cases href
    · cases h'
  · intro r b' hb'
    have h' : (if r = ioR ∧ ([] : Path) = [] then b else none) = some b' := hb'
    split at h'
    · rename_i e'
      refine ⟨⟨ioOb k sz R, by rw [e'.1]; rfl⟩, hb', fun cs e2 f2 hcs => ⟨cs, hcs, rfl⟩⟩
    · cases h'

def notIo (cs : List C) : Bool := cs.all fun c => match c with | .rs r _ _ _ _ => decide (r ≠ ioR) | _ => true

theorem IoFn_of_WW {f : FuncId} {fn : Func} {c : Code} (hf : P.funcs[f]? = some fn) (hb : fn.body = some c) (hn : fn.name ≠ "runtime.NumGoroutine") {k : Kind} {sz : Nat} {R R' : List (List Value)} {args ret : List X}
    (hok : ioOk k sz R) (hok' : ioOk k sz R') (hv : args.all isVX = true) (hlen : R'.length = R.length)
    (h : W wop wdraw P c (enterIO fn k sz R args) fun e σ0 => (e = .normal ∨ e = .ret) ∧ ∃ σ, Weak σ0 σ ∧ getA σ.g ioR = some (ioOb k sz R') ∧ ∃ xr, resXs P σ fn.results.toList = some xr ∧ expXs σ.o xr = some ret ∧ apartAll ((retRow xr).map locC) = true ∧ notIo (retRow xr) = true) : IoFn P f k sz R args R' ret := by
  refine ⟨⟨fn, hf, hn, by rw [hb]; rfl⟩, hlen, hok', fun w b y ys hy hnone hbl hl hx => ?_⟩
  refine calls_of_wp hf hb (wp_mono (W_sound (g0 := Gat w b) (w0 := w) wop_sound wdraw_sound c _ _ _ _ _ h (Rel.enterIO fn hok hy hnone hbl hl hx hv)) fun e' a' w' hp => ?_)
  obtain ⟨e1, h1, σ0, g0, ⟨h2, σ, hwk, hio, xr, h4, h5, h6, h7⟩, h30⟩ := hp
  obtain ⟨g, h3⟩ := hwk _ _ _ _ _ h30
  have fin : a'.defers = [] ∧ ∃ v, (results fn a'.tmps).run P w' = .ok v w' ∧ ∃ gr zs, Ending.returned v = .returned (packV (packX ret zs)) ∧ RetR w' gr ret zs ∧ Keep (Sbut w b) w gr w' ∧
      ∀ b', b = some b' → ¬ gr.S b' ∧ (∀ r p m K, Live (retStore ret) r p m K → gr.G r p ≠ some b') ∧ ∀ cells e fz, w.heap[b']? = some (.cells cells e fz) →
        ∃ cells', w'.heap[b']? = some (.cells cells' e fz) ∧ cells'.size = cells.size ∧ ∀ i j, i < R'.length → j < sz → cells'.getD (i * sz + j) undef = (R'.getD i []).getD j undef := by
    refine ⟨h3.defers, ?_⟩
    obtain ⟨us, k1, k2, k3⟩ := resXs_run (P := P) h3 (F := resF a'.tmps) (fun _ => rfl) (fun _ _ => rfl) fn.results.toList xr h4
    obtain ⟨f1, f2, f3, f4⟩ := flatY_rel xr ret us h5 k2 k3
    have hdg : 0 < σ.d := h3.out ioR _ hio
    have hlo : getA σ.l ioR = none := by
      cases hq : getA σ.l ioR with
      | none => rfl
      | some ob => have := h3.loc _ _ hq; simp [ioR] at this; omega
    have hgo : getA σ.o ioR = some (ioOb k sz R') := by
      show getA (σ.l ++ σ.g) ioR = _
      rw [getA_append, hlo]; exact hio
    have hlv : Live σ.o ioR [] sz (vR R') := ⟨_, hgo, rfl⟩
    refine ⟨packV us, ?_, retG g (retRow xr), flatY xr us, by rw [f3], export_rel h3.heap (fun r ob hr hk => by have := h3.obj r ob hr; simp [okObj, hk] at this) f2 h6 f1 f4, ?_, fun b' hbb => ?_⟩
    · have hm : ∀ F : ResultVar → Sem Value, (∀ t, F (.tmp t) = pure (a'.tmps.getD t undef)) → (∀ b t, F (.cell b t) = do loadVar t (← asAddr (a'.tmps.getD b undef))) → (fn.results.mapM F).run P w' = .ok us.toArray w' := by
        intro F F1 F2
        have : F = resF a'.tmps := funext fun r => by
          cases r with
          | tmp t => exact F1 t
          | cell b t => exact F2 b t
        rw [this, Array.mapM_eq_mapM_toList, Sem.run_map, k1]; rfl
      unfold results
      rw [Sem.run_bind, hm _ (fun _ => rfl) (fun _ _ => rfl), Result.andThen_ok, Sem.run_pure]
      congr 1
      match us with
      | [] => rfl
      | [u] => rfl
      | u :: v :: us => simp [packV]
    · exact ⟨h3.keep.os, h3.keep.tape, h3.keep.output, h3.keep.size, h3.keep.S, h3.keep.block⟩
    · subst hbb
      obtain ⟨p1, p2, p3⟩ := h3.pin ioR b' (Gat_G w (some b'))
      obtain ⟨r1, r2, cells2, e2, fz2, r3, r4, r5, r6⟩ := h3.heap.rows ioR [] _ _ b' hlv p2
      refine ⟨r1, fun r p m K hlr hg => ?_, fun cells e fz hcells => ?_⟩
      · by_cases hr : r = rho
        · subst hr
          obtain ⟨j, q, r', p', s', o', l', rfl, hcell, hg'⟩ := retG_some hg
          have hmem : (retRow xr).getD j .bad ∈ retRow xr := by
            by_cases hj : j < (retRow xr).length
            · rw [List.getD_eq_getElem?_getD, List.getElem?_eq_getElem hj]; exact List.getElem_mem hj
            · rw [List.getD_eq_getElem?_getD, List.getElem?_eq_none (by omega)] at hcell; cases hcell
          have hne := List.all_eq_true.1 h7 _ hmem
          rw [hcell] at hne
          have hne' : r' ≠ ioR := by simpa using hne
          have hjl : j < (retRow xr).length := by
            rcases Nat.lt_or_ge j (retRow xr).length with h' | h'
            · exact h'
            · rw [List.getD_eq_getElem?_getD, List.getElem?_eq_none h'] at hcell; cases hcell
          obtain ⟨ob, hb1, hb2⟩ := hlr
          have hob : ob = ⟨.vr, (retRow ret).length, [retRow ret]⟩ := by
            simp only [retStore, getA, if_true] at hb1; exact (Option.some.inj hb1).symm
          subst hob
          simp only [rowsAt] at hb2
          split at hb2
          · rename_i s R hbnd
            obtain ⟨_, m2, m3⟩ := bind_cell hbnd
            have m3' : (retRow ret).getD j .bad = .own s R := by simpa [cellAt] using m3
            have hexp := expR_get f2 j hjl
            rw [m3'] at hexp
            obtain ⟨r3, p3', e3, e4, _⟩ := expC_own hexp
            rw [hcell] at e3
            cases e3
            obtain ⟨ob3, o1, o2⟩ := e4
            have hlv2 : Live σ.o r' (p' ++ q) m K := ⟨ob3, o1, rowsAt_append o2 hb2⟩
            exact hne' (h3.heap.inj _ _ _ _ _ _ _ _ b' hlv2 hlv hg' p2).1
          · cases hb2
        · simp [retG, hr] at hg
      · obtain ⟨cells', q1, q2⟩ := p3 cells e fz hcells
        rw [q1] at r3
        cases r3
        refine ⟨_, q1, q2, fun i j hi hj => ?_⟩
        have := r6 i j (by rw [vR_length]; exact hi) hj
        rw [cellAt_vR (by rw [hok'.2 i hi]; exact hj)] at this
        exact this
  cases e' with
  | normal => exact fin
  | ret => exact fin
  | exit id => cases h1; rcases h2 with h2 | h2 <;> cases h2
  | _ => cases h1

/-- What is asked at the end. -/
def ioFin (P : Program) (fn : Func) (k : Kind) (sz : Nat) (R' : List (List Value)) (ret : List X) (σ : St) : Prop :=
  getA σ.g ioR = some (ioOb k sz R') ∧ ∃ xr, resXs P σ fn.results.toList = some xr ∧ expXs σ.o xr = some ret ∧ apartAll ((retRow xr).map locC) = true ∧ notIo (retRow xr) = true
theorem IoFn_of_GoW {f : FuncId} {fn : Func} {c : Code} (hf : P.funcs[f]? = some fn) (hb : fn.body = some c) (hn : fn.name ≠ "runtime.NumGoroutine") (hm : P.follows .mixedOrders = true) (hd : drawsOk c = true) {k : Kind} {sz : Nat} {R R' : List (List Value)} {args ret : List X}
    (hok : ioOk k sz R) (hok' : ioOk k sz R') (hv : args.all isVX = true) (hlen : R'.length = R.length)
    (h : Go P (slim c) [] (enterIO fn k sz R args) fun e σ0 => (e = .normal ∨ e = .ret) ∧ ∃ σ, Weak σ0 σ ∧ ioFin P fn k sz R' ret σ) : IoFn P f k sz R args R' ret :=
  IoFn_of_WW hf hb hn hok hok' hv hlen (WS_sound hm c hd _ _ h)
theorem IoFn_of_Go {f : FuncId} {fn : Func} {c : Code} (hf : P.funcs[f]? = some fn) (hb : fn.body = some c) (hn : fn.name ≠ "runtime.NumGoroutine") (hm : P.follows .mixedOrders = true) (hd : drawsOk c = true) {k : Kind} {sz : Nat} {R R' : List (List Value)} {args ret : List X}
    (hok : ioOk k sz R) (hok' : ioOk k sz R') (hv : args.all isVX = true) (hlen : R'.length = R.length)
    (h : Go P (slim c) [] (enterIO fn k sz R args) fun e σ => (e = .normal ∨ e = .ret) ∧ ioFin P fn k sz R' ret σ) : IoFn P f k sz R args R' ret :=
  IoFn_of_WW hf hb hn hok hok' hv hlen (Wmono c _ _ _ (fun _ _ hq => ⟨hq.1, _, Weak.refl _, hq.2⟩) (WS_sound hm c hd _ _ h))

end
end Go.Rx
