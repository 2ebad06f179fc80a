/- A body that comes to its results is a function of data. -/
import Derived.Test.YtbnabpmfdnfigaaRxM
namespace Go.Rx
open Go.RowKit

def resV (P : Program) (σ : St) : ResultVar → Option V
  | .tmp t => some (σ.t.getD t (.x (.one .bad)))
  | .cell a t => loadV P σ.o t (σ.t.getD a (.x (.one .bad)))
def resXs (P : Program) (σ : St) : List ResultVar → Option (List X)
  | [] => some []
  | r :: rs => match resV P σ r, resXs P σ rs with
    | some (.x x), some xs => some (x :: xs)
    | _, _ => none
def expX (o : Store) : X → Option X
  | .one c => (expC o c).map .one
  | .agg cs => (expR o cs).map .agg
def expXs (o : Store) : List X → Option (List X)
  | [] => some []
  | x :: xs => match expX o x, expXs o xs with
    | some x, some xs => some (x :: xs)
    | _, _ => none

/-- The results of the state are 'ret', rows of its own going along. -/
def resOk (P : Program) (fn : Func) (σ : St) (ret : List X) : Prop :=
  ∃ xs, resXs P σ fn.results.toList = some xs ∧ expXs σ.o xs = some ret ∧ apartAll ((retRow xs).map locC) = true

def resF (tmps : Array Value) : ResultVar → Sem Value
  | .tmp t => pure (tmps.getD t undef)
  | .cell b t => do loadVar t (← asAddr (tmps.getD b undef))

def enterSt (fn : Func) (args : List X) : St := ⟨args.map .x ++ List.replicate (fn.ntmps - args.length) (.x (.one .bad)), 0, [], []⟩

section
variable {P : Program} {w w0 w' : World} {g g0 gr : Gh} {σ : St} {a : Act}

theorem HeapRel.empty (w : World) : HeapRel w [] (Sall w) :=
  ⟨fun _ _ _ _ _ ⟨_, h, _⟩ => (by cases h), fun _ _ _ _ _ h => (by cases h), fun _ _ _ _ _ _ _ _ _ ⟨_, h, _⟩ => (by cases h), fun _ h => h⟩

theorem Keep.refl (w : World) (g : Gh) : Keep g w g w := ⟨rfl, rfl, rfl, Nat.le_refl _, fun _ h => h, fun _ _ => rfl⟩

theorem Rel.enter (fn : Func) {args : List X} {ys : List Value} (hl : ys.length = args.length) (hx : ∀ i, i < args.length → XR w [] (Sall w) (args.getD i (.one .bad)) (ys.getD i undef)) :
    Rel (Sall w) w (enterSt fn args) (Sall w) { tmps := ys.toArray ++ Array.replicate (fn.ntmps - ys.toArray.size) undef, defers := [] } w := by
  refine ⟨rfl, by simp [enterSt, hl], fun i hi => ?_, HeapRel.empty w, Keep.refl _ _, fun _ _ h => (by cases h), fun _ _ h => (by cases h), fun _ _ h => (by cases h), fun _ _ h => (by cases h), fun _ _ h => (by cases h)⟩
  show VR w [] (Sall w) ((args.map V.x ++ List.replicate (fn.ntmps - args.length) (V.x (.one .bad))).getD i (V.x (.one .bad))) _
  by_cases h : i < args.length
  · have := hx i h
    have h2 : i < ys.length := by omega
    simpa [List.getD_eq_getElem?_getD, List.getElem?_append_left, List.getElem?_map, h, Array.getD_eq_getD_getElem?, Array.getElem?_append, h2, VR] using this
  · have : (args.map V.x ++ List.replicate (fn.ntmps - args.length) (V.x (.one .bad))).getD i (V.x (.one .bad)) = .x (.one .bad) := by
      rw [List.getD_eq_getElem?_getD, List.getElem?_append_right (by simpa using h)]
      simp only [List.getElem?_replicate]
      split <;> rfl
    rw [this]; trivial

theorem resV_run (h : Rel g0 w0 σ g a w) {F : ResultVar → Sem Value} (F1 : ∀ t, F (.tmp t) = pure (a.tmps.getD t undef)) (F2 : ∀ b t, F (.cell b t) = do loadVar t (← asAddr (a.tmps.getD b undef)))
    {r : ResultVar} {v : V} (hv : resV P σ r = some v) : ∃ y, (F r).run P w = .ok y w ∧ VR w σ.o g v y := by
  cases r with
  | tmp t => simp only [resV, Option.some.injEq] at hv; subst hv; exact ⟨a.tmps.getD t undef, by rw [F1]; rfl, ev_rel h (.tmp t)⟩
  | cell b t =>
    simp only [resV] at hv
    obtain ⟨y, h1, h2⟩ := loadV_run h.heap hv (ev_rel h (.tmp b))
    refine ⟨y, ?_, h2⟩
    simp only [Instr.loadAt, Sem.run_bind, Act.eval] at h1
    rw [F2]
    simp only [Sem.run_bind]
    generalize a.tmps.getD b undef = u at h1 ⊢
    cases u with
    | pointer q =>
      cases q with
      | some q => simpa [Instr.sureAddr, asAddr] using h1
      | none => simp [Instr.sureAddr, stuck, Result.andThen] at h1
    | _ => simp [Instr.sureAddr, stuck, Result.andThen] at h1

theorem resXs_run (h : Rel g0 w0 σ g a w) {F : ResultVar → Sem Value} (F1 : ∀ t, F (.tmp t) = pure (a.tmps.getD t undef)) (F2 : ∀ b t, F (.cell b t) = do loadVar t (← asAddr (a.tmps.getD b undef))) :
    ∀ (rs : List ResultVar) (xs : List X), resXs P σ rs = some xs →
    ∃ ys : List Value, (rs.mapM F).run P w = .ok ys w ∧ ys.length = xs.length ∧ ∀ i, i < xs.length → XR w σ.o g (xs.getD i (.one .bad)) (ys.getD i undef)
  | [], xs, hx => by simp only [resXs, Option.some.injEq] at hx; subst hx; exact ⟨[], by simp, rfl, fun i hi => absurd hi (Nat.not_lt_zero _)⟩
  | r :: rs, xs, hx => by
    simp only [resXs] at hx
    split at hx
    · rename_i x xs' h1 h2
      cases hx
      obtain ⟨y, k1, k2⟩ := resV_run h F1 F2 h1
      obtain ⟨ys, e1, e2, e3⟩ := resXs_run h F1 F2 rs xs' h2
      refine ⟨y :: ys, ?_, by simp [e2], fun i hi => ?_⟩
      · rw [List.mapM_cons, Sem.run_bind, k1, Result.andThen_ok, Sem.run_bind, e1]; rfl
      · cases i with
        | zero => exact k2
        | succ i => simpa using e3 i (by simpa using hi)
    · cases hx

/-- The cells of values, one behind the other. -/
def flatY : List X → List Value → List Value
  | [], _ => []
  | .one _ :: xs, ys => ys.headD undef :: flatY xs (ys.drop 1)
  | .agg _ :: xs, ys => (ys.headD undef).cells.toList ++ flatY xs (ys.drop 1)

theorem flatY_rel {o : Store} : ∀ (xs rets : List X) (ys : List Value), expXs o xs = some rets → ys.length = xs.length → (∀ i, i < xs.length → XR w o g (xs.getD i (.one .bad)) (ys.getD i undef)) →
    (flatY xs ys).length = (retRow xs).length ∧ expR o (retRow xs) = some (retRow rets) ∧ packX rets (flatY xs ys) = ys ∧
    ∀ j, j < (retRow xs).length → CR w o g none ((retRow xs).getD j .bad) ((flatY xs ys).getD j undef)
  | [], rets, ys, he, hl, _ => by
    simp only [expXs, Option.some.injEq] at he
    subst he
    obtain rfl : ys = [] := by simpa using hl
    exact ⟨rfl, rfl, rfl, fun j hj => absurd hj (Nat.not_lt_zero _)⟩
  | x :: xs, rets, ys, he, hl, hx => by
    simp only [expXs] at he
    split at he
    · rename_i x' rets' h1 h2
      cases he
      match ys, hl with
      | y :: ys, hl =>
        have h0 := hx 0 (by simp)
        simp only [List.getD_cons_zero] at h0
        obtain ⟨e1, e2, e3, e4⟩ := flatY_rel xs rets' ys h2 (by simpa using hl) (fun i hi => by simpa using hx (i + 1) (by simpa using hi))
        have expR_app : ∀ (as bs as' bs' : List C), expR o as = some as' → expR o bs = some bs' → expR o (as ++ bs) = some (as' ++ bs') := by
          intro as; induction as with
          | nil => intro bs as' bs' ha hb; simp only [expR, Option.some.injEq] at ha; subst ha; exact hb
          | cons c as ih =>
            intro bs as' bs' ha hb
            simp only [expR] at ha
            split at ha
            · rename_i c' cs' k1 k2
              cases ha
              simp only [List.cons_append, expR, k1, ih bs _ bs' k2 hb]
            · cases ha
        cases x with
        | one c =>
          simp only [expX, Option.map_eq_some_iff] at h1
          obtain ⟨c', k1, rfl⟩ := h1
          refine ⟨by simp [flatY, retRow, cellsOf, e1, Nat.add_comm], ?_, by simp [flatY, packX, e3], fun j hj => ?_⟩
          · exact expR_app [c] (retRow xs) [c'] (retRow rets') (by simp [expR, k1]) e2
          · cases j with
            | zero => exact h0
            | succ j => simpa [flatY, retRow, cellsOf] using e4 j (by simp [retRow, cellsOf] at hj; omega)
        | agg cs =>
          simp only [expX, Option.map_eq_some_iff] at h1
          obtain ⟨cs', k1, rfl⟩ := h1
          obtain ⟨us, rfl, f1, f2⟩ := h0
          have hcl : cs'.length = us.length := by rw [expR_length k1, f1]
          refine ⟨by simp [flatY, retRow, cellsOf, e1, Value.cells, f1], expR_app _ _ _ _ k1 e2, ?_, fun j hj => ?_⟩
          · simp only [flatY, List.headD_cons, Value.cells, packX, hcl, List.take_left', List.drop_left', List.drop_succ_cons, List.drop_zero]
            rw [e3]
          · simp only [retRow, cellsOf, List.length_append] at hj
            simp only [flatY, List.headD_cons, Value.cells, retRow, cellsOf, List.drop_succ_cons, List.drop_zero]
            by_cases hj' : j < cs.length
            · have := f2 j hj'
              simpa [List.getD_eq_getElem?_getD, List.getElem?_append_left hj', List.getElem?_append_left (show j < us.length by omega)] using this
            · have := e4 (j - cs.length) (by omega)
              have hge : cs.length ≤ j := Nat.le_of_not_lt hj'
              simp only [List.getD_eq_getElem?_getD, List.getElem?_append_right hge, List.getElem?_append_right (show us.length ≤ j by omega), f1] at this ⊢
              exact this
    · cases he

theorem PureFn_of_WW {f : FuncId} {fn : Func} {c : Code} {wd : DrawW} (hf : P.funcs[f]? = some fn) (hb : fn.body = some c) (hn : fn.name ≠ "runtime.NumGoroutine") (hwd : DrawSound wd P) {args ret : List X}
    (h : W wop wd P c (enterSt fn args) fun e σ => (e = .normal ∨ e = .ret) ∧ ∃ σ', Weak σ σ' ∧ resOk P fn σ' ret) : PureFn P f args ret := by
  refine ⟨⟨fn, hf, hn, by rw [hb]; rfl⟩, fun w ys hl hx => ?_⟩
  refine calls_of_wp hf hb (wp_mono (W_sound (g0 := Sall w) (w0 := w) wop_sound hwd c _ _ _ _ _ h (Rel.enter fn hl hx)) fun e a' w' hp => ?_)
  obtain ⟨e', h1, σ0, g0', ⟨h2, σ, hwk, xs, h4, h5, h6⟩, h30⟩ := hp
  obtain ⟨g, h3⟩ := hwk _ _ _ _ _ h30
  have fin : a'.defers = [] ∧ ∃ v, (results fn a'.tmps).run P w' = .ok v w' ∧ ∃ gr zs, Ending.returned v = .returned (packV (packX ret zs)) ∧ RetR w' gr ret zs ∧ Keep (Sall w) w gr w' := by
    refine ⟨h3.defers, ?_⟩
    obtain ⟨us, e1, e2, e3⟩ := resXs_run (P := P) h3 (F := resF a'.tmps) (fun _ => rfl) (fun _ _ => rfl) fn.results.toList xs h4
    obtain ⟨f1, f2, f3, f4⟩ := flatY_rel xs ret us h5 e2 e3
    refine ⟨packV us, ?_, retG g (retRow xs), flatY xs us, by rw [f3], export_rel h3.heap (fun r ob hr hk => by have := h3.obj r ob hr; simp [okObj, hk] at this) f2 h6 f1 f4, ?_⟩
    · have hm : ∀ F : ResultVar → Sem Value, (∀ t, F (.tmp t) = pure (a'.tmps.getD t undef)) → (∀ b t, F (.cell b t) = do loadVar t (← asAddr (a'.tmps.getD b undef))) → (fn.results.mapM F).run P w' = .ok us.toArray w' := by
        intro F F1 F2
        have : F = resF a'.tmps := funext fun r => by
          cases r with
          | tmp t => exact F1 t
          | cell b t => exact F2 b t
        rw [this, Array.mapM_eq_mapM_toList, Sem.run_map, e1]; rfl
      unfold results
      rw [Sem.run_bind, hm _ (fun _ => rfl) (fun _ _ => rfl), Result.andThen_ok, Sem.run_pure]
      congr 1
      match us with
      | [] => rfl
      | [u] => rfl
      | u :: v :: us => simp [packV]
    · exact ⟨h3.keep.os, h3.keep.tape, h3.keep.output, h3.keep.size, h3.keep.S, h3.keep.block⟩
  cases e with
  | normal => exact fin
  | ret => exact fin
  | exit id => cases h1; rcases h2 with h2 | h2 <;> cases h2
  | _ => cases h1

end
end Go.Rx
