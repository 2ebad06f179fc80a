/- An abstract machine over data, part IIIa. -/
import Derived.Test.YthhgmnpodgmlkaaRxII
import Derived.Orders
namespace Go.Rx
open Go.RowKit
def resV (P : Program) (σ : St) : ResultVar → Option V
  | .tmp t => some (σ.t.getD t (.x (.one .bad)))
  | .cell a t => loadV P σ.o t (σ.t.getD a (.x (.one .bad)))
def resXs (P : Program) (σ : St) : List ResultVar → Option (List X)
  | [] => some []
  | r :: rs => match resV P σ r, resXs P σ rs with
    | some (.x x), some xs => some (x :: xs)
    | _, _ => none
def expX (o : Store) : X → Option X
  | .one c => (expC o c).map .one
  | .agg cs => (expR o cs).map .agg
def expXs (o : Store) : List X → Option (List X)
  | [] => some []
  | x :: xs => match expX o x, expXs o xs with
    | some x, some xs => some (x :: xs)
    | _, _ => none
def resOk (P : Program) (fn : Func) (σ : St) (ret : List X) : Prop :=
  ∃ xs, resXs P σ fn.results.toList = some xs ∧ expXs σ.o xs = some ret ∧ apartAll ((retRow xs).map locC) = true
def resF (tmps : Array Value) : ResultVar → Sem Value
  | .tmp t => pure (tmps.getD t undef)
  | .cell b t => do loadVar t (← asAddr (tmps.getD b undef))
def enterSt (fn : Func) (args : List X) : St := ⟨args.map .x ++ List.replicate (fn.ntmps - args.length) (.x (.one .bad)), 0, [], []⟩
section
variable {P : Program} {w w0 w' : World} {g g0 gr : Gh} {σ : St} {a : Act}
theorem HeapRel.empty (w : World) : HeapRel w [] (Sall w) :=
  ⟨fun _ _ _ _ _ ⟨_, h, _⟩ => (by cases h), fun _ _ _ _ _ h => (by cases h), fun _ _ _ _ _ _ _ _ _ ⟨_, h, _⟩ => (by cases h), fun _ h => h⟩
theorem Keep.refl (w : World) (g : Gh) : Keep g w g w := ⟨rfl, rfl, rfl, Nat.le_refl _, fun _ h => h, fun _ _ => rfl⟩
theorem Rel.enter (fn : Func) {args : List X} {ys : List Value} (hl : ys.length = args.length) (hx : ∀ i, i < args.length → XR w [] (Sall w) (args.getD i (.one .bad)) (ys.getD i undef)) :
    Rel (Sall w) w (enterSt fn args) (Sall w) { tmps := ys.toArray ++ Array.replicate (fn.ntmps - ys.toArray.size) undef, defers := [] } w := by
  refine ⟨rfl, by simp [enterSt, hl], fun i hi => ?_, HeapRel.empty w, Keep.refl _ _, fun _ _ h => (by cases h), fun _ _ h => (by cases h), fun _ _ h => (by cases h), MapsOk.nil _ _, Pin.of_nil _ _ _ _⟩
  show VR w [] (Sall w) ((args.map V.x ++ List.replicate (fn.ntmps - args.length) (V.x (.one .bad))).getD i (V.x (.one .bad))) _
  by_cases h : i < args.length
  · have := hx i h
    have h2 : i < ys.length := by omega
    simpa [List.getD_eq_getElem?_getD, List.getElem?_append_left, List.getElem?_map, h, Array.getD_eq_getD_getElem?, Array.getElem?_append, h2, VR] using this
  · have : (args.map V.x ++ List.replicate (fn.ntmps - args.length) (V.x (.one .bad))).getD i (V.x (.one .bad)) = .x (.one .bad) := by
      rw [List.getD_eq_getElem?_getD, List.getElem?_append_right (by simpa using h)]
      simp only [List.getElem?_replicate]
      split <;> rfl
    rw [this]; trivial
theorem resV_run (h : Rel g0 w0 σ g a w) {F : ResultVar → Sem Value} (F1 : ∀ t, F (.tmp t) = pure (a.tmps.getD t undef)) (F2 : ∀ b t, F (.cell b t) = do loadVar t (← asAddr (a.tmps.getD b undef)))
    {r : ResultVar} {v : V} (hv : resV P σ r = some v) : ∃ y, (F r).run P w = .ok y w ∧ VR w σ.o g v y := by
  cases r with
  | tmp t => simp only [resV, Option.some.injEq] at hv; subst hv; exact ⟨a.tmps.getD t undef, by rw [F1]; rfl, ev_rel h (.tmp t)⟩
  | cell b t =>
    simp only [resV] at hv
    obtain ⟨y, h1, h2⟩ := loadV_run h.heap hv (ev_rel h (.tmp b))
    refine ⟨y, ?_, h2⟩
    simp only [Instr.loadAt, Sem.run_bind, Act.eval] at h1
    rw [F2]
    simp only [Sem.run_bind]
    generalize a.tmps.getD b undef = u at h1 ⊢
    cases u with
    | pointer q =>
      cases q with
      | some q => simpa [Instr.sureAddr, asAddr] using h1
      | none => simp [Instr.sureAddr, stuck, Result.andThen] at h1
    | _ => simp [Instr.sureAddr, stuck, Result.andThen] at h1
theorem resXs_run (h : Rel g0 w0 σ g a w) {F : ResultVar → Sem Value} (F1 : ∀ t, F (.tmp t) = pure (a.tmps.getD t undef)) (F2 : ∀ b t, F (.cell b t) = do loadVar t (← asAddr (a.tmps.getD b undef))) :
    ∀ (rs : List ResultVar) (xs : List X), resXs P σ rs = some xs →
    ∃ ys : List Value, (rs.mapM F).run P w = .ok ys w ∧ ys.length = xs.length ∧ ∀ i, i < xs.length → XR w σ.o g (xs.getD i (.one .bad)) (ys.getD i undef)
  | [], xs, hx => by simp only [resXs, Option.some.injEq] at hx; subst hx; exact ⟨[], by simp, rfl, fun i hi => absurd hi (Nat.not_lt_zero _)⟩
  | r :: rs, xs, hx => by
    simp only [resXs] at hx
    split at hx
    · rename_i x xs' h1 h2
      cases hx
      obtain ⟨y, k1, k2⟩ := resV_run h F1 F2 h1
      obtain ⟨ys, e1, e2, e3⟩ := resXs_run h F1 F2 rs xs' h2
      refine ⟨y :: ys, ?_, by simp [e2], fun i hi => ?_⟩
      · rw [List.mapM_cons, Sem.run_bind, k1, Result.andThen_ok, Sem.run_bind, e1]; rfl
      · cases i with
        | zero => exact k2
        | succ i => simpa using e3 i (by simpa using hi)
    · cases hx
def flatY : List X → List Value → List Value
  | [], _ => []
  | .one _ :: xs, ys => ys.headD undef :: flatY xs (ys.drop 1)
  | .agg _ :: xs, ys => (ys.headD undef).cells.toList ++ flatY xs (ys.drop 1)
theorem flatY_rel {o : Store} : ∀ (xs rets : List X) (ys : List Value), expXs o xs = some rets → ys.length = xs.length → (∀ i, i < xs.length → XR w o g (xs.getD i (.one .bad)) (ys.getD i undef)) →
    (flatY xs ys).length = (retRow xs).length ∧ expR o (retRow xs) = some (retRow rets) ∧ packX rets (flatY xs ys) = ys ∧
    ∀ j, j < (retRow xs).length → CR w o g none ((retRow xs).getD j .bad) ((flatY xs ys).getD j undef)
  | [], rets, ys, he, hl, _ => by
    simp only [expXs, Option.some.injEq] at he
    subst he
    obtain rfl : ys = [] := by simpa using hl
    exact ⟨rfl, rfl, rfl, fun j hj => absurd hj (Nat.not_lt_zero _)⟩
  | x :: xs, rets, ys, he, hl, hx => by
    simp only [expXs] at he
    split at he
    · rename_i x' rets' h1 h2
      cases he
      match ys, hl with
      | y :: ys, hl =>
        have h0 := hx 0 (by simp)
        simp only [List.getD_cons_zero] at h0
        obtain ⟨e1, e2, e3, e4⟩ := flatY_rel xs rets' ys h2 (by simpa using hl) (fun i hi => by simpa using hx (i + 1) (by simpa using hi))
        have expR_app : ∀ (as bs as' bs' : List C), expR o as = some as' → expR o bs = some bs' → expR o (as ++ bs) = some (as' ++ bs') := by
          intro as; induction as with
          | nil => intro bs as' bs' ha hb; simp only [expR, Option.some.injEq] at ha; subst ha; exact hb
          | cons c as ih =>
            intro bs as' bs' ha hb
            simp only [expR] at ha
            split at ha
            · rename_i c' cs' k1 k2
              cases ha
              simp only [List.cons_append, expR, k1, ih bs _ bs' k2 hb]
            · cases ha
        cases x with
        | one c =>
          simp only [expX, Option.map_eq_some_iff] at h1
          obtain ⟨c', k1, rfl⟩ := h1
          refine ⟨by simp [flatY, retRow, cellsOf, e1, Nat.add_comm], ?_, by simp [flatY, packX, e3], fun j hj => ?_⟩
          · exact expR_app [c] (retRow xs) [c'] (retRow rets') (by simp [expR, k1]) e2
          · cases j with
            | zero => exact h0
            | succ j => simpa [flatY, retRow, cellsOf] using e4 j (by simp [retRow, cellsOf] at hj; omega)
        | agg cs =>
          simp only [expX, Option.map_eq_some_iff] at h1
          obtain ⟨cs', k1, rfl⟩ := h1
          obtain ⟨us, rfl, f1, f2⟩ := h0
          have hcl : cs'.length = us.length := by rw [expR_length k1, f1]
          refine ⟨by simp [flatY, retRow, cellsOf, e1, Value.cells, f1], expR_app _ _ _ _ k1 e2, ?_, fun j hj => ?_⟩
          · simp only [flatY, List.headD_cons, Value.cells, packX, hcl, List.take_left', List.drop_left', List.drop_succ_cons, List.drop_zero]
            rw [e3]
          · simp only [retRow, cellsOf, List.length_append] at hj
            simp only [flatY, List.headD_cons, Value.cells, retRow, cellsOf, List.drop_succ_cons, List.drop_zero]
            by_cases hj' : j < cs.length
            · have := f2 j hj'
              simpa [List.getD_eq_getElem?_getD, List.getElem?_append_left hj', List.getElem?_append_left (show j < us.length by omega)] using this
            · have := e4 (j - cs.length) (by omega)
              have hge : cs.length ≤ j := Nat.le_of_not_lt hj'
              simp only [List.getD_eq_getElem?_getD, List.getElem?_append_right hge, List.getElem?_append_right (show us.length ≤ j by omega), f1] at this ⊢
              exact this
    · cases he
theorem PureFn_of_WW {f : FuncId} {fn : Func} {c : Code} {wd : DrawW} (hf : P.funcs[f]? = some fn) (hb : fn.body = some c) (hn : fn.name ≠ "runtime.NumGoroutine") (hwd : DrawSound wd P) {args ret : List X}
    (h : W wop wd P c (enterSt fn args) fun e σ => (e = .normal ∨ e = .ret) ∧ ∃ σ', Weak σ σ' ∧ resOk P fn σ' ret) : PureFn P f args ret := by
  refine ⟨⟨fn, hf, hn, by rw [hb]; rfl⟩, fun w ys _ hl hx => ?_⟩
  refine calls_of_wp hf hb (wp_mono (W_sound (g0 := Sall w) (w0 := w) wop_sound hwd c _ _ _ _ _ h (Rel.enter fn hl hx)) fun e a' w' hp => ?_)
  obtain ⟨e', h1, σ0, g0', ⟨h2, σ, hwk, xs, h4, h5, h6⟩, h30⟩ := hp
  obtain ⟨g, h3⟩ := hwk _ _ _ _ _ h30
  have fin : a'.defers = [] ∧ ∃ v, (results fn a'.tmps).run P w' = .ok v w' ∧ ∃ gr zs, Ending.returned v = .returned (packV (packX ret zs)) ∧ RetR w' gr ret zs ∧ Keep (Sall w) w gr w' := by
    refine ⟨h3.defers, ?_⟩
    obtain ⟨us, e1, e2, e3⟩ := resXs_run (P := P) h3 (F := resF a'.tmps) (fun _ => rfl) (fun _ _ => rfl) fn.results.toList xs h4
    obtain ⟨f1, f2, f3, f4⟩ := flatY_rel xs ret us h5 e2 e3
    refine ⟨packV us, ?_, retG g (retRow xs), flatY xs us, by rw [f3], export_rel h3.heap (fun r ob hr hk => by have := h3.obj r ob hr; simp [okObj, hk] at this) f2 h6 f1 f4, ?_⟩
    · have hm : ∀ F : ResultVar → Sem Value, (∀ t, F (.tmp t) = pure (a'.tmps.getD t undef)) → (∀ b t, F (.cell b t) = do loadVar t (← asAddr (a'.tmps.getD b undef))) → (fn.results.mapM F).run P w' = .ok us.toArray w' := by
        intro F F1 F2
        have : F = resF a'.tmps := funext fun r => by
          cases r with
          | tmp t => exact F1 t
          | cell b t => exact F2 b t
        rw [this, Array.mapM_eq_mapM_toList, Sem.run_map, e1]; rfl
      unfold results
      rw [Sem.run_bind, hm _ (fun _ => rfl) (fun _ _ => rfl), Result.andThen_ok, Sem.run_pure]
      congr 1
      match us with
      | [] => rfl
      | [u] => rfl
      | u :: v :: us => simp [packV]
    · exact ⟨h3.keep.os, h3.keep.tape, h3.keep.output, h3.keep.size, h3.keep.S, h3.keep.block⟩
  cases e with
  | normal => exact fin
  | ret => exact fin
  | exit id => cases h1; rcases h2 with h2 | h2 <;> cases h2
  | _ => cases h1
end
end Go.Rx
namespace Go.Rx
open Go.RowKit
def isEff : Op → Bool
  | .store _ _ _ => true
  | .box _ _ => true
  | .makeSlice _ _ _ => true
  | .call { callee := .builtin .append, args := _, argTypes := _ } => true
  | .makeMap _ _ => true
  | .lookup _ _ _ _ => true
  | .mapUpdate _ _ _ _ => true
  | _ => false
def allV : List C → Bool
  | [] => true
  | .v _ :: cs => allV cs
  | _ :: _ => false
def buildW (P : Program) (t : TypeId) (n : Nat) (ps : List (Nat × V)) : Option V :=
  match tyElem P t with
  | some e => match tyZero P e, tySz P e, partsOk 0 ps with
    | some zs, some sz, some R => if zs.length = sz ∧ 0 < sz ∧ R.length = n ∧ n * sz ≤ 16777216 ∧ sized sz R = true ∧ R.all allV = true then some (.x (.one (.sh sz R))) else none
    | _, _, _ => none
  | none => none
def opW (P : Program) (σ : St) (o : Oper) : Option V :=
  match o.op with
  | .build t parts => buildV P t (parts.toList.map fun p => (p.1, ev σ p.2))
  | .buildSlice t n parts => buildW P t n (parts.toList.map fun p => (p.1, ev σ p.2))
  | _ => opV P σ o
def opT : Operand → Nat → Bool
  | .tmp t, n => decide (t * 64 ≤ n) && decide (n < t * 64 + 64)
  | _, _ => false
def hasA : List Operand → Nat → Bool
  | [], _ => false
  | x :: xs, n => opT x n || hasA xs n
def selA (as : List Operand) : Store → Store
  | [] => []
  | (k, ob) :: L => if hasA as k.2 = true then (k, ob) :: selA as L else selA as L
def short (cs : List C) : Bool := decide (cs.length ≤ 64)
def lit0 (P : Program) (t : TypeId) : Option Nat :=
  match tyElem P t with
  | some e => match tyZero P e, tySz P e with
    | some zs, some sz => if zs.length = sz ∧ 0 < sz then some sz else none
    | _, _ => none
  | none => none
theorem lit0_buildS {P : Program} {σ : St} {N t sz : Nat} (h : lit0 P t = some sz) (hf : fresh σ N = true) : buildS P σ (some N) t 0 [] = some (put (newSt σ N ⟨.sl, sz, []⟩) (some N) (slV σ N sz 0)) := by
  unfold lit0 at h
  split at h
  · rename_i e he
    split at h
    · rename_i zs s hz hs
      split at h
      · rename_i hc
        cases h
        unfold buildS
        simp only [he, hz, hs, partsOk]
        rw [if_pos ⟨hf, hc.1, hc.2, rfl, by omega, rfl, rfl⟩]
      · cases h
    · cases h
  · cases h
def litR (P : Program) (t : TypeId) (n : Nat) (ps : List (Nat × V)) : Option (Nat × List (List C)) :=
  match tyElem P t with
  | some e => match tyZero P e, tySz P e, partsOk 0 ps with
    | some zs, some sz, some R => if 1 < sz ∧ zs.length = sz ∧ R.length = n ∧ n * sz ≤ 16777216 ∧ sized sz R = true ∧ flatRows R = true then some (sz, R) else none
    | _, _, _ => none
  | none => none
theorem litR_buildS {P : Program} {σ : St} {N t n : Nat} {ps : List (Nat × V)} {p : Nat × List (List C)} (h : litR P t n ps = some p) (hf : fresh σ N = true) : buildS P σ (some N) t n ps = some (put (newSt σ N ⟨.sl, p.1, p.2⟩) (some N) (slV σ N p.1 n)) := by
  unfold litR at h
  split at h
  · rename_i e he
    split at h
    · rename_i zs s R hz hs hp
      split at h
      · rename_i hc
        cases h
        unfold buildS
        simp only [he, hz, hs, hp]
        rw [if_pos ⟨hf, hc.2.1, by omega, hc.2.2.1, hc.2.2.2.1, hc.2.2.2.2.1, hc.2.2.2.2.2⟩]
      · cases h
    · cases h
  · cases h
def OpE (P : Program) (σ : St) (L : Store) (o : Oper) (v : V) (l : Store) : Prop :=
  match o.op with
  | .call { callee := .value (.func f), args := as, argTypes := _ } => match o.dst with
    | some N => ∃ xs ret, viewVs (selA as.toList L ++ σ.o) (as.toList.map (ev σ)) = some xs ∧ PureFn P f xs ret ∧ (poR (retRow ret) && short (retRow ret)) = true ∧ l = newRoots σ.d N 0 (retRow ret) ∧ v = packT (impXs σ.d N 0 ret)
    | none => False
  | .alloc t => match o.dst, tyZero P t with
    | some N, some zs => l = [((σ.d, N * 64), ⟨.box, zs.length, [zs.map .v]⟩)] ∧ v = ptV σ N zs.length
    | _, _ => False
  | .buildSlice t 0 ps => match o.dst, lit0 P t with
    | some N, some sz => ps = #[] ∧ l = [((σ.d, N * 64), ⟨.sl, sz, []⟩)] ∧ v = slV σ N sz 0
    | _, _ => False
  | .buildSlice t (n + 1) ps => match o.dst, litR P t (n + 1) (ps.toList.map fun p => (p.1, ev σ p.2)) with
    | some N, some p => l = [((σ.d, N * 64), ⟨.sl, p.1, p.2⟩)] ∧ v = slV σ N p.1 (n + 1)
    | _, _ => opW P σ o = some v ∧ l = []
  | _ => opW P σ o = some v ∧ l = []
def Stp (P : Program) (ops : Array Oper) (σ : St) (L : Store) (o : Oper) (v : V) (l : Store) : Prop :=
  (gd σ ops o = some true ∧ OpE P σ L o v l) ∨ (gd σ ops o = some false ∧ v = .x (.one (.v (.tuple #[]))) ∧ l = [])
def DRun (P : Program) (ops : Array Oper) : List Oper → St → Store → (St → Prop) → Prop
  | [], σ, L, K => K { σ with l := L ++ σ.l }
  | o :: rest, σ, L, K => if isEff o.op then Wlist wop P ops (o :: rest) { σ with l := L ++ σ.l } K else match gd σ ops o with
    | some true => ∃ v l, OpE P σ L o v l ∧ freshR (L ++ σ.l) l = true ∧ DRun P ops rest (put σ o.dst v) (l ++ L) K
    | some false => DRun P ops rest (put σ o.dst (.x (.one (.v (.tuple #[]))))) L K
    | none => False
def hasEdge (o : Oper) (i : Nat) : Bool := o.after.any fun e => e.on == i && Region.binds .any e
def headLen : List Oper → Nat
  | [] => 0
  | o :: l => if isEff o.op then 0 else headLen l + 1
def headO (l : List (Oper × Nat)) : List (Oper × Nat) := l.takeWhile fun p => !isEff p.1.op
def tailO (l : List (Oper × Nat)) : List (Oper × Nat) := l.dropWhile fun p => !isEff p.1.op
def edgesOk (o : Oper) (j : Nat) : Bool := o.after.all (fun e => !Region.binds .any e || decide (e.on < j)) && (match o.op with | .select _ _ => false | _ => true)
def drawOk (ops : Array Oper) : Bool :=
  let l := headO ops.toList.zipIdx
  (l.all fun (o, j) => edgesOk o j &&
    l.all fun (o', i) =>
      (i == j || o.dst.isNone || !(o.dst == o'.dst)) &&
      (Oper.looksAt ops o).all fun t => !(o'.dst == some t) || i == j || (decide (i < j) && hasEdge o i) || (decide (j < i) && hasEdge o' j)) &&
  (tailO ops.toList.zipIdx).all fun (o, j) => edgesOk o j && (List.range j).all fun i => hasEdge o i
section
variable {P : Program} {w w0 w' : World} {g g0 gr : Gh} {σ : St} {a : Act}
theorem Rel.ext {τ τ' : St} (ht : τ'.t = τ.t) (hd : τ'.d = τ.d) (hg : τ'.g = τ.g) (hl : ∀ r, getA τ'.l r = getA τ.l r) (h : Rel g0 w0 τ g a w) : Rel g0 w0 τ' g a w := by
  have ho : ∀ r, getA τ'.o r = getA τ.o r := fun r => by
    show getA (τ'.l ++ τ'.g) r = getA (τ.l ++ τ.g) r
    rw [getA_append, getA_append, hl, hg]
  have hlive : ∀ r p m K, Live τ'.o r p m K ↔ Live τ.o r p m K := fun r p m K => by unfold Live; rw [ho]
  have hgoes : Goes w τ.o g w τ'.o g := ⟨fun k hk => ⟨hk, rfl⟩, fun r p m K hK => ⟨⟨K, (hlive r p m K).2 hK, Nat.le_refl _⟩, rfl, fun b cs e f _ hb => ⟨cs, hb, rfl⟩⟩⟩
  refine ⟨h.defers, by rw [ht]; exact h.size, fun i hi => ?_, ⟨?_, ?_, ?_, h.heap.S⟩, h.keep, ?_, ?_, ?_, ?_, by rw [hg]; exact h.pin⟩
  · rw [ht] at hi ⊢; exact VR.goes hgoes (h.tmps i hi)
  · intro r p m K b hK hb
    have hK' := (hlive r p m K).1 hK
    obtain ⟨k1, k2, cs, e, f, k3, kf, k4, k5⟩ := h.heap.rows r p m K b hK' hb
    exact ⟨k1, k2, cs, e, f, k3, kf, k4, fun i j hi hj => CR.goesAt hgoes hK' hi (by rw [k2 i hi]; exact hj) (k5 i j hi hj)⟩
  · intro r p ob m K h1 h2 h3
    rw [ho] at h1; exact h.heap.none r p ob m K h1 h2 h3
  · intro r p m K r' p' m' K' b h1 h2
    exact h.heap.inj _ _ _ _ _ _ _ _ b ((hlive _ _ _ _).1 h1) ((hlive _ _ _ _).1 h2)
  · intro r ob hr; rw [hl] at hr; rw [hd]; exact h.loc r ob hr
  · intro r ob hr; rw [hg] at hr; rw [hd]; exact h.out r ob hr
  · intro r ob hr; rw [ho] at hr; exact h.obj r ob hr
  · exact h.maps.mono (fun r ob h1 h2 => ⟨ob, by rw [← ho]; exact h1, rfl⟩) (fun b arr cl h1 h2 => ⟨h1, h2⟩) (.same fun r p m K hl => ⟨_, _, (hlive r p m K).1 hl⟩)
theorem Rel.drew (h : Rel g0 w0 σ g a w) : Rel g0 w0 σ g a { w with drawn := w.drawn + 1 } := by
  have hgoes : Goes w σ.o g { w with drawn := w.drawn + 1 } σ.o g := ⟨fun k hk => ⟨hk, rfl⟩, fun r p m K hK => ⟨⟨K, hK, Nat.le_refl _⟩, rfl, fun b cs e f _ hb => ⟨cs, hb, rfl⟩⟩⟩
  refine ⟨h.defers, h.size, fun i hi => VR.goes hgoes (h.tmps i hi), ⟨?_, h.heap.none, h.heap.inj, h.heap.S⟩, ⟨h.keep.os, h.keep.tape, h.keep.output, h.keep.size, h.keep.S, h.keep.block⟩, h.loc, h.out, h.obj, h.maps.mono (fun _ ob h1 _ => ⟨ob, h1, rfl⟩) (fun _ _ _ h1 h2 => ⟨h1, h2⟩) (fun _ hk => ⟨rfl, hk⟩), ⟨h.pin.at_, h.pin.nil_, h.pin.old⟩⟩
  intro r p m K b hK hb
  obtain ⟨k1, k2, cs, e, f, k3, kf, k4, k5⟩ := h.heap.rows r p m K b hK hb
  exact ⟨k1, k2, cs, e, f, k3, kf, k4, fun i j hi hj => CR.goesAt hgoes hK hi (by rw [k2 i hi]; exact hj) (k5 i j hi hj)⟩
theorem loadV_more {o o' : Store} (hm : ∀ r ob, getA o r = some ob → getA o' r = some ob) {t : TypeId} {x r : V} (h : loadV P o t x = some r) : loadV P o' t x = some r := by
  unfold loadV at *
  split at h
  · rename_i ag n _ _
    split at h
    · exact h
    · split at h
      · rename_i ob hob
        rw [hm _ _ hob]
        exact h
      · cases h
    · cases h
  · cases h
theorem bytesV_more {o o' : Store} (hm : ∀ r ob, getA o r = some ob → getA o' r = some ob) {x : V} {ns : List Int} (h : bytesV o x = some ns) : bytesV o' x = some ns := by
  unfold bytesV at *
  split at h
  · exact h
  · split at h
    · rename_i ob hob; rw [hm _ _ hob]; exact h
    · cases h
  · cases h
theorem bytesV_kind {o o' : Store} {x : V} (h : bytesV o x = none) : bytesV o' x = none ∨ ∃ r p off len, x = .x (.one (.rs r p 1 off len)) := by
  unfold bytesV at *
  split at h
  · exact .inl h
  · exact .inr ⟨_, _, _, _, rfl⟩
  · exact .inl rfl
theorem convV_more {o o' : Store} (hm : ∀ r ob, getA o r = some ob → getA o' r = some ob) {src dst : TypeId} {x r : V} (h : convV P o src dst x = some r) : convV P o' src dst x = some r := by
  cases hb : bytesV o x with
  | some ns => unfold convV at *; rw [hb] at h; rw [bytesV_more hm hb]; exact h
  | none =>
    rcases bytesV_kind (o' := o') hb with h2 | ⟨r', p', off, len, rfl⟩
    · unfold convV at *; rw [hb] at h; rw [h2]; exact h
    · unfold convV at h; rw [hb] at h; simp [un1, plain] at h
theorem viewC_more {o o' : Store} (hm : ∀ r ob, getA o r = some ob → getA o' r = some ob) {c d : C} (h : viewC o c = some d) : viewC o' c = some d := by
  unfold viewC at *
  split at h
  · exact h
  · exact h
  · exact h
  · split at h
    · rename_i ob hob; rw [hm _ _ hob]; exact h
    · cases h
  · split at h
    · rename_i ob hob; rw [hm _ _ hob]; exact h
    · cases h
  · exact h
  · exact h
theorem viewX_more {o o' : Store} (hm : ∀ r ob, getA o r = some ob → getA o' r = some ob) {x y : X} (h : viewX o x = some y) : viewX o' x = some y := by
  cases x with
  | one c =>
    simp only [viewX, Option.map_eq_some_iff] at *
    obtain ⟨d, h1, h2⟩ := h
    exact ⟨d, viewC_more hm h1, h2⟩
  | agg cs =>
    simp only [viewX, Option.map_eq_some_iff] at *
    obtain ⟨ds, h1, h2⟩ := h
    refine ⟨ds, ?_, h2⟩
    clear h2
    induction cs generalizing ds with
    | nil => exact h1
    | cons c cs ih =>
      simp only [viewCs] at h1 ⊢
      split at h1
      · rename_i d1 ds1 e1 e2
        rw [viewC_more hm e1, ih _ e2]; exact h1
      · cases h1
theorem viewVs_more {o o' : Store} (hm : ∀ r ob, getA o r = some ob → getA o' r = some ob) {vs : List V} {xs : List X} (h : viewVs o vs = some xs) : viewVs o' vs = some xs := by
  induction vs generalizing xs with
  | nil => exact h
  | cons v vs ih =>
    simp only [viewVs] at h ⊢
    split at h
    · rename_i x xs1 e1 e2
      have : viewV o' v = some x := by
        cases v with
        | tup _ => cases e1
        | x y => exact viewX_more hm e1
      rw [this, ih e2]; exact h
    · cases h
end
end Go.Rx
namespace Go.Rx
open Go.RowKit
section
variable {P : Program} {w w0 w' : World} {g g0 gr : Gh} {σ τ : St} {a : Act} {ops : Array Oper} {o : Oper}
abbrev badV : V := .x (.one .bad)
theorem opV_local (e : ∀ x ∈ o.op.operands, ev τ x = ev σ x) (hm : ∀ r ob, getA σ.o r = some ob → getA τ.o r = some ob) {v : V} (h : opV P σ o = some v) : opV P τ o = some v := by
  unfold opV at *
  split at h
  · rename_i x ho; rw [e x (by simp [ho, Op.operands])]; exact h
  · rename_i x ho; rw [e x (by simp [ho, Op.operands])]; exact h
  · rename_i c x y ho
    rw [e c (by simp [ho, Op.operands]), e x (by simp [ho, Op.operands]), e y (by simp [ho, Op.operands])]; exact h
  · rename_i x ho; rw [e x (by simp [ho, Op.operands])]; exact h
  · rename_i ho; rename_i y _; rename_i x
    rw [e _ (by rw [ho]; simp [Op.operands]), e _ (by rw [ho]; simp [Op.operands])]; exact h
  · rename_i x ho; rw [e x (by simp [ho, Op.operands])]; exact h
  · rename_i x ho; rw [e x (by simp [ho, Op.operands])]; exact convV_more hm h
  · rename_i x f ho; rw [e x (by simp [ho, Op.operands])]; exact h
  · rename_i x i ho; rw [e x (by simp [ho, Op.operands])]; exact h
  · rename_i x i ho; rw [e x (by simp [ho, Op.operands]), e i (by simp [ho, Op.operands])]; exact h
  · rename_i x f ho; rw [e x (by simp [ho, Op.operands])]; exact h
  · rename_i x i ho; rw [e x (by simp [ho, Op.operands]), e i (by simp [ho, Op.operands])]; exact h
  · rename_i x lo hi ho
    have hlo : lo.map (ev τ) = lo.map (ev σ) := by
      cases lo with
      | none => rfl
      | some y => simp only [Option.map_some]; rw [e y (by simp [ho, Op.operands])]
    have hhi : hi.map (ev τ) = hi.map (ev σ) := by
      cases hi with
      | none => rfl
      | some y => simp only [Option.map_some]; rw [e y (by simp [ho, Op.operands])]
    rw [e x (by simp [ho, Op.operands]), hlo, hhi]; exact h
  · rename_i t x ho
    rw [e x (by simp [ho, Op.operands])]; exact loadV_more hm h
  · rename_i b as ats ho
    have : as.toList.map (ev τ) = as.toList.map (ev σ) := List.map_congr_left fun x hx => e x (by rw [ho]; simp [Op.operands, Call.operands]; exact Array.mem_toList_iff.1 hx)
    rw [this]; exact h
  · cases h
theorem opW_local (e : ∀ x ∈ o.op.operands, ev τ x = ev σ x) (hm : ∀ r ob, getA σ.o r = some ob → getA τ.o r = some ob) {v : V} (h : opW P σ o = some v) : opW P τ o = some v := by
  unfold opW at *
  split at h
  · rename_i t parts ho
    have : (parts.toList.map fun p => (p.1, ev τ p.2)) = parts.toList.map fun p => (p.1, ev σ p.2) := List.map_congr_left fun p hp => by
      rw [e p.2 (by rw [ho]; simp only [Op.operands]; simp; exact ⟨p.1, Array.mem_toList_iff.1 hp⟩)]
    rw [this]; exact h
  · rename_i t n parts ho
    have : (parts.toList.map fun p => (p.1, ev τ p.2)) = parts.toList.map fun p => (p.1, ev σ p.2) := List.map_congr_left fun p hp => by
      rw [e p.2 (by rw [ho]; simp only [Op.operands]; simp; exact ⟨p.1, Array.mem_toList_iff.1 hp⟩)]
    rw [this]; exact h
  · exact opV_local e hm h
theorem OpE_local (e : ∀ x ∈ o.op.operands, ev τ x = ev σ x) (hd : τ.d = σ.d) (hm : ∀ r ob, getA σ.o r = some ob → getA τ.o r = some ob)
    {L : Store} (hm2 : ∀ f as ats, o.op = .call { callee := .value (.func f), args := as, argTypes := ats } → ∀ r ob, getA (selA as.toList L ++ σ.o) r = some ob → getA τ.o r = some ob) {v : V} {l : Store} (h : OpE P σ L o v l) : OpE P τ [] o v l := by
  unfold OpE at *
  split at h
  · rename_i f as ats ho
    split at h
    · rename_i N hN
      obtain ⟨xs, ret, h1, h2, h3, h4, h5⟩ := h
      have : as.toList.map (ev τ) = as.toList.map (ev σ) := List.map_congr_left fun x hx => e x (by rw [ho]; simp [Op.operands, Call.operands]; right; exact Array.mem_toList_iff.1 hx)
      exact ⟨xs, ret, by rw [this]; exact viewVs_more (hm2 f as ats ho) h1, h2, h3, by rw [hd]; exact h4, by rw [hd]; exact h5⟩
    · exact h.elim
  · split at h
    · obtain ⟨h1, h2⟩ := h
      exact ⟨by rw [hd]; exact h1, by unfold ptV at *; rw [hd]; exact h2⟩
    · exact h.elim
  · split at h
    · obtain ⟨h0, h1, h2⟩ := h
      exact ⟨h0, by rw [hd]; exact h1, by unfold slV at *; rw [hd]; exact h2⟩
    · exact h.elim
  · rename_i t n ps ho
    have hps : (ps.toList.map fun p => (p.1, ev τ p.2)) = ps.toList.map fun p => (p.1, ev σ p.2) := List.map_congr_left fun p hp => by
      rw [e p.2 (by rw [ho]; simp [Op.operands]; exact ⟨p.1, by simpa using hp⟩)]
    rw [hps]
    split at h
    · obtain ⟨h1, h2⟩ := h
      exact ⟨by rw [hd]; exact h1, by unfold slV at *; rw [hd]; exact h2⟩
    · exact ⟨opW_local e hm h.1, h.2⟩
  · exact ⟨opW_local e hm h.1, h.2⟩
theorem looks_ev (ht : ∀ t ∈ Oper.looksAt ops o, τ.t.getD t badV = σ.t.getD t badV) : (∀ x ∈ o.op.operands, ev τ x = ev σ x) ∧ gd τ ops o = gd σ ops o := by
  constructor
  · intro x hx
    cases x with
    | tmp t => exact ht t (by unfold Oper.looksAt; exact List.mem_append_left _ (List.mem_filterMap.2 ⟨.tmp t, Array.mem_toList_iff.2 hx, rfl⟩))
    | _ => rfl
  · unfold gd
    cases hg : o.guard with
    | none => rfl
    | some p =>
      obtain ⟨j, b⟩ := p
      simp only []
      cases hd : (ops[j]?).bind (·.dst) with
      | none => rfl
      | some d =>
        have := ht d (by unfold Oper.looksAt; rw [hg]; exact List.mem_append_right _ (by simp [hd]))
        simp only [this]
structure Inv (n : Nat) (dst : Nat → Option Tmp) (res : Nat → V × Store) (σ : St) (S : Nat → Bool) (τ : St) : Prop where
  d : τ.d = σ.d
  g : τ.g = σ.g
  len : τ.t.length = σ.t.length
  set : ∀ i, i < n → S i = true → ∀ t, dst i = some t → t < σ.t.length → τ.t.getD t badV = (res i).1
  old : ∀ t, (∀ i, i < n → S i = true → dst i ≠ some t) → τ.t.getD t badV = σ.t.getD t badV
  lold : ∀ r ob, getA σ.l r = some ob → getA τ.l r = some ob
  lnew : ∀ i, i < n → S i = true → ∀ r ob, getA (res i).2 r = some ob → getA τ.l r = some ob
  lback : ∀ r ob, getA τ.l r = some ob → getA σ.l r = some ob ∨ ∃ i, i < n ∧ S i = true ∧ getA (res i).2 r = some ob
theorem getD_put {σ : St} {dst : Option Tmp} {v : V} (t : Tmp) : (put σ dst v).t.getD t badV = if dst = some t ∧ t < σ.t.length then v else σ.t.getD t badV := by
  cases dst with
  | none => simp [put]
  | some d =>
    simp only [put, List.getD_eq_getElem?_getD, List.getElem?_set, Option.some.injEq]
    by_cases h : d = t
    · subst h
      by_cases hl : d < σ.t.length
      · simp [hl]
      · simp [hl]
    · simp [h]
theorem put_len {σ : St} {dst : Option Tmp} {v : V} : (put σ dst v).t.length = σ.t.length := by cases dst <;> simp [put]
theorem put_d {σ : St} {dst : Option Tmp} {v : V} : (put σ dst v).d = σ.d := by cases dst <;> rfl
theorem put_g {σ : St} {dst : Option Tmp} {v : V} : (put σ dst v).g = σ.g := by cases dst <;> rfl
theorem put_l {σ : St} {dst : Option Tmp} {v : V} : (put σ dst v).l = σ.l := by cases dst <;> rfl
end
end Go.Rx
namespace Go.Rx
open Go.RowKit
section
variable {P : Program} {w w0 w' : World} {g g0 gr : Gh} {σ τ : St} {a : Act} {ops : Array Oper} {o : Oper}
theorem freshR_of {l s : Store} (h : ∀ k, getA s k ≠ none → getA l k = none) : freshR l s = true := by
  induction s with
  | nil => rfl
  | cons x s ih =>
    obtain ⟨k, ob⟩ := x
    simp only [freshR, Bool.and_eq_true, Option.isNone_iff_eq_none]
    refine ⟨h k (by simp [getA]), ih fun k' hk' => h k' ?_⟩
    simp only [getA]
    split
    · simp
    · exact hk'
theorem allV_get {cs : List C} (h : allV cs = true) {j : Nat} (hj : j < cs.length) : ∃ x, cs.getD j .bad = .v x := by
  induction cs generalizing j with
  | nil => simp at hj
  | cons c cs ih =>
    cases c with
    | v x =>
      cases j with
      | zero => exact ⟨x, rfl⟩
      | succ j => simpa using ih h (by simpa using hj)
    | _ => cases h
theorem Rel.newS (h : Rel g0 w0 σ g a w) (ob : Obj) : Rel g0 w0 σ { g with S := fun k => g.S k ∨ k = w.heap.size } a (w.alloc ob) := by
  have hgoes : Goes w σ.o g (w.alloc ob) σ.o { g with S := fun k => g.S k ∨ k = w.heap.size } :=
    ⟨fun k hk => ⟨.inl hk, heap_alloc w _ k (h.heap.S k hk)⟩, fun r p m K hK => ⟨⟨K, hK, Nat.le_refl _⟩, rfl, fun b cs e f _ hb => ⟨cs, by rw [heap_alloc w _ b (block_lt hb)]; exact hb, rfl⟩⟩⟩
  refine ⟨h.defers, h.size, fun i hi => VR.goes hgoes (h.tmps i hi), ⟨?_, h.heap.none, h.heap.inj, ?_⟩, ⟨h.keep.os, h.keep.tape, h.keep.output, ?_, fun k hk => .inl (h.keep.S k hk), ?_⟩, h.loc, h.out, h.obj, h.maps.mono (fun r ob h1 h2 => ⟨ob, h1, rfl⟩) (fun b arr cl h1 h2 => ⟨by rw [heap_alloc w _ b (block_lt h1)]; exact h1, fun hs => hs.elim h2 fun e => Nat.lt_irrefl _ (e ▸ block_lt h1)⟩) (.ext (fun k hk _ => heap_alloc w _ k hk) (fun k hk hs => hs.elim id fun e => absurd hk (by omega)) fun r p m K k hl hG _ => ⟨_, _, _, _, hl, hG⟩), h.pin.goes hgoes fun _ ob h => ⟨ob, h⟩⟩
  · intro r p m K b hK hb
    obtain ⟨k1, k2, cs, e, f, k3, kf, k4, k5⟩ := h.heap.rows r p m K b hK hb
    refine ⟨fun hs => ?_, k2, cs, e, f, by rw [heap_alloc w _ b (block_lt k3)]; exact k3, kf, k4, fun i j hi hj => CR.goesAt hgoes hK hi (by rw [k2 i hi]; exact hj) (k5 i j hi hj)⟩
    rcases hs with hs | hs
    · exact k1 hs
    · have := block_lt k3; omega
  · intro k hk
    rcases hk with hk | hk
    · have := h.heap.S k hk; simp; omega
    · subst hk; simp
  · have := h.keep.size; simp; omega
  · intro k hk
    rw [heap_alloc w _ k (h.heap.S k (h.keep.S k hk))]
    exact h.keep.block k hk
theorem buildW_run (h : Rel g0 w0 σ g a w) {t : TypeId} {n : Nat} {ps : Array (Nat × Operand)} {v : V} (hs : buildW P t n (ps.toList.map fun p => (p.1, ev σ p.2)) = some v) :
    ∃ z w1 g1, (Instr.buildSlice t n (ps.map fun (i, x) => (i, a.eval x))).run P w = .ok z w1 ∧ Rel g0 w0 σ g1 a w1 ∧ VR w1 σ.o g1 v z := by
  unfold buildW at hs
  split at hs
  case h_2 => cases hs
  rename_i e he
  split at hs
  case h_2 => cases hs
  rename_i zs sz R hz hsz hR
  split at hs
  case isFalse => cases hs
  rename_i hc
  obtain ⟨c2, c3, c4, c5, c6, c7⟩ := hc
  cases hs
  obtain ⟨p1, p2⟩ := partsOk_rel h ps.toList 0 R hR
  have hrow : ∀ k, k < R.length → (R.getD k []).length = sz := fun k hk => by
    unfold sized at c6
    rw [List.all_eq_true] at c6
    have := c6 (R.getD k []) (by rw [List.getD_eq_getElem?_getD, List.getElem?_eq_getElem hk]; exact List.getElem_mem hk)
    simpa using this
  unfold tyZero at hz
  simp only [Option.map_eq_some_iff, Option.bind_eq_some_iff] at hz
  obtain ⟨zv, ⟨i, hi, hzv⟩, rfl⟩ := hz
  have hps : (ps.map fun (i, x) => (i, a.eval x)).toList = ps.toList.map fun p => (p.1, a.eval p.2) := by simp
  let A0 : Array Value := (Array.range (n * sz)).map (fun q => zv.cells[q % zv.cells.size]!)
  have hA0 : A0.size = n * sz := by simp [A0]
  obtain ⟨B, b1, b2, _, b4⟩ := fill_rows sz (ps.toList.map fun p => (p.1, a.eval p.2)) 0 A0 (fun k hk => by
    obtain ⟨v, v1, v2, _⟩ := p2 k (by simpa using hk)
    exact ⟨v, v1, by rw [hrow k (by rw [p1]; simpa using hk)] at v2; simpa using v2⟩) (by rw [hA0, List.length_map, ← p1, c4, Nat.zero_add]; exact Nat.le_refl _)
  have hrun : (Instr.buildSlice t n (ps.map fun (i, x) => (i, a.eval x))).run P w = .ok (.slice (some ⟨w.heap.size, 0, none⟩) n n) (w.alloc (.cells B e)) := by
    have hts := tySz_run hsz w
    by_cases h0 : n * sz = 0
    · have hn : n = 0 := by rcases Nat.mul_eq_zero.1 h0 with h | h <;> omega
      subst hn
      have hpe : ps = #[] := by
        have : ps.toList.length = 0 := by rw [← p1, c4]
        apply Array.ext'; simpa using this
      subst hpe
      have hB : B = #[] := by
        have : B.size = 0 := by rw [b2, hA0]; simp
        exact Array.eq_empty_of_size_eq_zero this
      subst hB
      simp [Instr.buildSlice, run_underlying (tyElem_spec he), hts, Instr.fill, newRow]
      exact congrArg (fun c => w.alloc (.cells c e)) (Array.eq_empty_of_size_eq_zero (by simp))
    · have hle : ¬ (n * sz > 2 ^ 24) := by omega
      have hzr : (zeroValue e).run P w = .ok zv w := by simp [zeroValue, typeInfo, hi, hzv]
      have hb1 : Instr.fill (fun i => some (i * sz, sz)) ((Array.range (n * sz)).map fun q => zv.cells[q % zv.cells.size]!) (ps.toList.map fun p => (p.1, a.eval p.2)) = some B := b1
      simp only [Instr.buildSlice, Sem.run_bind, run_underlying (tyElem_spec he), Result.andThen_ok, hts, if_neg hle, if_neg h0, hzr, Sem.run_pure, hps, hb1, newRow]
      rfl
  have hval : ∀ i j, i < n → j < sz → ∃ x, cellAt R i j = .v x := fun i j hi' hj => by
    have hi2 : i < R.length := by omega
    have hrl := hrow i hi2
    have hmem : R.getD i [] ∈ R := by rw [List.getD_eq_getElem?_getD, List.getElem?_eq_getElem hi2]; exact List.getElem_mem hi2
    exact allV_get (List.all_eq_true.1 c7 _ hmem) (by rw [hrl]; exact hj)
  refine ⟨_, _, _, hrun, h.newS _, ?_⟩
  have hm : n ≤ maxLen := by
    have : n * 1 ≤ n * sz := Nat.mul_le_mul_left _ c3
    simp only [maxLen]; omega
  refine Sh.slice sz R ⟨w.heap.size, 0, none⟩ n n (fun i j => B.getD (i * sz + j) undef) c4 (Nat.le_refl _) hm (fun _ => .inr rfl) (fun i hi' => hrow i (by omega)) (fun i j hi' hj => ?_) (fun i j hi' hj => ?_)
  · have hlt : i * sz + j < B.size := by
      have : (i + 1) * sz ≤ n * sz := Nat.mul_le_mul_right _ (by omega)
      rw [Nat.add_mul, Nat.one_mul] at this
      rw [b2, hA0]; omega
    rw [add_lit, add_lit, Nat.zero_add]
    have hb := heap_alloc_new w (.cells B e)
    simp only [World.cell?, hb]
    simp [Array.getD, hlt]
  · obtain ⟨x, hx⟩ := hval i j hi' hj
    rw [hx]
    obtain ⟨v, v1, v2, v3⟩ := p2 i (by omega)
    have h1 := b4 i j v v1 hj
    rw [Nat.zero_add] at h1
    have h2 := v3 j (by rw [hrow i (by omega)]; exact hj)
    rw [hx] at h2
    have h3 : v.cells.toList.getD j undef = x := h2
    show Sh _ _ (.v x) (B.getD (i * sz + j) undef)
    rw [h1, h3]
    exact Sh.v x
theorem opW_sound {v : V} (hv : opW P σ o = some v) (hr : Rel g0 w0 σ g a w) {N : Act → World → Prop} {Q : Exit → Act → World → Prop}
    (hk : ∀ g' a' w', Rel g0 w0 (put σ o.dst v) g' a' w' → N a' w') : o.wp P a w N Q := by
  unfold opW at hv
  split at hv
  · rename_i t parts ho
    obtain ⟨z, h1, h2⟩ := buildV_run hr hv
    have hrun : (execOp a.eval o).run P w = .ok (.value z) w := by simp only [execOp, ho]; rw [Sem.run_bind, h1]; rfl
    unfold Oper.wp; rw [hrun, Oper.upon_value]
    exact hk _ _ _ (hr.put o.dst h2)
  · rename_i t n parts ho
    obtain ⟨z, w1, g1, h1, h2, h3⟩ := buildW_run hr hv
    have hrun : (execOp a.eval o).run P w = .ok (.value z) w1 := by simp only [execOp, ho]; rw [Sem.run_bind, h1]; rfl
    unfold Oper.wp; rw [hrun, Oper.upon_value]
    exact hk _ _ _ (h2.put o.dst h3)
  · obtain ⟨z, h1, h2⟩ := opV_run hr hv
    unfold Oper.wp; rw [h1, Oper.upon_value]
    exact hk _ _ _ (hr.put o.dst h2)
theorem OpE_sound [Tb P g0 w0] {v : V} {l : Store} (h : OpE P σ [] o v l) (hf : freshR σ.l l = true) (hr : Rel g0 w0 σ g a w) {N : Act → World → Prop} {Q : Exit → Act → World → Prop}
    (hk : ∀ g' a' w', Rel g0 w0 (put { σ with l := l ++ σ.l } o.dst v) g' a' w' → N a' w') : o.wp P a w N Q := by
  unfold OpE at h
  split at h
  · rename_i f as ats ho
    split at h
    · rename_i n hdst
      obtain ⟨xs, ret, h1, ⟨⟨fn, hfn, hname, hbody⟩, h2⟩, h3, rfl, rfl⟩ := h
      have hb : fn.body ≠ none := fun e => by simp [e] at hbody
      have hrun : (execOp a.eval o).run P w = .ok (.enter f (as.map a.eval)) w := by
        simp [execOp, ho, resolve, Deferred.ofValue, Act.eval, invoke, callFunc, program, hfn, hname, hb, Sem.run]
      obtain ⟨e1, e2⟩ := viewVs_rel hr as.toList xs h1
      have := hr.tb (P := P)
      have hc := h2 w (as.toList.map a.eval) (by simp [e1]) e2
      unfold Oper.wp
      rw [hrun, Oper.upon_enter]
      have hargs : (as.toList.map a.eval).toArray = as.map a.eval := by apply Array.ext'; simp
      rw [hargs] at hc
      refine hc.mono fun e w' he => ?_
      obtain ⟨gr, zs, rfl, hret, hkeep⟩ := he
      obtain ⟨g', k1, k2, _⟩ := hr.take hkeep hret (Bool.and_eq_true_iff.1 h3).1 n hf
      exact hk g' _ _ (k1.put o.dst k2)
    · exact h.elim
  · rename_i t ho
    split at h
    · rename_i N zs hN hz
      obtain ⟨rfl, rfl⟩ := h
      have hs : allocS P σ (some N) t = some (put (newSt σ N ⟨.box, zs.length, [zs.map .v]⟩) (some N) (ptV σ N zs.length)) := by
        unfold allocS
        simp only [hz]
        rw [if_pos (by simpa [freshR, fresh] using hf)]
      obtain ⟨z, w1, g1, h1, h2⟩ := allocS_run hr hs
      have hrun : (execOp a.eval o).run P w = .ok (.value z) w1 := by
        simp only [execOp, ho]; rw [Sem.run_bind, h1]; rfl
      unfold Oper.wp; rw [hrun, Oper.upon_value, hN]
      exact hk _ _ _ (by rw [hN]; exact h2)
    · exact h.elim
  · rename_i t ps ho
    split at h
    · rename_i N sz hN hz
      obtain ⟨rfl, rfl, rfl⟩ := h
      have hs : buildS P σ (some N) t 0 ((#[] : Array (Nat × Operand)).toList.map fun p => (p.1, ev σ p.2)) = some (put (newSt σ N ⟨.sl, sz, []⟩) (some N) (slV σ N sz 0)) := lit0_buildS hz (by simpa [freshR, fresh] using hf)
      obtain ⟨z, w1, g1, h1, h2⟩ := buildS_run hr hs
      have hrun : (execOp a.eval o).run P w = .ok (.value z) w1 := by
        simp only [execOp, ho]; rw [Sem.run_bind, h1]; rfl
      unfold Oper.wp; rw [hrun, Oper.upon_value, hN]
      exact hk _ _ _ (by rw [hN]; exact h2)
    · exact h.elim
  · rename_i t n ps ho
    split at h
    · rename_i N p hN hz
      obtain ⟨rfl, rfl⟩ := h
      have hs := litR_buildS (σ := σ) (N := N) hz (by simpa [freshR, fresh] using hf)
      obtain ⟨z, w1, g1, h1, h2⟩ := buildS_run hr hs
      have hrun : (execOp a.eval o).run P w = .ok (.value z) w1 := by
        simp only [execOp, ho]; rw [Sem.run_bind, h1]; rfl
      unfold Oper.wp; rw [hrun, Oper.upon_value, hN]
      exact hk _ _ _ (by rw [hN]; exact h2)
    · obtain ⟨hv, rfl⟩ := h
      exact opW_sound hv hr hk
  · obtain ⟨hv, rfl⟩ := h
    exact opW_sound hv hr hk
structure Chk (ops : Array Oper) (m : Nat) : Prop where
  le : m ≤ ops.size
  edge : ∀ (j : Nat) (o : Oper), ops[j]? = some o → ∀ e ∈ o.after, Region.binds .any e = true → e.on < j
  dis : ∀ (i j : Nat) (o o' : Oper), j < m → i < m → ops[j]? = some o → ops[i]? = some o' → i ≠ j → o.dst ≠ none → o.dst ≠ o'.dst
  look : ∀ (i j : Nat) (o o' : Oper), j < m → i < m → ops[j]? = some o → ops[i]? = some o' → i ≠ j → ∀ t ∈ Oper.looksAt ops o, o'.dst = some t → (i < j ∧ hasEdge o i = true) ∨ (j < i ∧ hasEdge o' j = true)
  last : ∀ (j : Nat) (o : Oper), m ≤ j → ops[j]? = some o → ∀ i, i < j → hasEdge o i = true
theorem hasEdge_spec {i : Nat} (h : hasEdge o i = true) : ∃ e ∈ o.after, e.on = i ∧ Region.binds .any e = true := by
  unfold hasEdge at h
  rw [Array.any_eq_true'] at h
  obtain ⟨e, he, h⟩ := h
  simp only [Bool.and_eq_true, beq_iff_eq] at h
  exact ⟨e, he, h.1, h.2⟩
theorem ready_spec {listed : Array Bool} {j : Nat} (h : j ∈ Region.ready .any ops listed) : ∃ o, ops[j]? = some o ∧ listed.getD j true = false ∧ ∀ e ∈ o.after, Region.binds .any e = true → listed.getD e.on false = true := by
  unfold Region.ready at h
  simp only [List.mem_filter, List.mem_range, Bool.and_eq_true, Bool.not_eq_true'] at h
  obtain ⟨h1, h2, h3⟩ := h
  refine ⟨ops[j], by simp [h1], h2, fun e he hb => ?_⟩
  simp only [Array.getElem?_eq_getElem h1, Option.map_some, Option.getD_some] at h3
  rw [Array.all_eq_true'] at h3
  have := h3 e he
  simpa [hb] using this
theorem ready_of {listed : Array Bool} {j : Nat} {o : Oper} (ho : ops[j]? = some o) (hl : listed.getD j true = false) (hp : ∀ e ∈ o.after, Region.binds .any e = true → listed.getD e.on false = true) : j ∈ Region.ready .any ops listed := by
  unfold Region.ready
  have hlt : j < ops.size := by
    rcases Nat.lt_or_ge j ops.size with h | h
    · exact h
    · rw [Array.getElem?_eq_none h] at ho; cases ho
  simp only [List.mem_filter, List.mem_range, Bool.and_eq_true, Bool.not_eq_true']
  refine ⟨hlt, hl, ?_⟩
  rw [ho, Option.map_some, Option.getD_some, Array.all_eq_true']
  intro e he
  by_cases hb : Region.binds .any e = true
  · simp [hb, hp e he hb]
  · simp [hb]
def unlisted (listed : Array Bool) : Nat := listed.toList.countP (fun b => !b)
theorem same64 {a b q : Nat} (h1 : a * 64 ≤ b * 64 + q) (h2 : b * 64 + q < a * 64 + 64) (_ : q < 64) : b = a := by omega
theorem selA_get {as : List Operand} {L : Store} {r : Root} {ob : Obj'} (h : getA (selA as L) r = some ob) : hasA as r.2 = true ∧ getA L r = some ob := by
  induction L with
  | nil => cases h
  | cons e L ih =>
    obtain ⟨k, o⟩ := e
    simp only [selA] at h
    simp only [getA]
    split at h
    · rename_i hk
      simp only [getA] at h
      split at h
      · rename_i e; rw [if_pos e]; exact ⟨e ▸ hk, h⟩
      · rename_i e; rw [if_neg e]; exact ih h
    · rename_i hk
      obtain ⟨h1, h2⟩ := ih h
      split
      · rename_i e; exact absurd (e ▸ h1) hk
      · exact ⟨h1, h2⟩
theorem hasA_get : ∀ {as : List Operand} {n : Nat}, hasA as n = true → ∃ t, Operand.tmp t ∈ as ∧ t * 64 ≤ n ∧ n < t * 64 + 64
  | [], n, h => by cases h
  | x :: as, n, h => by
    simp only [hasA, Bool.or_eq_true] at h
    rcases h with h | h
    · cases x with
      | tmp t => simp only [opT, Bool.and_eq_true, decide_eq_true_eq] at h; exact ⟨t, .head _, h.1, h.2⟩
      | _ => simp [opT] at h
    · obtain ⟨t, h1, h2⟩ := hasA_get h
      exact ⟨t, .tail _ h1, h2⟩
theorem OpE_roots {L l : Store} {v : V} (h : OpE P σ L o v l) {r : Root} {ob : Obj'} (hr : getA l r = some ob) : ∃ N, o.dst = some N ∧ ∃ q : Nat, q < 64 ∧ r = (σ.d, N * 64 + q) := by
  unfold OpE at h
  split at h
  · split at h
    · rename_i N hN
      obtain ⟨xs, ret, _, _, h3, rfl, _⟩ := h
      obtain ⟨i, sz, R, h5, _, h6, _⟩ := getA_newRoots _ _ _ _ _ _ hr
      have h7 := (Bool.and_eq_true_iff.1 h3).2
      simp only [short, decide_eq_true_eq] at h7
      exact ⟨N, hN, i, by omega, by rw [h6, Nat.zero_add]⟩
    · exact h.elim
  · split at h
    · rename_i N zs hN hz
      rw [h.1] at hr
      simp only [getA] at hr
      split at hr
      · rename_i he
        exact ⟨N, hN, 0, by omega, he.symm⟩
      · cases hr
    · exact h.elim
  · split at h
    · rename_i N sz hN hz
      rw [h.2.1] at hr
      simp only [getA] at hr
      split at hr
      · rename_i he
        exact ⟨N, hN, 0, by omega, he.symm⟩
      · cases hr
    · exact h.elim
  · split at h
    · rename_i N p hN hz
      rw [h.1] at hr
      simp only [getA] at hr
      split at hr
      · rename_i he
        exact ⟨N, hN, 0, by omega, he.symm⟩
      · cases hr
    · rw [h.2] at hr; cases hr
  · rw [h.2] at hr; cases hr
end
end Go.Rx
namespace Go.Rx
open Go.RowKit
def madeB (l : List (Option Tmp × Op)) (t : Tmp) : Bool := l.any fun p => (p.1 == some t) && (match p.2 with
  | .buildSlice _ 0 _ => true
  | .call { callee := .builtin .append, args := _, argTypes := _ } => true
  | _ => false)
def killB (l : List (Option Tmp × Op)) (op : Op) : Option Tmp := match op with
  | .call { callee := .builtin .append, args := as, argTypes := _ } => match as.toList with
    | .tmp t :: _ => if madeB l t = true then some t else none
    | _ => none
  | _ => none
def opsL (ops : Array Oper) : List (Option Tmp × Op) := ops.toList.map fun o => (o.dst, o.op)
def killT (ops : Array Oper) (o : Oper) : Option Tmp := killB (opsL ops) o.op
def AppE (P : Program) (σ : St) (L : Store) (t0 : Tmp) (dst : Option Tmp) (op : Op) (v : V) (l : Store) : Prop :=
  ∃ (N : Tmp) (tt tx : TypeId) (y : Operand) (e : TypeId) (i : TypeInfo) (z : Value) (R X : List (List C)),
    dst = some N ∧ op = .call { callee := .builtin .append, args := #[.tmp t0, y], argTypes := #[tt, tx] } ∧
    tyElem P tt = some e ∧ P.info? e = some i ∧ i.zero = some z ∧ z.cells.size = i.size ∧ 0 < i.size ∧
    ev σ (.tmp t0) = .x (.one (.rs (σ.d, t0 * 64) [] i.size 0 R.length)) ∧ getA L (σ.d, t0 * 64) = some ⟨.sl, i.size, R⟩ ∧
    srcRows P (selA [y] L ++ σ.o) tx (ev σ y) = some (i.size, X) ∧ flatRows X = true ∧
    R.length + X.length ≤ 9223372036854775807 ∧ ((R.length + X.length) + (R.length + X.length) / 4 + 192) * i.bytes ≤ 281474976710656 ∧
    v = .x (.one (.rs (σ.d, N * 64) [] i.size 0 (R.length + X.length))) ∧ l = [((σ.d, N * 64), ⟨.sl, i.size, R ++ X⟩)]
def offT (t : Option Tmp) (σ : St) : St := match t with
  | some t => { σ with t := σ.t.set t badV }
  | none => σ
def offL (d : Nat) (t : Option Tmp) (L : Store) : Store := match t with
  | some t => delA L (d, t * 64)
  | none => L
def cleanV (d : Nat) (ks : List Tmp) (dst : Option Tmp) (v : V) : Bool := ks.all fun t => (dst == some t) || !hasV (d, t * 64) v
def killsOf (l : List (Option Tmp × Op)) : List Tmp := l.filterMap fun p => killB l p.2
def isEff2 (ops : Array Oper) (o : Oper) : Bool := isEff o.op && (killT ops o).isNone
def Stp2 (P : Program) (ops : Array Oper) (σ : St) (L : Store) (o : Oper) (v : V) (l : Store) : Prop :=
  match killT ops o with
  | some t => gd σ ops o = some true ∧ AppE P σ L t o.dst o.op v l
  | none => Stp P ops σ L o v l
def DRun2 (P : Program) (ops : Array Oper) : List Oper → St → Store → (St → Prop) → Prop
  | [], σ, L, K => K { σ with l := L ++ σ.l }
  | o :: rest, σ, L, K => if isEff2 ops o = true then Wlist wop P ops (o :: rest) { σ with l := L ++ σ.l } K else
      ∃ v l, Stp2 P ops σ L o v l ∧ freshR (L ++ σ.l) l = true ∧ cleanV σ.d (killsOf (opsL ops)) o.dst v = true ∧ DRun2 P ops rest (put (offT (killT ops o) σ) o.dst v) (l ++ offL σ.d (killT ops o) L) K
def headLen2 (ops : Array Oper) : List Oper → Nat
  | [] => 0
  | o :: l => if isEff2 ops o = true then 0 else headLen2 ops l + 1
def reachE (ops : Array Oper) : Nat → Nat → Nat → Bool
  | 0, _, _ => false
  | f + 1, j, i => match ops[j]? with
    | some o => hasEdge o i || o.after.any fun e => Region.binds .any e && reachE ops f e.on i
    | none => false
def flK (o : Oper) : Bool := o.guard.isNone && (match o.op with
  | .extract _ _ => true
  | .move _ => true
  | .assign _ => true
  | _ => false)
def floatB (ops : Array Oper) (m i : Nat) : Bool := match ops[i]? with
  | some oi => decide (i < m) && flK oi && (List.range ops.size).all fun j => j == i || (match ops[j]? with
    | some oj => (decide (j < m) && !flK oj) || hasEdge oj i || hasEdge oi j || oi.apart ops oj
    | none => true)
  | none => false
def drawOk2 (ops : Array Oper) : Bool :=
  let m := headLen2 ops ops.toList
  let l := ops.toList.zipIdx
  (l.all fun (o, j) => edgesOk o j) &&
  ((l.take m).all fun (o, j) => (l.take m).all fun (o', i) =>
      (i == j || o.dst.isNone || !(o.dst == o'.dst)) &&
      (Oper.looksAt ops o).all fun t => !(o'.dst == some t) || i == j || (decide (i < j) && hasEdge o i) || (decide (j < i) && hasEdge o' j)) &&
  ((l.drop m).all fun (_, j) => (List.range j).all fun i => reachE ops 8 j i || floatB ops m i) &&
  ((l.take m).all fun (o, j) => match killT ops o with
    | some t => o.guard.isNone && (l.take m).all fun (o', i) => i == j || !((Oper.looksAt ops o').contains t)
    | none => true)
def wdraw2 : DrawW := fun P ops σ K => P.follows .mixedOrders = true ∧ drawOk2 ops = true ∧ DRun2 P ops ops.toList σ [] K
section
variable {P : Program} {w w0 : World} {g g0 : Gh} {σ τ : St} {a : Act} {ops : Array Oper} {o : Oper}
theorem killB_spec {l : List (Option Tmp × Op)} {op : Op} {t : Tmp} (h : killB l op = some t) : ∃ as ats rest, op = .call { callee := .builtin .append, args := as, argTypes := ats } ∧ as.toList = .tmp t :: rest := by
  unfold killB at h
  split at h
  · rename_i as ats
    split at h
    · rename_i t' rest he
      split at h
      · cases h; exact ⟨as, ats, rest, rfl, he⟩
      · cases h
    · cases h
  · cases h
theorem kill_looks {t : Tmp} (h : killT ops o = some t) : t ∈ Oper.looksAt ops o := by
  obtain ⟨as, ats, rest, ho, hl⟩ := killB_spec h
  unfold Oper.looksAt
  refine List.mem_append_left _ (List.mem_filterMap.2 ⟨.tmp t, Array.mem_toList_iff.2 ?_, rfl⟩)
  rw [ho]
  simp only [Op.operands, Call.operands]
  have : Operand.tmp t ∈ as := Array.mem_toList_iff.1 (by rw [hl]; exact List.mem_cons_self ..)
  simpa using this
theorem getD_set_off {t : List V} {n k : Nat} {v : V} : (t.set n v).getD k badV = if n = k ∧ k < t.length then v else t.getD k badV := by
  simp only [List.getD_eq_getElem?_getD, List.getElem?_set]
  by_cases h : n = k
  · subst h
    by_cases h2 : n < t.length
    · simp [h2]
    · simp [h2]
  · simp [h]
theorem offT_t (kl : Option Tmp) (σ : St) (k : Nat) : (offT kl σ).t.getD k badV = if kl = some k ∧ k < σ.t.length then badV else σ.t.getD k badV := by
  cases kl with
  | none => simp [offT]
  | some t => simp only [offT, getD_set_off, Option.some.injEq]
theorem offT_d (kl : Option Tmp) (σ : St) : (offT kl σ).d = σ.d := by cases kl <;> rfl
theorem offT_g (kl : Option Tmp) (σ : St) : (offT kl σ).g = σ.g := by cases kl <;> rfl
theorem offT_l (kl : Option Tmp) (σ : St) : (offT kl σ).l = σ.l := by cases kl <;> rfl
theorem offT_len (kl : Option Tmp) (σ : St) : (offT kl σ).t.length = σ.t.length := by cases kl <;> simp [offT]
theorem pre2_spec {dst kl : Nat → Option Tmp} {res : Nat → V × Store} {pre : Nat → St} (n : Nat) (h0 : pre 0 = σ) (hs : ∀ j, j < n → pre (j + 1) = put (offT (kl j) (pre j)) (dst j) (res j).1)
    (hdis : ∀ i j, i < n → j < n → i ≠ j → dst i ≠ none → dst i ≠ dst j) (hk : ∀ j, j < n → ∀ t, kl j = some t → ∃ i, i < j ∧ dst i = some t) :
    ∀ j, j ≤ n → (pre j).d = σ.d ∧ (pre j).g = σ.g ∧ (pre j).l = σ.l ∧ (pre j).t.length = σ.t.length ∧
      (∀ i, i < j → ∀ t, dst i = some t → t < σ.t.length → (∀ k, k < j → kl k ≠ some t) → (pre j).t.getD t badV = (res i).1) ∧
      (∀ k, k < j → ∀ t, kl k = some t → t < σ.t.length → (pre j).t.getD t badV = badV) ∧
      (∀ t, (∀ i, i < j → dst i ≠ some t) → (pre j).t.getD t badV = σ.t.getD t badV) := by
  intro j
  induction j with
  | zero => intro _; rw [h0]; exact ⟨rfl, rfl, rfl, rfl, fun i hi => absurd hi (Nat.not_lt_zero _), fun i hi => absurd hi (Nat.not_lt_zero _), fun _ _ => rfl⟩
  | succ j ih =>
    intro hj
    obtain ⟨i1, i2, i3, i4, i5, i5D, i6⟩ := ih (by omega)
    rw [hs j (by omega)]
    have hkd : ∀ k, k ≤ j → ∀ t, kl k = some t → dst j ≠ some t := fun k hkj t hkt hdt => by
      obtain ⟨i, hi, hdi⟩ := hk k (by omega) t hkt
      exact hdis i j (by omega) (by omega) (by omega) (by rw [hdi]; simp) (by rw [hdi, hdt])
    refine ⟨by rw [put_d, offT_d, i1], by rw [put_g, offT_g, i2], by rw [put_l, offT_l, i3], by rw [put_len, offT_len, i4], fun i hi t ht hlt hal => ?_, fun k hkj t hkt hlt => ?_, fun t ht => ?_⟩
    · rw [getD_put, offT_len]
      by_cases e : i = j
      · subst e; rw [if_pos ⟨ht, by rw [i4]; exact hlt⟩]
      · rw [if_neg (fun h => hdis i j (by omega) (by omega) e (by rw [ht]; simp) (by rw [ht, h.1])), offT_t, if_neg (fun h => hal j (by omega) h.1), i5 i (by omega) t ht hlt (fun k hk' => hal k (by omega))]
    · rw [getD_put, if_neg (fun h => hkd k (by omega) t hkt h.1), offT_t]
      by_cases e : kl j = some t
      · rw [if_pos ⟨e, by rw [i4]; exact hlt⟩]
      · rw [if_neg (fun h => e h.1)]
        have : k ≠ j := fun h => e (h ▸ hkt)
        exact i5D k (by omega) t hkt hlt
    · rw [getD_put, if_neg (fun h => ht j (by omega) h.1), offT_t, if_neg (fun h => by
        obtain ⟨i, hi, hdi⟩ := hk j (by omega) t h.1
        exact ht i (by omega) hdi), i6 t (fun i hi => ht i (by omega))]
theorem LL2_from {res : Nat → V × Store} {LL : Nat → Store} {kl : Nat → Option Tmp} {d n : Nat} (h0 : LL 0 = []) (hs : ∀ j, j < n → LL (j + 1) = (res j).2 ++ offL d (kl j) (LL j)) {r : Root} {ob : Obj'} :
    ∀ k, k ≤ n → getA (LL k) r = some ob → ∃ i, i < k ∧ getA (res i).2 r = some ob ∧ ∀ j, i < j → j < k → ∀ t, kl j = some t → r ≠ (d, t * 64) := by
  intro k
  induction k with
  | zero => intro _ h; rw [h0] at h; cases h
  | succ k ih =>
    intro h1 h2
    rw [hs k (by omega), getA_append] at h2
    split at h2
    · rename_i ob' h3; cases h2; exact ⟨k, by omega, h3, fun j a1 a2 => by omega⟩
    · have key : getA (LL k) r = some ob ∧ ∀ t, kl k = some t → r ≠ (d, t * 64) := by
        cases hk : kl k with
        | none => rw [hk] at h2; exact ⟨h2, fun t ht => by cases ht⟩
        | some t =>
          rw [hk] at h2
          change getA (delA (LL k) (d, t * 64)) r = some ob at h2
          rw [getA_delA] at h2
          split at h2
          · cases h2
          · rename_i hne
            exact ⟨h2, fun t' ht' e => hne (by cases ht'; exact e.symm)⟩
      obtain ⟨i, h3, h4, h5⟩ := ih (by omega) key.1
      refine ⟨i, by omega, h4, fun j a1 a2 t ht => ?_⟩
      by_cases e : j = k
      · subst e; exact key.2 t ht
      · exact h5 j a1 (by omega) t ht
theorem LL2_has {res : Nat → V × Store} {LL : Nat → Store} {kl : Nat → Option Tmp} {d n : Nat} (hs : ∀ j, j < n → LL (j + 1) = (res j).2 ++ offL d (kl j) (LL j)) {i : Nat} {r : Root} (hr : getA (res i).2 r ≠ none)
    (hal : ∀ j, j < n → ∀ t, kl j = some t → r ≠ (d, t * 64)) : ∀ k, i < k → k ≤ n → getA (LL k) r ≠ none := by
  intro k
  induction k with
  | zero => intro h; omega
  | succ k ih =>
    intro h1 h2
    rw [hs k (by omega), getA_append]
    by_cases e : i = k
    · subst e
      cases h : getA (res i).2 r with
      | none => exact absurd h hr
      | some ob => simp
    · have h3 := ih (by omega) (by omega)
      have h4 : getA (offL d (kl k) (LL k)) r ≠ none := by
        cases hk : kl k with
        | none => exact h3
        | some t =>
          show getA (delA (LL k) (d, t * 64)) r ≠ none
          rw [getA_delA, if_neg (fun e => hal k (by omega) t hk e.symm)]; exact h3
      split
      · simp
      · exact h4
structure Inv2 (n : Nat) (dst kl : Nat → Option Tmp) (res : Nat → V × Store) (σ : St) (S : Nat → Bool) (τ : St) : Prop where
  d : τ.d = σ.d
  g : τ.g = σ.g
  len : τ.t.length = σ.t.length
  set : ∀ i, i < n → S i = true → ∀ t, dst i = some t → t < σ.t.length → (∀ j, j < n → S j = true → kl j ≠ some t) → τ.t.getD t badV = (res i).1
  off : ∀ j, j < n → S j = true → ∀ t, kl j = some t → t < σ.t.length → τ.t.getD t badV = badV
  old : ∀ t, (∀ i, i < n → S i = true → dst i ≠ some t) → τ.t.getD t badV = σ.t.getD t badV
  lold : ∀ r ob, getA σ.l r = some ob → getA τ.l r = some ob
  lnew : ∀ i, i < n → S i = true → ∀ r ob, getA (res i).2 r = some ob → (∀ j, j < n → S j = true → ∀ t, kl j = some t → r ≠ (σ.d, t * 64)) → getA τ.l r = some ob
  lback : ∀ r ob, getA τ.l r = some ob → getA σ.l r = some ob ∨ ∃ i, i < n ∧ S i = true ∧ getA (res i).2 r = some ob ∧ ∀ j, j < n → S j = true → ∀ t, kl j = some t → r ≠ (σ.d, t * 64)
theorem CR_noRef {o : Store} {loc : Option (Root × Path × Nat × Nat)} {c : C} {y : Value} {r : Root} (h : CR w o g loc c y) (hn : getA o r = none) : hasC r c = false := by
  cases c with
  | rs r' p sz off len =>
    obtain ⟨R, ⟨ob, h1, _⟩, _⟩ := h
    exact decide_eq_false fun e => by subst e; rw [hn] at h1; cases h1
  | pt r' p sz row off =>
    obtain ⟨R, b, ⟨ob, h1, _⟩, _⟩ := h
    exact decide_eq_false fun e => by subst e; rw [hn] at h1; cases h1
  | _ => rfl
theorem XR_noRef {o : Store} {x : X} {y : Value} {r : Root} (h : XR w o g x y) (hn : getA o r = none) : hasX r x = false := by
  cases x with
  | one c => exact CR_noRef (loc := none) h hn
  | agg cs =>
    obtain ⟨ys, _, _, h3⟩ := h
    show cs.any (hasC r) = false
    rw [List.any_eq_false]
    intro c hc
    obtain ⟨j, hj, rfl⟩ := List.getElem_of_mem hc
    have := CR_noRef (loc := none) (h3 j hj) hn
    rw [List.getD_eq_getElem?_getD, List.getElem?_eq_getElem hj] at this
    simpa using this
theorem VR_noRef {o : Store} {v : V} {y : Value} {r : Root} (h : VR w o g v y) (hn : getA o r = none) : hasV r v = false := by
  cases v with
  | x x => exact XR_noRef h hn
  | tup xs =>
    obtain ⟨ys, _, _, h3⟩ := h
    show xs.any (hasX r) = false
    rw [List.any_eq_false]
    intro c hc
    obtain ⟨j, hj, rfl⟩ := List.getElem_of_mem hc
    have := XR_noRef (h3 j hj) hn
    rw [List.getD_eq_getElem?_getD, List.getElem?_eq_getElem hj] at this
    simpa using this
theorem Rel.noRefT {r : Root} (hr : Rel g0 w0 σ g a w) (hn : getA σ.o r = none) (k : Nat) : hasV r (σ.t.getD k badV) = false := by
  by_cases hk : k < σ.t.length
  · exact VR_noRef (hr.tmps k hk) hn
  · rw [List.getD_eq_getElem?_getD, List.getElem?_eq_none (by omega)]; rfl
theorem Rel.noRefO {r r' : Root} {ob : Obj'} (hr : Rel g0 w0 σ g a w) (hn : getA σ.o r = none) (ho : getA σ.o r' = some ob) (hb : ob.kind = .box) : hasRows r ob.rows = false := by
  unfold hasRows
  rw [List.any_eq_false]
  intro row hrow
  simp only [Bool.not_eq_true]
  rw [List.any_eq_false]
  intro c hc
  obtain ⟨i, hi, rfl⟩ := List.getElem_of_mem hrow
  obtain ⟨j, hj, rfl⟩ := List.getElem_of_mem hc
  have hrowD : ob.rows.getD i [] = ob.rows[i] := by rw [List.getD_eq_getElem?_getD, List.getElem?_eq_getElem hi]; rfl
  have hcell : cellAt ob.rows i j = ob.rows[i][j] := by unfold cellAt; rw [hrowD, List.getD_eq_getElem?_getD, List.getElem?_eq_getElem hj]; rfl
  cases hG : g.G r' [] with
  | none =>
    rcases hr.heap.none r' [] ob ob.sz ob.rows ho rfl hG with e | ⟨e, _⟩
    · rw [e] at hi; exact absurd hi (Nat.not_lt_zero _)
    · rw [hb] at e; cases e
  | some b =>
    obtain ⟨_, k2, cs, e, f, _, _, _, k5⟩ := hr.heap.rows r' [] ob.sz ob.rows b ⟨ob, ho, rfl⟩ hG
    have hlen := k2 i hi
    rw [hrowD] at hlen
    have := CR_noRef (k5 i j hi (by rw [← hlen]; exact hj)) hn
    rw [hcell] at this
    simpa using this
theorem CR_live {o : Store} {loc : Option (Root × Path × Nat × Nat)} {c : C} {y : Value} (h : CR w o g loc c y) (r : Root) (hr : refRoot c = some r) : ∃ ob, getA o r = some ob := by
  cases c with
  | rs r' p sz off len =>
    cases hr
    obtain ⟨R, ⟨ob, h1, _⟩, _⟩ := h
    exact ⟨ob, h1⟩
  | pt r' p sz row off =>
    cases hr
    obtain ⟨R, b, ⟨ob, h1, _⟩, _⟩ := h
    exact ⟨ob, h1⟩
  | _ => cases hr
theorem refOkC_of {o : Store} {l' : Store} {d : Nat} {loc : Option (Root × Path × Nat × Nat)} {c : C} {y : Value} {r : Root} (h : CR w o g loc c y) (hc : hasC r c = false)
    (hl : ∀ r' ob, getA o r' = some ob → r' ≠ r → r'.1 < d ∨ (getA l' r').isSome = true) : refOkC d l' c = true := by
  unfold refOkC
  cases hr : refRoot c with
  | none => rfl
  | some r' =>
    obtain ⟨ob, h1⟩ := CR_live h r' hr
    have hne : r' ≠ r := by
      rintro rfl
      cases c <;> first | (cases hr; simp [hasC] at hc) | cases hr
    simpa using hl r' ob h1 hne
theorem refOkX_of {o : Store} {l' : Store} {d : Nat} {x : X} {y : Value} {r : Root} (h : XR w o g x y) (hc : hasX r x = false)
    (hl : ∀ r' ob, getA o r' = some ob → r' ≠ r → r'.1 < d ∨ (getA l' r').isSome = true) : refOkX d l' x = true := by
  cases x with
  | one c => exact refOkC_of (loc := none) h hc hl
  | agg cs =>
    obtain ⟨ys, _, _, h3⟩ := h
    show cs.all (refOkC d l') = true
    rw [List.all_eq_true]
    intro c hm
    have hc' : hasC r c = false := by
      have : cs.any (hasC r) = false := hc
      rw [List.any_eq_false] at this
      simpa using this c hm
    obtain ⟨j, hj, rfl⟩ := List.getElem_of_mem hm
    have h4 := h3 j hj
    rw [List.getD_eq_getElem?_getD, List.getElem?_eq_getElem hj] at h4
    exact refOkC_of (loc := none) h4 hc' hl
theorem refOkV_of {o : Store} {l' : Store} {d : Nat} {v : V} {y : Value} {r : Root} (h : VR w o g v y) (hc : hasV r v = false)
    (hl : ∀ r' ob, getA o r' = some ob → r' ≠ r → r'.1 < d ∨ (getA l' r').isSome = true) : refOkV d l' v = true := by
  cases v with
  | x x => exact refOkX_of h hc hl
  | tup xs =>
    obtain ⟨ys, _, _, h3⟩ := h
    show xs.all (refOkX d l') = true
    rw [List.all_eq_true]
    intro c hm
    have hc' : hasX r c = false := by
      have : xs.any (hasX r) = false := hc
      rw [List.any_eq_false] at this
      simpa using this c hm
    obtain ⟨j, hj, rfl⟩ := List.getElem_of_mem hm
    have h4 := h3 j hj
    rw [List.getD_eq_getElem?_getD, List.getElem?_eq_getElem hj] at h4
    exact refOkX_of h4 hc' hl
theorem refOkO_of {l' : Store} {d : Nat} {ob : Obj'} {r r0 : Root} (hr : Rel g0 w0 σ g a w) (ho : getA σ.o r0 = some ob) (hc : ob.kind = .box → hasRows r ob.rows = false)
    (hl : ∀ r' ob, getA σ.o r' = some ob → r' ≠ r → r'.1 < d ∨ (getA l' r').isSome = true) : refOkO d l' ob = true := by
  unfold refOkO
  split
  · rename_i hb
    rw [List.all_eq_true]
    intro row hrow
    rw [List.all_eq_true]
    intro c hm
    have hcl := hc hb
    unfold hasRows at hcl
    rw [List.any_eq_false] at hcl
    have h1 := hcl row hrow
    simp only [Bool.not_eq_true] at h1
    rw [List.any_eq_false] at h1
    have h2 : hasC r c = false := by simpa using h1 c hm
    obtain ⟨i, hi, rfl⟩ := List.getElem_of_mem hrow
    obtain ⟨j, hj, rfl⟩ := List.getElem_of_mem hm
    have hrowD : ob.rows.getD i [] = ob.rows[i] := by rw [List.getD_eq_getElem?_getD, List.getElem?_eq_getElem hi]; rfl
    have hcell : cellAt ob.rows i j = ob.rows[i][j] := by unfold cellAt; rw [hrowD, List.getD_eq_getElem?_getD, List.getElem?_eq_getElem hj]; rfl
    cases hG : g.G r0 [] with
    | none =>
      rcases hr.heap.none r0 [] ob ob.sz ob.rows ho rfl hG with e | ⟨e, _⟩
      · rw [e] at hi; exact absurd hi (Nat.not_lt_zero _)
      · rw [hb] at e; cases e
    | some b =>
      obtain ⟨_, k2, cs, e, f, _, _, _, k5⟩ := hr.heap.rows r0 [] ob.sz ob.rows b ⟨ob, ho, rfl⟩ hG
      have hlen := k2 i hi
      rw [hrowD] at hlen
      have h5 := k5 i j hi (by rw [← hlen]; exact hj)
      rw [hcell] at h5
      exact refOkC_of h5 h2 hl
  · rfl
theorem killV_getD (r : Root) (t : List V) (k : Nat) : (t.map (killV r)).getD k badV = killV r (t.getD k badV) := by
  simp only [List.getD_eq_getElem?_getD, List.getElem?_map]
  cases t[k]? with
  | none => rfl
  | some v => rfl
theorem killV_of {r : Root} {v : V} (h : hasV r v = false) : killV r v = v := by unfold killV; rw [if_neg (by rw [h]; simp)]
theorem Rel.killDrop {r : Root} (hr : Rel g0 w0 σ g a w) (hbox : ∀ r' ob, getA σ.o r' = some ob → ob.kind = .box → hasRows r ob.rows = false) :
    Rel g0 w0 ⟨σ.t.map (killV r), σ.d, delA σ.l r, σ.g⟩ g a w := by
  have hl : ∀ r' ob, getA σ.o r' = some ob → r' ≠ r → r'.1 < σ.d ∨ (getA (delA σ.l r) r').isSome = true := fun r' ob h1 hne => by
    have h2 : getA (σ.l ++ σ.g) r' = some ob := h1
    rw [getA_append] at h2
    cases e : getA σ.l r' with
    | some ob' => right; rw [getA_delA, if_neg (Ne.symm hne), e]; rfl
    | none => rw [e] at h2; exact .inl (hr.out r' ob h2)
  have ho : ∀ r' ob, getA σ.l r' = some ob → getA σ.o r' = some ob := fun r' ob h1 => by
    show getA (σ.l ++ σ.g) r' = _
    rw [getA_append, h1]
  have hog : ∀ r' ob, getA σ.g r' = some ob → getA σ.o r' = some ob := fun r' ob h1 => by
    show getA (σ.l ++ σ.g) r' = _
    rw [getA_append]
    cases e : getA σ.l r' with
    | none => exact h1
    | some ob' => exact absurd (hr.loc r' ob' e) (by have := hr.out r' ob h1; omega)
  have hdel : ∀ r' ob, getA (delA σ.l r) r' = some ob → getA σ.l r' = some ob := fun r' ob h1 => by
    rw [getA_delA] at h1
    split at h1
    · cases h1
    · exact h1
  refine Rel.drop' (t := σ.t) (l := σ.l) (T2_kill r σ.t) hdel ⟨fun i hi => ?_, fun r' ob h1 => ?_, fun r' ob h1 => ?_⟩ hr
  · have hi' : i < σ.t.length := by simpa using hi
    show refOkV σ.d (delA σ.l r) ((σ.t.map (killV r)).getD i badV) = true
    rw [killV_getD]
    by_cases hv : hasV r (σ.t.getD i badV) = true
    · unfold killV; rw [if_pos hv]; rfl
    · rw [killV_of (by simpa using hv)]
      exact refOkV_of (hr.tmps i hi') (by simpa using hv) hl
  · exact refOkO_of hr (ho _ _ (hdel _ _ h1)) (hbox _ _ (ho _ _ (hdel _ _ h1))) hl
  · exact refOkO_of hr (hog _ _ h1) (hbox _ _ (hog _ _ h1)) hl
theorem srcRows_more {o o' : Store} {tx : TypeId} {v : V} {x : Nat × List (List C)} (hm : ∀ r ob, getA o r = some ob → getA o' r = some ob) (h : srcRows P o tx v = some x) : srcRows P o' tx v = some x := by
  unfold srcRows at *
  split at h
  · exact h
  · split at h
    · rename_i e' ob he hob
      simp only [he, hm _ _ hob]
      exact h
    · cases h
  · exact h
  · exact h
  · cases h
theorem append_kill {t0 N : Tmp} {tt tx e : TypeId} {y : Operand} {i : TypeInfo} {z : Value} {R X : List (List C)} (hr : Rel g0 w0 τ g a w)
    (ho : o.op = .call { callee := .builtin .append, args := #[.tmp t0, y], argTypes := #[tt, tx] }) (he : tyElem P tt = some e) (hi : P.info? e = some i) (hz : i.zero = some z) (hzs : z.cells.size = i.size) (hpos : 0 < i.size)
    (hev : ev τ (.tmp t0) = .x (.one (.rs (τ.d, t0 * 64) [] i.size 0 R.length))) (hob : getA τ.l (τ.d, t0 * 64) = some ⟨.sl, i.size, R⟩) (hsrc : srcRows P τ.o tx (ev τ y) = some (i.size, X)) (hfl : flatRows X = true)
    (h63 : R.length + X.length ≤ 9223372036854775807) (hby : ((R.length + X.length) + (R.length + X.length) / 4 + 192) * i.bytes ≤ 281474976710656)
    (hf : getA (delA τ.l (τ.d, t0 * 64)) (τ.d, N * 64) = none) (hbox : ∀ r' ob, getA τ.o r' = some ob → ob.kind = .box → hasRows (τ.d, t0 * 64) ob.rows = false)
    {N' : Act → World → Prop} {Q : Exit → Act → World → Prop}
    (hk : ∀ g' a' w', Rel g0 w0 (put ⟨τ.t.map (killV (τ.d, t0 * 64)), τ.d, ((τ.d, N * 64), ⟨.sl, i.size, R ++ X⟩) :: delA τ.l (τ.d, t0 * 64), τ.g⟩ o.dst (.x (.one (.rs (τ.d, N * 64) [] i.size 0 (R.length + X.length))))) g' a' w' → N' a' w') : o.wp P a w N' Q := by
  obtain ⟨news, k1, k2, k3⟩ := srcRows_src hr.heap hsrc (ev_rel hr y) hfl hpos
  have hx := ev_rel hr (.tmp t0)
  rw [hev] at hx
  obtain ⟨R', ⟨ob', q1, q2⟩, _, hsl⟩ := hx
  have hdrop := Rel.killDrop (r := (τ.d, t0 * 64)) hr hbox
  have hr2 : Rel g0 w0 ⟨τ.t, τ.d, τ.l, τ.g⟩ g a w := hr
  obtain ⟨y', w', g', e1, e2, e3, _⟩ := append_run (ty := o.type) hr2 hob hdrop (r' := (τ.d, N * 64)) rfl hf (flatRows_nr hfl) (flatRows_notOwn hfl) k2 (tyElem_spec he) hi hz rfl hzs hpos hsl k1 k3 h63 hby
  have hrun : (execOp a.eval o).run P w = .ok (.value y') w' := by
    unfold execOp
    simp only [ho, resolve, invoke, builtin, Sem.run_bind, Sem.run_pure, Result.andThen_ok, List.map_toArray, List.map_cons, List.map_nil, e1]
  unfold Oper.wp; rw [hrun, Oper.upon_value]
  refine hk g' _ w' ?_
  refine e2.put o.dst (v := .x (.one (.rs (τ.d, N * 64) [] i.size 0 (R.length + X.length)))) ?_
  refine ⟨R ++ X, ⟨⟨.sl, i.size, R ++ X⟩, ?_, rfl⟩, by simp, e3⟩
  show (if (τ.d, N * 64) = (τ.d, N * 64) then _ else _) = _
  rw [if_pos rfl]
theorem DRun2_spec {K : St → Prop} : ∀ (l : List Oper) (σ : St) (L : Store), DRun2 P ops l σ L K →
    ∃ (res : Nat → V × Store) (pre : Nat → St) (LL : Nat → Store), pre 0 = σ ∧ LL 0 = L ∧
      (∀ j o, j < headLen2 ops l → l[j]? = some o → Stp2 P ops (pre j) (LL j) o (res j).1 (res j).2 ∧ pre (j + 1) = put (offT (killT ops o) (pre j)) o.dst (res j).1 ∧ LL (j + 1) = (res j).2 ++ offL σ.d (killT ops o) (LL j) ∧ freshR (LL j ++ σ.l) (res j).2 = true ∧
        cleanV σ.d (killsOf (opsL ops)) o.dst (res j).1 = true) ∧
      Wlist wop P ops (l.drop (headLen2 ops l)) { pre (headLen2 ops l) with l := LL (headLen2 ops l) ++ σ.l } K
  | [], σ, L, h => ⟨fun _ => (badV, []), fun _ => σ, fun _ => L, rfl, rfl, fun j o hj => by simp [headLen2] at hj, h⟩
  | o :: l, σ, L, h => by
    simp only [DRun2] at h
    split at h
    · rename_i he
      refine ⟨fun _ => (badV, []), fun _ => σ, fun _ => L, rfl, rfl, fun j o hj => by simp [headLen2, he] at hj, ?_⟩
      simp only [headLen2, he, if_true, List.drop_zero]; exact h
    rename_i he
    have hhl : headLen2 ops (o :: l) = headLen2 ops l + 1 := by simp only [headLen2]; rw [if_neg he]
    rw [hhl]
    simp only [List.drop_succ_cons]
    obtain ⟨v, s, h1, h2, hcl, h3⟩ := h
    obtain ⟨res, pre, LL, e1, e2, e3, e4⟩ := DRun2_spec l _ _ h3
    have hl : (put (offT (killT ops o) σ) o.dst v).l = σ.l := by rw [put_l, offT_l]
    have hd : (put (offT (killT ops o) σ) o.dst v).d = σ.d := by rw [put_d, offT_d]
    refine ⟨fun | 0 => (v, s) | j + 1 => res j, fun | 0 => σ | j + 1 => pre j, fun | 0 => L | j + 1 => LL j, rfl, rfl, fun j o' hjm hj => ?_, by rw [hl] at e4; exact e4⟩
    cases j with
    | zero =>
      simp only [List.getElem?_cons_zero, Option.some.injEq] at hj
      subst hj
      exact ⟨h1, e1, e2, h2, hcl⟩
    | succ j =>
      have := e3 j o' (by omega) (by simpa using hj)
      rw [hl, hd] at this
      exact this
structure Chk2 (ops : Array Oper) (m : Nat) : Prop where
  le : m ≤ ops.size
  edge : ∀ (j : Nat) (o : Oper), ops[j]? = some o → ∀ e ∈ o.after, Region.binds .any e = true → e.on < j
  dis : ∀ (i j : Nat) (o o' : Oper), j < m → i < m → ops[j]? = some o → ops[i]? = some o' → i ≠ j → o.dst ≠ none → o.dst ≠ o'.dst
  look : ∀ (i j : Nat) (o o' : Oper), j < m → i < m → ops[j]? = some o → ops[i]? = some o' → i ≠ j → ∀ t ∈ Oper.looksAt ops o, o'.dst = some t → (i < j ∧ hasEdge o i = true) ∨ (j < i ∧ hasEdge o' j = true)
  last : ∀ (j : Nat) (o : Oper), m ≤ j → ops[j]? = some o → ∀ i, i < j → reachE ops 8 j i = true ∨ floatB ops m i = true
  nsel : Region.noSelect ops = true
  sole : ∀ (i j : Nat) (o o' : Oper), j < m → i < m → ops[j]? = some o → ops[i]? = some o' → i ≠ j → ∀ t, killT ops o = some t → t ∉ Oper.looksAt ops o'
theorem headLen2_le : ∀ l : List Oper, headLen2 ops l ≤ l.length
  | [] => Nat.le_refl _
  | o :: l => by
    simp only [headLen2]
    split
    · exact Nat.zero_le _
    · have := headLen2_le l; simp; omega
theorem drawOk2_chk (h : drawOk2 ops = true) : Chk2 ops (headLen2 ops ops.toList) := by
  have hle : headLen2 ops ops.toList ≤ ops.size := by have := headLen2_le (ops := ops) ops.toList; simpa using this
  have hget : ∀ (j : Nat) (o : Oper), ops[j]? = some o → ops.toList.zipIdx[j]? = some (o, j) := fun j o hj => by
    rw [List.getElem?_zipIdx]; simp [hj]
  generalize hm : headLen2 ops ops.toList = m at *
  have keyA : ∀ (j : Nat) (o : Oper), ops[j]? = some o → (o, j) ∈ ops.toList.zipIdx := fun j o hj => List.mem_of_getElem? (hget j o hj)
  have keyH : ∀ (j : Nat) (o : Oper), j < m → ops[j]? = some o → (o, j) ∈ ops.toList.zipIdx.take m := fun j o hjm hj => by
    refine List.mem_of_getElem? (i := j) ?_
    rw [List.getElem?_take, if_pos hjm]; exact hget j o hj
  have keyT : ∀ (j : Nat) (o : Oper), m ≤ j → ops[j]? = some o → (o, j) ∈ ops.toList.zipIdx.drop m := fun j o hjm hj => by
    refine List.mem_of_getElem? (i := j - m) ?_
    rw [List.getElem?_drop, show m + (j - m) = j by omega]; exact hget j o hj
  unfold drawOk2 at h
  simp only [hm, Bool.and_eq_true] at h
  obtain ⟨⟨⟨hE, hH⟩, hT⟩, hS⟩ := h
  rw [List.all_eq_true] at hE hH hT hS
  refine ⟨hle, fun j o hj e he hb => ?_, fun i j o o' hjm him hj hi hne hd => ?_, fun i j o o' hjm him hj hi hne t ht hd => ?_, fun j o hmj hj i hi => ?_, ?_, fun i j o o' hjm him hj hi hne t ht => ?_⟩
  · have hok := hE _ (keyA j o hj)
    unfold edgesOk at hok
    rw [Bool.and_eq_true, Array.all_eq_true'] at hok
    have := hok.1 e he
    simpa [hb] using this
  · have := hH _ (keyH j o hjm hj)
    rw [List.all_eq_true] at this
    have := this _ (keyH i o' him hi)
    simp only [Bool.and_eq_true, Bool.or_eq_true, beq_iff_eq, Option.isNone_iff_eq_none, Bool.not_eq_true'] at this
    rcases this.1 with (h1 | h1) | h1
    · exact absurd h1 hne
    · exact absurd h1 hd
    · simpa using h1
  · have := hH _ (keyH j o hjm hj)
    rw [List.all_eq_true] at this
    have := this _ (keyH i o' him hi)
    rw [Bool.and_eq_true, List.all_eq_true] at this
    have := this.2 t ht
    simp only [Bool.or_eq_true, Bool.and_eq_true, beq_iff_eq, decide_eq_true_eq, Bool.not_eq_true', hd] at this
    rcases this with ((h1 | h1) | h1) | h1
    · simp at h1
    · exact absurd h1 hne
    · exact .inl h1
    · exact .inr h1
  · have := hT _ (keyT j o hmj hj)
    rw [List.all_eq_true] at this
    have := this i (List.mem_range.2 hi)
    simpa only [Bool.or_eq_true] using this
  · unfold Region.noSelect
    rw [Array.all_eq_true']
    intro o ho
    obtain ⟨j, hj, rfl⟩ := Array.getElem_of_mem ho
    have hok := hE _ (keyA j ops[j] (by simp [hj]))
    unfold edgesOk at hok
    rw [Bool.and_eq_true] at hok
    exact hok.2
  · have := hS _ (keyH j o hjm hj)
    simp only [ht, Bool.and_eq_true] at this
    have h2 := this.2
    rw [List.all_eq_true] at h2
    have h3 := h2 _ (keyH i o' him hi)
    simp only [Bool.or_eq_true, beq_iff_eq, Bool.not_eq_true'] at h3
    rcases h3 with h3 | h3
    · exact absurd h3 hne
    · intro hmem
      have : (Oper.looksAt ops o').contains t = true := List.contains_iff_mem.2 hmem
      rw [h3] at this; cases this
theorem floatB_spec {m i : Nat} (h : floatB ops m i = true) : i < m ∧ ∃ oi, ops[i]? = some oi ∧ flK oi = true ∧ ∀ j oj, j ≠ i → ops[j]? = some oj → (j < m ∧ flK oj = false) ∨ hasEdge oj i = true ∨ hasEdge oi j = true ∨ oi.apart ops oj = true := by
  unfold floatB at h
  split at h
  · rename_i oi hoi
    simp only [Bool.and_eq_true, decide_eq_true_eq, List.all_eq_true, Bool.or_eq_true, beq_iff_eq] at h
    refine ⟨h.1.1, oi, hoi, h.1.2, fun j oj hne hoj => ?_⟩
    have hlt : j < ops.size := (Array.getElem?_eq_some_iff.1 hoj).1
    have := h.2 j (List.mem_range.2 hlt)
    simp only [hoj, Bool.or_eq_true, Bool.and_eq_true, decide_eq_true_eq, Bool.not_eq_true'] at this
    rcases this with h1 | ((h1 | h1) | h1) | h1
    · exact absurd h1 hne
    · exact .inl h1
    · exact .inr (.inl h1)
    · exact .inr (.inr (.inl h1))
    · exact .inr (.inr (.inr h1))
  · cases h
theorem flK_run (h : flK o = true) (a : Act) : (∃ v, ∀ w, (execOp a.eval o).run P w = .ok (.value v) w) ∨ (∃ why, ∀ w, (execOp a.eval o).run P w = .halt (.stuck why) w) := by
  unfold flK at h
  rw [Bool.and_eq_true] at h
  have h2 := h.2
  split at h2
  · rename_i t ix ho
    simp only [execOp, ho, Sem.run_bind]
    unfold Instr.extract
    split
    · split
      · rename_i v hv; exact .inl ⟨v, fun w => rfl⟩
      · exact .inr ⟨_, fun w => rfl⟩
    · exact .inr ⟨_, fun w => rfl⟩
  · rename_i x ho; exact .inl ⟨a.eval x, fun w => by simp [execOp, ho]⟩
  · rename_i x ho; exact .inl ⟨a.eval x, fun w => by simp [execOp, ho]⟩
  · cases h2
theorem flK_step {i : Nat} {oi : Oper} {K : Act → World → Prop} {Q : Exit → Act → World → Prop} (hi : ops[i]? = some oi) (hf : flK oi = true) (hL : ¬ LetsOut Q) (h : wpOp P ops Q i K a w) :
    ∃ v, Yields P ops oi v a ∧ K (a.put oi.dst v) w := by
  have hg : oi.guard = none := by
    unfold flK at hf
    rw [Bool.and_eq_true] at hf
    simpa using hf.1
  have hw : Region.wanted oi (yielded ops a.tmps) = true := by unfold Region.wanted; rw [hg]
  unfold wpOp at h
  simp only [hi, hw, if_true] at h
  rcases h with h | h
  · unfold Oper.wp at h
    rcases flK_run (P := P) hf a with ⟨v, hv⟩ | ⟨why, hv⟩
    · rw [hv w] at h
      exact ⟨v, .inl ⟨hw, hv⟩, h⟩
    · rw [hv w] at h; exact h.elim
  · exact absurd h.2 hL
theorem reach_listed {listed : Array Bool} (hcl : ∀ j o, ops[j]? = some o → listed.getD j false = true → ∀ e ∈ o.after, Region.binds .any e = true → listed.getD e.on false = true) {i : Nat} :
    ∀ (f j : Nat) (o : Oper), ops[j]? = some o → (∀ e ∈ o.after, Region.binds .any e = true → listed.getD e.on false = true) → reachE ops f j i = true → listed.getD i false = true
  | 0, _, _, _, _, h => by cases h
  | f + 1, j, o, ho, hp, h => by
    unfold reachE at h
    simp only [ho, Bool.or_eq_true] at h
    rcases h with h | h
    · obtain ⟨e, he1, he2, he3⟩ := hasEdge_spec h
      rw [← he2]; exact hp e he1 he3
    · rw [Array.any_eq_true'] at h
      obtain ⟨e, he, h⟩ := h
      rw [Bool.and_eq_true] at h
      have h1 := hp e he h.1
      cases ho2 : ops[e.on]? with
      | none =>
        have h2 := h.2
        unfold reachE at h2
        cases f with
        | zero => simp at h2
        | succ f => simp [ho2] at h2
      | some o2 => exact reach_listed hcl f e.on o2 ho2 (fun e' he' hb' => hcl e.on o2 ho2 h1 e' he' hb') h.2
theorem OpE_box {L l : Store} {v : V} (h : OpE P σ L o v l) {r : Root} {ob : Obj'} (hr : getA l r = some ob) (hb : ob.kind = .box) (r' : Root) : hasRows r' ob.rows = false := by
  unfold OpE at h
  split at h
  · split at h
    · obtain ⟨xs, ret, _, _, h3, rfl, _⟩ := h
      obtain ⟨i, sz, R, _, _, _, h7⟩ := getA_newRoots _ _ _ _ _ _ hr
      subst h7
      cases hb
    · exact h.elim
  · split at h
    · rename_i N zs hN hz
      rw [h.1] at hr
      simp only [getA] at hr
      split at hr
      · cases hr
        simp [hasRows, hasC]
      · cases hr
    · exact h.elim
  · split at h
    · rename_i N sz hN hz
      rw [h.2.1] at hr
      simp only [getA] at hr
      split at hr
      · cases hr; cases hb
      · cases hr
    · exact h.elim
  · split at h
    · rename_i N p hN hz
      rw [h.1] at hr
      simp only [getA] at hr
      split at hr
      · cases hr; cases hb
      · cases hr
    · rw [h.2] at hr; cases hr
  · rw [h.2] at hr; cases hr
theorem mul64 {d a b : Nat} (h : ((d, a * 64) : Root) = (d, b * 64)) : a = b := by
  have h2 : a * 64 = b * 64 := congrArg Prod.snd h
  omega
theorem root64 {d a b q : Nat} (h : ((d, a * 64) : Root) = (d, b * 64 + q)) (hq : q < 64) : b = a := by
  have h2 : a * 64 = b * 64 + q := congrArg Prod.snd h
  omega
theorem root64' {d a b p q : Nat} (h : ((d, a * 64 + p) : Root) = (d, b * 64 + q)) (hp : p < 64) (hq : q < 64) : a = b := by
  have h2 : a * 64 + p = b * 64 + q := congrArg Prod.snd h
  omega
structure Text2 (P : Program) (ops : Array Oper) (σ : St) (m : Nat) (res : Nat → V × Store) (pre : Nat → St) (LL : Nat → Store) : Prop where
  chk : Chk2 ops m
  h0 : pre 0 = σ
  l0 : LL 0 = []
  step : ∀ j o, j < m → ops[j]? = some o → Stp2 P ops (pre j) (LL j) o (res j).1 (res j).2 ∧ pre (j + 1) = put (offT (killT ops o) (pre j)) o.dst (res j).1 ∧ LL (j + 1) = (res j).2 ++ offL σ.d (killT ops o) (LL j) ∧ freshR (LL j ++ σ.l) (res j).2 = true ∧
    cleanV σ.d (killsOf (opsL ops)) o.dst (res j).1 = true
  noT : ∀ r, getA σ.o r = none → ∀ k, hasV r (σ.t.getD k badV) = false
  noL : ∀ r r' ob, getA σ.o r = none → getA σ.l r' = some ob → ob.kind = .box → hasRows r ob.rows = false
  noG : ∀ r r' ob, getA σ.o r = none → getA σ.g r' = some ob → ob.kind = .box → hasRows r ob.rows = false
  out : ∀ r ob, getA σ.g r = some ob → r.1 < σ.d
def dstF (ops : Array Oper) (i : Nat) : Option Tmp := (ops[i]?).bind (·.dst)
def klF (ops : Array Oper) (i : Nat) : Option Tmp := (ops[i]?).bind (killT ops)
structure Facts2 (ops : Array Oper) (σ : St) (m : Nat) (res : Nat → V × Store) (pre : Nat → St) (LL : Nat → Store) : Prop where
  dis : ∀ i j, i < m → j < m → i ≠ j → dstF ops i ≠ none → dstF ops i ≠ dstF ops j
  lls : ∀ j, j < m → LL (j + 1) = (res j).2 ++ offL σ.d (klF ops j) (LL j)
  pres : ∀ j, j < m → pre (j + 1) = put (offT (klF ops j) (pre j)) (dstF ops j) (res j).1
  root : ∀ j, j < m → ∀ r ob, getA (res j).2 r = some ob → ∃ N, dstF ops j = some N ∧ ∃ q : Nat, q < 64 ∧ r = (σ.d, N * 64 + q)
  notl : ∀ j, j < m → ∀ r, getA (res j).2 r ≠ none → getA σ.l r = none
  nots : ∀ i j, i < m → j < m → i ≠ j → ∀ r, getA (res j).2 r ≠ none → getA (res i).2 r = none
  boxr : ∀ j, j < m → ∀ r ob, getA (res j).2 r = some ob → ob.kind = .box → ∀ r', hasRows r' ob.rows = false
  maker : ∀ j, j < m → ∀ t, klF ops j = some t → ∃ i, i < j ∧ dstF ops i = some t ∧ getA (res i).2 (σ.d, t * 64) ≠ none
  kout : ∀ j, j < m → ∀ t, klF ops j = some t → getA σ.o (σ.d, t * 64) = none
  clean : ∀ i j, i < m → j < m → ∀ t, klF ops j = some t → dstF ops i ≠ some t → hasV (σ.d, t * 64) (res i).1 = false
theorem Text2.op {m : Nat} {res : Nat → V × Store} {pre : Nat → St} {LL : Nat → Store} (h : Text2 P ops σ m res pre LL) {j : Nat} (hj : j < m) : ops[j]? = some (ops[j]!) := by
  have : j < ops.size := Nat.lt_of_lt_of_le hj h.chk.le
  simp [this]
theorem Text2.facts {m : Nat} {res : Nat → V × Store} {pre : Nat → St} {LL : Nat → Store} (h : Text2 P ops σ m res pre LL) : Facts2 ops σ m res pre LL := by
  have hop : ∀ j, j < m → ops[j]? = some (ops[j]!) := fun j hj => h.op hj
  have hs' : ∀ j, j < m → ∃ o, ops[j]? = some o ∧ dstF ops j = o.dst ∧ klF ops j = killT ops o ∧ Stp2 P ops (pre j) (LL j) o (res j).1 (res j).2 ∧ pre (j + 1) = put (offT (killT ops o) (pre j)) o.dst (res j).1 ∧ LL (j + 1) = (res j).2 ++ offL σ.d (killT ops o) (LL j) ∧ freshR (LL j ++ σ.l) (res j).2 = true ∧
    cleanV σ.d (killsOf (opsL ops)) o.dst (res j).1 = true := fun j hj =>
    ⟨_, hop j hj, by simp [dstF, hop j hj], by simp [klF, hop j hj], h.step j _ hj (hop j hj)⟩
  have hdis : ∀ i j, i < m → j < m → i ≠ j → dstF ops i ≠ none → dstF ops i ≠ dstF ops j := fun i j hi hj hne hd => by
    simp only [dstF, hop i hi, hop j hj, Option.bind_some] at hd ⊢
    exact h.chk.dis j i _ _ hi hj (hop i hi) (hop j hj) (fun e => hne e.symm) hd
  have hlls : ∀ j, j < m → LL (j + 1) = (res j).2 ++ offL σ.d (klF ops j) (LL j) := fun j hj => by
    obtain ⟨o, _, _, hk, _, _, e, _⟩ := hs' j hj
    rw [hk]; exact e
  have hpres : ∀ j, j < m → pre (j + 1) = put (offT (klF ops j) (pre j)) (dstF ops j) (res j).1 := fun j hj => by
    obtain ⟨o, _, hd, hk, _, e, _⟩ := hs' j hj
    rw [hk, hd]; exact e
  have hpd : ∀ j, j ≤ m → (pre j).d = σ.d := by
    intro j
    induction j with
    | zero => intro _; rw [h.h0]
    | succ j ih => intro hj; rw [hpres j (by omega), put_d, offT_d]; exact ih (by omega)
  have hroot : ∀ j, j < m → ∀ r ob, getA (res j).2 r = some ob → ∃ N, dstF ops j = some N ∧ ∃ q : Nat, q < 64 ∧ r = (σ.d, N * 64 + q) := fun j hj r ob hr => by
    obtain ⟨o, ho, hd, hk, hst, _⟩ := hs' j hj
    unfold Stp2 at hst
    split at hst
    · obtain ⟨_, N, tt, tx, y, e, i, z, R, X, h1, _, _, _, _, _, _, _, _, _, _, _, _, _, hl⟩ := hst
      rw [hl] at hr
      simp only [getA] at hr
      split at hr
      · rename_i he
        exact ⟨N, by rw [hd]; exact h1, 0, by omega, by rw [← he, hpd j (by omega)]; rfl⟩
      · cases hr
    · rcases hst with ⟨_, hE⟩ | ⟨_, _, hl⟩
      · obtain ⟨N, hN, q, hq, hr2⟩ := OpE_roots hE hr
        exact ⟨N, by rw [hd]; exact hN, q, hq, by rw [hr2, hpd j (by omega)]⟩
      · rw [hl] at hr; cases hr
  have hnotl : ∀ j, j < m → ∀ r, getA (res j).2 r ≠ none → getA σ.l r = none := fun j hj r hr => by
    obtain ⟨o, _, _, _, _, _, _, hf, _⟩ := hs' j hj
    obtain ⟨ob, hob⟩ := Option.ne_none_iff_exists'.1 hr
    have h1 := freshR_spec hf hob
    rw [getA_append] at h1
    cases h2 : getA (LL j) r with
    | none => rw [h2] at h1; exact h1
    | some ob => rw [h2] at h1; cases h1
  have hmaker : ∀ j, j < m → ∀ t, klF ops j = some t → ∃ i, i < j ∧ dstF ops i = some t ∧ getA (res i).2 (σ.d, t * 64) ≠ none := fun j hj t ht => by
    obtain ⟨o, ho, hd, hk, hst, _⟩ := hs' j hj
    rw [hk] at ht
    unfold Stp2 at hst
    rw [ht] at hst
    obtain ⟨_, N, tt, tx, y, e, i, z, R, X, _, _, _, _, _, _, _, _, hL, _⟩ := hst
    rw [hpd j (by omega)] at hL
    obtain ⟨i0, hi0, h1, _⟩ := LL2_from h.l0 hlls j (by omega) hL
    obtain ⟨N', hN', q, hq, hr2⟩ := hroot i0 (by omega) _ _ h1
    have : N' = t := root64 hr2 hq
    exact ⟨i0, hi0, by rw [hN', this], by rw [h1]; simp⟩
  refine ⟨hdis, hlls, hpres, hroot, hnotl, fun i j hi hj hne r hr => ?_, fun j hj r ob hr hb r' => ?_, hmaker, fun j hj t ht => ?_, fun i j hi hj t ht hd => ?_⟩
  · cases hri : getA (res i).2 r with
    | none => rfl
    | some ob =>
      exfalso
      obtain ⟨ob', hob'⟩ := Option.ne_none_iff_exists'.1 hr
      obtain ⟨N1, e1, q1, hq1, r1⟩ := hroot i hi r ob hri
      obtain ⟨N2, e2, q2, hq2, r2⟩ := hroot j hj r ob' hob'
      have : N1 = N2 := root64' (r1.symm.trans r2) hq1 hq2
      exact hdis i j hi hj hne (by rw [e1]; simp) (by rw [e1, e2, this])
  · obtain ⟨o, ho, hd, hk, hst, _⟩ := hs' j hj
    unfold Stp2 at hst
    split at hst
    · obtain ⟨_, N, tt, tx, y, e, i, z, R, X, _, _, _, _, _, _, _, _, _, _, _, _, _, _, hl⟩ := hst
      rw [hl] at hr
      simp only [getA] at hr
      split at hr
      · cases hr; cases hb
      · cases hr
    · rcases hst with ⟨_, hE⟩ | ⟨_, _, hl⟩
      · exact OpE_box hE hr hb r'
      · rw [hl] at hr; cases hr
  · obtain ⟨i, hi, _, h1⟩ := hmaker j hj t ht
    show getA (σ.l ++ σ.g) _ = none
    rw [getA_append, hnotl i (by omega) _ h1]
    simp only []
    cases hg : getA σ.g (σ.d, t * 64) with
    | none => rfl
    | some ob => have := h.out _ _ hg; simp at this
  · obtain ⟨o, ho, hdo, _, _, _, _, _, hcl⟩ := hs' i hi
    unfold cleanV at hcl
    rw [List.all_eq_true] at hcl
    have hmem : t ∈ killsOf (opsL ops) := by
      unfold killsOf opsL
      rw [List.mem_filterMap]
      have hoj := hop j hj
      have hjs : j < ops.size := Nat.lt_of_lt_of_le hj h.chk.le
      refine ⟨((ops[j]!).dst, (ops[j]!).op), List.mem_map.2 ⟨ops[j]!, ?_, rfl⟩, ?_⟩
      · rw [Array.mem_toList_iff]
        have : ops[j]! = ops[j] := by simp [hjs]
        rw [this]; exact Array.getElem_mem hjs
      · have : klF ops j = killT ops (ops[j]!) := by simp [klF, hoj]
        rw [this] at ht
        exact ht
    have := hcl t hmem
    simp only [Bool.or_eq_true, beq_iff_eq, Bool.not_eq_true'] at this
    rcases this with h1 | h1
    · exact absurd (hdo.trans h1) hd
    · exact h1
theorem draw2_main [Tb P g0 w0] {m : Nat} {res : Nat → V × Store} {pre : Nat → St} {LL : Nat → Store} (ht : Text2 P ops σ m res pre LL)
    {Q : Exit → Act → World → Prop} (hL : ¬ LetsOut Q) (hP : ∀ c a w, ¬ Q (.panic c) a w)
    (hfin : ∀ (fuel : Nat) (listed : Array Bool) τ g a w, listed.size = ops.size → unlisted listed = fuel → (∀ i, i < m → listed.getD i true = true) → (∀ i, m ≤ i → i < ops.size → listed.getD i true = false) →
      Inv2 m (dstF ops) (klF ops) res σ (fun _ => true) τ → Rel g0 w0 τ g a w → wpAny P .any ops Q fuel listed a w) :
    ∀ (fuel : Nat) (listed : Array Bool), listed.size = ops.size → unlisted listed = fuel →
      (∀ j o, ops[j]? = some o → listed.getD j true = true → ∀ e ∈ o.after, Region.binds .any e = true → listed.getD e.on false = true) →
      (∀ i, m ≤ i → i < ops.size → listed.getD i true = false) →
      ∀ τ g a w, Inv2 m (dstF ops) (klF ops) res σ (fun i => listed.getD i true) τ → Rel g0 w0 τ g a w → wpAny P .any ops Q fuel listed a w := by
  have hc := ht.chk
  have F := ht.facts
  have hmsz := hc.le
  have hop : ∀ j, j < m → ops[j]? = some (ops[j]!) := fun j hj => ht.op hj
  have hpre := pre2_spec (σ := σ) (dst := dstF ops) (kl := klF ops) (res := res) (pre := pre) m ht.h0 F.pres F.dis (fun j hj t hk => by obtain ⟨i, h1, h2, _⟩ := F.maker j hj t hk; exact ⟨i, h1, h2⟩)
  have done : ∀ (fuel : Nat) (listed : Array Bool) τ g a w, listed.size = ops.size → unlisted listed = fuel → (∀ i, m ≤ i → i < ops.size → listed.getD i true = false) → (∀ i, i < m → listed.getD i true = true) →
      Inv2 m (dstF ops) (klF ops) res σ (fun i => listed.getD i true) τ → Rel g0 w0 τ g a w → wpAny P .any ops Q fuel listed a w := by
    intro fuel listed τ g a w hsz hun hB hall hinv hr
    refine hfin fuel listed τ g a w hsz hun hall hB ⟨hinv.d, hinv.g, hinv.len, fun i hi _ t hd hl hal => hinv.set i hi (hall i hi) t hd hl (fun j hj _ => hal j hj rfl), fun j hj _ t hk hl => hinv.off j hj (hall j hj) t hk hl, fun t h => hinv.old t fun i hi _ => h i hi rfl, hinv.lold, fun i hi _ r ob h hal => hinv.lnew i hi (hall i hi) r ob h (fun j hj _ => hal j hj rfl), fun r ob h => ?_⟩ hr
    rcases hinv.lback r ob h with h1 | ⟨i, hi, _, h1, h2⟩
    · exact .inl h1
    · exact .inr ⟨i, hi, rfl, h1, fun j hj _ => h2 j hj (hall j hj)⟩
  intro fuel
  induction fuel with
  | zero =>
    intro listed hsz hun hcl hB τ g a w hinv hr
    have hall : ∀ i, listed.getD i true = true := by
      intro i
      simp only [unlisted, List.countP_eq_zero] at hun
      by_cases hi : i < listed.size
      · have := hun listed[i] (by simp)
        simpa [Array.getD, hi] using this
      · simp [Array.getD, hi]
    exact done 0 listed τ g a w hsz hun hB (fun i _ => hall i) hinv hr
  | succ fuel ih =>
    intro listed hsz hun hcl hB τ g a w hinv hr
    by_cases hall : ∀ i, i < m → listed.getD i true = true
    · exact done _ listed τ g a w hsz hun hB hall hinv hr
    have hsome : ∃ j, j < m ∧ listed.getD j true = false := by
      have := Classical.not_forall.1 hall
      obtain ⟨j, hj⟩ := this
      obtain ⟨h1, h2⟩ := Classical.not_imp.1 hj
      exact ⟨j, h1, by simpa using h2⟩
    have hin : ∀ k, listed.getD k false = true → listed.getD k true = true := fun k hk => by
      by_cases h : k < listed.size
      · simpa [Array.getD, h] using hk
      · simp [Array.getD, h]
    have hin' : ∀ k, k < m → listed.getD k true = true → listed.getD k false = true := fun k hkm hk => by
      have : k < listed.size := by rw [hsz]; exact Nat.lt_of_lt_of_le hkm hmsz
      simpa [Array.getD, this] using hk
    have least : ∃ j, j < m ∧ listed.getD j true = false ∧ j ∈ Region.ready .any ops listed := by
      have hmin : ∃ j, j < m ∧ listed.getD j true = false ∧ ∀ i, i < j → listed.getD i true = true := by
        obtain ⟨j, hj⟩ := hsome
        induction j using Nat.strongRecOn with
        | _ j ihj =>
          by_cases h : ∃ i, i < j ∧ listed.getD i true = false
          · obtain ⟨i, h1, h2⟩ := h
            exact ihj i h1 ⟨by omega, h2⟩
          · refine ⟨j, hj.1, hj.2, fun i hi => ?_⟩
            cases hb : listed.getD i true with
            | true => rfl
            | false => exact absurd ⟨i, hi, hb⟩ h
      obtain ⟨j, hj1, hj2, hj3⟩ := hmin
      exact ⟨j, hj1, hj2, ready_of (hop j hj1) hj2 fun e he hb => by
        have hlt := hc.edge j _ (hop j hj1) e he hb
        exact hin' e.on (by omega) (hj3 e.on hlt)⟩
    have step : ∀ j, j ∈ Region.ready .any ops listed → j < m → wpOp P ops Q j (wpAny P .any ops Q fuel (listed.setIfInBounds j true)) a w := by
      intro j hj hjn
      obtain ⟨o, ho, hlj, hpred⟩ := ready_spec hj
      have hjl : j < listed.size := by rw [hsz]; exact Nat.lt_of_lt_of_le hjn hmsz
      obtain ⟨p1, p2, p3, p4, p5, p5D, p6⟩ := hpre j (Nat.le_of_lt hjn)
      obtain ⟨hstp, _, _, _, _⟩ := ht.step j o hjn ho
      have hds : dstF ops j = o.dst := by simp [dstF, ho]
      have hks : klF ops j = killT ops o := by simp [klF, ho]
      -- who kills is the only one that looks
      have hsole : ∀ j' t, j' < m → klF ops j' = some t → t ∈ Oper.looksAt ops o → j' = j := fun j' t hj' hk htl => by
        by_cases e : j' = j
        · exact e
        · have hk' : killT ops (ops[j']!) = some t := by simpa [klF, hop j' hj'] using hk
          exact absurd htl (hc.sole j j' _ o hj' hjn (hop j' hj') ho (fun h => e h.symm) t hk')
      have hnotS : ∀ j' t, j' < m → listed.getD j' true = true → klF ops j' = some t → t ∉ Oper.looksAt ops o := fun j' t hj' hS hk htl => by
        have := hsole j' t hj' hk htl
        subst this
        rw [hlj] at hS; cases hS
      -- the maker of what a listed operation appended to is listed
      have hmk : ∀ j', j' < m → listed.getD j' true = true → ∀ t, klF ops j' = some t → ∀ i, i < m → dstF ops i = some t → listed.getD i true = true := fun j' hj' hS t hk i hi hd => by
        obtain ⟨i0, hi0, hd0, _⟩ := F.maker j' hj' t hk
        have hii : i = i0 := by
          by_cases e : i = i0
          · exact e
          · exact absurd (hd.trans hd0.symm) (F.dis i i0 hi (by omega) e (by rw [hd]; simp))
        subst hii
        have hk' : killT ops (ops[j']!) = some t := by simpa [klF, hop j' hj'] using hk
        have hd' : (ops[i]!).dst = some t := by simpa [dstF, hop i hi] using hd
        rcases hc.look i j' _ _ hj' hi (hop j' hj') (hop i hi) (by omega) t (kill_looks hk') hd' with ⟨_, he⟩ | ⟨hlt, _⟩
        · obtain ⟨e, he1, he2, he3⟩ := hasEdge_spec he
          exact hin i (he2 ▸ hcl j' _ (hop j' hj') hS e he1 he3)
        · omega
      have hdk : ∀ j', j' < m → (listed.getD j' true = true ∨ j' = j) → ∀ t, klF ops j' = some t → dstF ops j ≠ some t := fun j' hj' hS t hk hd => by
        rcases hS with hS | rfl
        · have := hmk j' hj' hS t hk j hjn hd
          rw [hlj] at this; cases this
        · obtain ⟨i0, hi0, hd0, _⟩ := F.maker j' hj' t hk
          exact F.dis i0 j' (by omega) hj' (by omega) (by rw [hd0]; simp) (by rw [hd0, hd])
      -- what the operation looks at
      have hlook : ∀ t ∈ Oper.looksAt ops o, τ.t.getD t badV = (pre j).t.getD t badV := by
        intro t htl
        by_cases hlen : t < σ.t.length
        · have hal1 : ∀ j', j' < m → listed.getD j' true = true → klF ops j' ≠ some t := fun j' hj' hS hk => hnotS j' t hj' hS hk htl
          have hal2 : ∀ k, k < j → klF ops k ≠ some t := fun k hk hkt => by
            have := hsole k t (by omega) hkt htl
            omega
          by_cases hex : ∃ i, i < m ∧ i ≠ j ∧ dstF ops i = some t
          · obtain ⟨i, hi, hne, hd⟩ := hex
            have hd' : (ops[i]!).dst = some t := by simpa [dstF, hop i hi] using hd
            rcases hc.look i j o _ hjn hi ho (hop i hi) (fun e => hne e) t htl hd' with ⟨hlt, he⟩ | ⟨hlt, he⟩
            · obtain ⟨e, he1, he2, he3⟩ := hasEdge_spec he
              have hSi : listed.getD i true = true := hin i (he2 ▸ hpred e he1 he3)
              rw [hinv.set i hi hSi t hd hlen hal1, p5 i hlt t hd hlen hal2]
            · obtain ⟨e, he1, he2, he3⟩ := hasEdge_spec he
              have hSi : ¬ listed.getD i true = true := fun hSi => by
                have := hin _ (he2 ▸ hcl i _ (hop i hi) hSi e he1 he3)
                rw [hlj] at this; cases this
              have huniq : ∀ k, k < m → dstF ops k = some t → k = i := fun k hk hdk => by
                by_cases e : k = i
                · exact e
                · exact absurd (hdk.trans hd.symm) (F.dis k i hk hi e (by rw [hdk]; simp))
              rw [hinv.old t (fun k hk hSk hdk => hSi (huniq k hk hdk ▸ hSk)), p6 t (fun k hk hdk => by have := huniq k (by omega) hdk; omega)]
          · have hno : ∀ k, k < m → k ≠ j → dstF ops k ≠ some t := fun k hk hne hd => hex ⟨k, hk, hne, hd⟩
            rw [hinv.old t (fun k hk hSk hdk => by
              by_cases e : k = j
              · subst e; rw [hlj] at hSk; cases hSk
              · exact hno k hk e hdk), p6 t (fun k hk => hno k (by omega) (by omega))]
        · have h1 : τ.t.length ≤ t := by rw [hinv.len]; exact Nat.le_of_not_lt hlen
          have h2 : (pre j).t.length ≤ t := by rw [p4]; exact Nat.le_of_not_lt hlen
          simp [List.getD_eq_getElem?_getD, List.getElem?_eq_none h1, List.getElem?_eq_none h2]
      obtain ⟨hev, hgd⟩ := looks_ev (σ := pre j) (τ := τ) hlook
      have hmore : ∀ r ob, getA (pre j).o r = some ob → getA τ.o r = some ob := by
        intro r ob hrob
        have hrob' : getA ((pre j).l ++ (pre j).g) r = some ob := hrob
        rw [p3, p2, getA_append] at hrob'
        show getA (τ.l ++ τ.g) r = some ob
        rw [getA_append]
        cases hl : getA σ.l r with
        | some ob' =>
          rw [hl] at hrob'
          rw [hinv.lold r ob' hl]; exact hrob'
        | none =>
          rw [hl] at hrob'
          have hg' : getA τ.g r = some ob := by rw [hinv.g]; exact hrob'
          cases hτ : getA τ.l r with
          | none => exact hg'
          | some ob' =>
            have e1 := hr.loc r ob' hτ
            have e2 := hr.out r ob hg'
            omega
      have hsel : ∀ (as : List Operand), (∀ t, Operand.tmp t ∈ as → t ∈ Oper.looksAt ops o) → ∀ r ob, getA (selA as (LL j) ++ (pre j).o) r = some ob → getA τ.o r = some ob := by
        intro as has r ob hrob
        rw [getA_append] at hrob
        split at hrob
        · rename_i ob' hsl
          cases hrob
          obtain ⟨k1, k2⟩ := selA_get hsl
          obtain ⟨t, k3, k4, k5⟩ := hasA_get k1
          obtain ⟨i, hij, k6, _⟩ := LL2_from ht.l0 F.lls j (Nat.le_of_lt hjn) k2
          obtain ⟨N, hN, q, hq, hr2⟩ := F.root i (by omega) _ _ k6
          have hdt : dstF ops i = some t := by
            rw [hr2] at k4 k5
            rw [hN]
            exact congrArg some (same64 k4 k5 hq)
          have htl := has t k3
          have hi : i < m := Nat.lt_trans hij hjn
          rcases hc.look i j o _ hjn hi ho (hop i hi) (by omega) t htl (by simpa [dstF, hop i hi] using hdt) with ⟨_, he⟩ | ⟨hlt, _⟩
          · obtain ⟨e, he1, he2, he3⟩ := hasEdge_spec he
            have hSi : listed.getD i true = true := hin i (he2 ▸ hpred e he1 he3)
            show getA (τ.l ++ τ.g) r = some ob
            rw [getA_append, hinv.lnew i hi hSi r ob k6 (fun j' hj' hS t' hk e => by
              have : N = t' := root64 (e.symm.trans hr2) hq
              rw [hdt] at hN
              cases hN
              exact hnotS j' t' hj' hS hk (this ▸ htl))]
          · omega
        · exact hmore r ob hrob
      have hset : (fun i => (listed.setIfInBounds j true).getD i true) = fun i => if i = j then true else listed.getD i true := by
        funext i
        simp only [Array.getD_eq_getD_getElem?]
        by_cases e : i = j
        · subst e; simp [hjl]
        · rw [Array.getElem?_setIfInBounds_ne (fun h => e h.symm), if_neg e]
      have hgo : ∀ τ' g' a' w', Inv2 m (dstF ops) (klF ops) res σ (fun i => if i = j then true else listed.getD i true) τ' → Rel g0 w0 τ' g' a' w' → wpAny P .any ops Q fuel (listed.setIfInBounds j true) a' w' := by
        intro τ' g' a' w' hτ' hr'
        refine ih (listed.setIfInBounds j true) (by simp [hsz]) ?_ ?_ (fun i hi1 hi2 => by
          rw [show (listed.setIfInBounds j true).getD i true = _ from congrFun hset i, if_neg (fun e => by subst e; exact absurd hjn (Nat.not_lt.2 hi1))]
          exact hB i hi1 hi2) τ' g' a' w' (by rw [hset]; exact hτ') hr'
        · unfold unlisted at hun ⊢
          have hb : listed.toList[j]'(by simpa using hjl) = false := by
            simpa [Array.getD, hjl] using hlj
          rw [Array.toList_setIfInBounds]
          have := List.countP_set (p := fun b => !b) (l := listed.toList) (a := true) (i := j) (h := by simpa using hjl)
          rw [this, hb, hun]; simp
        · intro k ok hok hk e he hbd
          have hkk : (if k = j then true else listed.getD k true) = true := by rw [← congrFun hset k]; exact hk
          have mono : ∀ m, listed.getD m false = true → (listed.setIfInBounds j true).getD m false = true := fun m hm => by
            simp only [Array.getD_eq_getD_getElem?] at hm ⊢
            by_cases e : m = j
            · subst e; simp [hjl]
            · rw [Array.getElem?_setIfInBounds_ne (fun h => e h.symm)]; exact hm
          by_cases ek : k = j
          · subst ek
            rw [ho] at hok; cases hok
            exact mono _ (hpred e he hbd)
          · rw [if_neg ek] at hkk
            exact mono _ (hcl k ok hok hkk e he hbd)
      have hS' : ∀ i, (if i = j then true else listed.getD i true) = true → i ≠ j → listed.getD i true = true := fun i h e => by rw [if_neg e] at h; exact h
      have hS2 : ∀ i, listed.getD i true = true → (if i = j then true else listed.getD i true) = true := fun i h => by
        by_cases e : i = j <;> simp [e, h]
      have hkl0 : ∀ t, killT ops o = some t → getA σ.o (σ.d, t * 64) = none := fun t h => F.kout j hjn t (by rw [hks]; exact h)
      cases hkj : killT ops o with
      | none =>
        have hkn : klF ops j = none := by rw [hks]; exact hkj
        unfold Stp2 at hstp
        rw [hkj] at hstp
        have hsn : ∀ j', (if j' = j then true else listed.getD j' true) = true → ∀ t, klF ops j' = some t → listed.getD j' true = true := fun j' hS t hk => hS' j' hS (fun e => by subst e; rw [hkn] at hk; cases hk)
        have hnext : ∀ τ' g' a' w', τ' = put { τ with l := (res j).2 ++ τ.l } o.dst (res j).1 → Rel g0 w0 τ' g' a' w' → wpAny P .any ops Q fuel (listed.setIfInBounds j true) a' w' := by
          intro τ' g' a' w' hτ' hr'
          refine hgo τ' g' a' w' ?_ hr'
          subst hτ'
          refine ⟨by rw [put_d]; exact hinv.d, by rw [put_g]; exact hinv.g, by rw [put_len]; exact hinv.len, ?_, ?_, ?_, ?_, ?_, ?_⟩
          · intro i hi hSi t hdt hlt hal
            rw [getD_put]
            by_cases e : i = j
            · subst e
              rw [if_pos ⟨by rw [← hds]; exact hdt, by show t < τ.t.length; rw [hinv.len]; exact hlt⟩]
            · rw [if_neg (fun h => F.dis i j hi hjn e (by rw [hdt]; simp) (by rw [hdt, hds, h.1]))]
              exact hinv.set i hi (hS' i hSi e) t hdt hlt (fun j' hj' hS => hal j' hj' (hS2 j' hS))
          · intro j' hj' hSj t hk hlt
            have hS := hsn j' hSj t hk
            rw [getD_put, if_neg (fun h => hdk j' hj' (.inl hS) t hk (by rw [hds]; exact h.1))]
            exact hinv.off j' hj' hS t hk hlt
          · intro t htn
            rw [getD_put, if_neg (fun h => htn j hjn (by simp) (by rw [hds]; exact h.1))]
            exact hinv.old t (fun i hi hSi => htn i hi (hS2 i hSi))
          · intro r ob hrob
            rw [put_l]
            show getA ((res j).2 ++ τ.l) r = some ob
            rw [getA_append]
            cases h : getA (res j).2 r with
            | none => exact hinv.lold r ob hrob
            | some ob' => have := F.notl j hjn r (by rw [h]; simp); rw [this] at hrob; cases hrob
          · intro i hi hSi r ob hrob hal
            rw [put_l]
            show getA ((res j).2 ++ τ.l) r = some ob
            rw [getA_append]
            by_cases e : i = j
            · subst e; rw [hrob]
            · have := F.nots j i hjn hi (fun h => e h.symm) r (by rw [hrob]; simp)
              rw [this]
              exact hinv.lnew i hi (hS' i hSi e) r ob hrob (fun j' hj' hS => hal j' hj' (hS2 j' hS))
          · intro r ob hrob
            rw [put_l] at hrob
            change getA ((res j).2 ++ τ.l) r = some ob at hrob
            rw [getA_append] at hrob
            cases h : getA (res j).2 r with
            | some ob' =>
              rw [h] at hrob; cases hrob
              refine .inr ⟨j, hjn, by simp, h, fun j' hj' hSj t hk e => ?_⟩
              obtain ⟨N, hN, q, hq, hr2⟩ := F.root j hjn _ _ h
              have : N = t := root64 (e.symm.trans hr2) hq
              exact hdk j' hj' (.inl (hsn j' hSj t hk)) t hk (by rw [hN, this])
            | none =>
              rw [h] at hrob
              rcases hinv.lback r ob hrob with h1 | ⟨i, hi, hSi, h1, h2⟩
              · exact .inl h1
              · exact .inr ⟨i, hi, hS2 i hSi, h1, fun j' hj' hSj t hk => h2 j' hj' (hsn j' hSj t hk) t hk⟩
        unfold wpOp
        simp only [ho]
        rcases hstp with ⟨hg, hE⟩ | ⟨hg, hv, hl⟩
        · rw [← hgd] at hg
          rw [if_pos (gd_spec hr hg)]
          have hmore2 : ∀ f as ats, o.op = .call { callee := .value (.func f), args := as, argTypes := ats } → ∀ r ob, getA (selA as.toList (LL j) ++ (pre j).o) r = some ob → getA τ.o r = some ob := fun f as ats hop2 => hsel as.toList fun t k3 => by
            unfold Oper.looksAt
            exact List.mem_append_left _ (List.mem_filterMap.2 ⟨.tmp t, Array.mem_toList_iff.2 (by rw [hop2]; simp [Op.operands, Call.operands]; exact Array.mem_toList_iff.1 k3), rfl⟩)
          refine .inl (OpE_sound (σ := τ) (OpE_local hev (by rw [hinv.d, p1]) hmore hmore2 hE) ?_ hr fun g' a' w' hr' => hnext _ g' a' w' rfl hr')
          refine freshR_of fun r hrr => ?_
          cases hτ : getA τ.l r with
          | none => rfl
          | some ob =>
            rcases hinv.lback r ob hτ with h1 | ⟨i, hi, hSi, h1, _⟩
            · rw [F.notl j hjn r hrr] at h1; cases h1
            · have hne : i ≠ j := fun e => by
                have hSi' : listed.getD i true = true := hSi
                rw [e, hlj] at hSi'; cases hSi'
              rw [F.nots i j hi hjn hne r hrr] at h1; cases h1
        · rw [← hgd] at hg
          rw [if_neg (by rw [gd_spec hr hg]; simp)]
          refine hnext (put { τ with l := (res j).2 ++ τ.l } o.dst (res j).1) g _ _ rfl ?_
          rw [hl, hv]
          exact hr.put o.dst (v := .x (.one (.v (.tuple #[])))) (y := undef) rfl
      | some t0 =>
        have hkn : klF ops j = some t0 := by rw [hks]; exact hkj
        have hout := hkl0 t0 hkj
        unfold Stp2 at hstp
        rw [hkj] at hstp
        obtain ⟨hg, N, tt, tx, y, e, i, z, R, X, hN, hop2, c1, c2, c3, c4, c5, hx, hL, hsrc, c6, c7, c8, hv, hl⟩ := hstp
        rw [p1] at hx hL hv hl
        have hdj : dstF ops j = some N := by rw [hds]; exact hN
        have htl0 : t0 ∈ Oper.looksAt ops o := kill_looks hkj
        have hx' : ev τ (.tmp t0) = .x (.one (.rs (σ.d, t0 * 64) [] i.size 0 R.length)) := by
          rw [← hx]
          exact hlook t0 htl0
        have hob : getA τ.l (σ.d, t0 * 64) = some ⟨.sl, i.size, R⟩ := by
          obtain ⟨i0, hij, k6, _⟩ := LL2_from ht.l0 F.lls j (Nat.le_of_lt hjn) hL
          obtain ⟨N', hN', q, hq, hr2⟩ := F.root i0 (by omega) _ _ k6
          have hNt : N' = t0 := root64 hr2 hq
          have hdt : dstF ops i0 = some t0 := by rw [hN', hNt]
          have hi0 : i0 < m := Nat.lt_trans hij hjn
          rcases hc.look i0 j o _ hjn hi0 ho (hop i0 hi0) (by omega) t0 htl0 (by simpa [dstF, hop i0 hi0] using hdt) with ⟨_, he⟩ | ⟨hlt, _⟩
          · obtain ⟨e', he1, he2, he3⟩ := hasEdge_spec he
            have hSi : listed.getD i0 true = true := hin i0 (he2 ▸ hpred e' he1 he3)
            exact hinv.lnew i0 hi0 hSi _ _ k6 (fun j' hj' hS t' hk e' => by
              have : t0 = t' := mul64 e'
              subst this
              exact hnotS j' t0 hj' hS hk htl0)
          · omega
        have hyl : ∀ t, Operand.tmp t ∈ [y] → t ∈ Oper.looksAt ops o := fun t hm => by
          unfold Oper.looksAt
          refine List.mem_append_left _ (List.mem_filterMap.2 ⟨.tmp t, ?_, rfl⟩)
          rw [hop2]
          rw [List.mem_singleton] at hm
          subst hm
          simp [Op.operands, Call.operands]
        have hevy : ev τ y = ev (pre j) y := hev y (by rw [hop2]; simp [Op.operands, Call.operands])
        have hsrc' : srcRows P τ.o tx (ev τ y) = some (i.size, X) := by rw [hevy]; exact srcRows_more (hsel [y] hyl) hsrc
        have hbox : ∀ r' ob, getA τ.o r' = some ob → ob.kind = .box → hasRows (τ.d, t0 * 64) ob.rows = false := fun r' ob h1 hb => by
          rw [hinv.d]
          have h2 : getA (τ.l ++ τ.g) r' = some ob := h1
          rw [getA_append] at h2
          cases h3 : getA τ.l r' with
          | some ob' =>
            rw [h3] at h2; cases h2
            rcases hinv.lback r' ob h3 with h4 | ⟨i', hi', _, h4, _⟩
            · exact ht.noL _ _ _ hout h4 hb
            · exact F.boxr i' hi' _ _ h4 hb _
          | none =>
            rw [h3, hinv.g] at h2
            exact ht.noG _ _ _ hout h2 hb
        have hlroot : getA (res j).2 (σ.d, N * 64) = some ⟨.sl, i.size, R ++ X⟩ := by rw [hl]; simp [getA]
        have hNl : getA τ.l (σ.d, N * 64) = none := by
          cases hτ : getA τ.l (σ.d, N * 64) with
          | none => rfl
          | some ob =>
            rcases hinv.lback _ ob hτ with h1 | ⟨i', hi', hSi, h1, _⟩
            · rw [F.notl j hjn _ (by rw [hlroot]; simp)] at h1; cases h1
            · have hne : i' ≠ j := fun e' => by
                have hSi' : listed.getD i' true = true := hSi
                rw [e', hlj] at hSi'; cases hSi'
              rw [F.nots i' j hi' hjn hne _ (by rw [hlroot]; simp)] at h1; cases h1
        have hf : getA (delA τ.l (τ.d, t0 * 64)) (τ.d, N * 64) = none := by
          rw [getA_delA, hinv.d]
          split
          · rfl
          · exact hNl
        unfold wpOp
        simp only [ho]
        rw [← hgd] at hg
        rw [if_pos (gd_spec hr hg)]
        refine .inl (append_kill (τ := τ) (N := N) (R := R) (X := X) hr hop2 c1 c2 c3 c4 c5 (by rw [hinv.d]; exact hx') (by rw [hinv.d]; exact hob) hsrc' c6 c7 c8 hf hbox fun g' a' w' hr' => hgo _ g' a' w' ?_ hr')
        rw [hinv.d]
        rw [← hv]
        refine ⟨by rw [put_d], by rw [put_g]; exact hinv.g, by rw [put_len]; simpa using hinv.len, ?_, ?_, ?_, ?_, ?_, ?_⟩
        · intro i' hi' hSi t hdt hlt hal
          rw [getD_put]
          by_cases e' : i' = j
          · subst e'
            rw [if_pos ⟨by rw [← hds]; exact hdt, by show t < (τ.t.map _).length; rw [List.length_map, hinv.len]; exact hlt⟩]
          · rw [if_neg (fun h => F.dis i' j hi' hjn e' (by rw [hdt]; simp) (by rw [hdt, hds, h.1]))]
            show (τ.t.map (killV (σ.d, t0 * 64))).getD t badV = _
            rw [killV_getD, hinv.set i' hi' (hS' i' hSi e') t hdt hlt (fun j' hj' hS => hal j' hj' (hS2 j' hS))]
            refine killV_of (F.clean i' j hi' hjn t0 hkn fun h => ?_)
            rw [hdt] at h
            cases h
            exact hal j hjn (by simp) hkn
        · intro j' hj' hSj t hk hlt
          have hd' : dstF ops j ≠ some t := hdk j' hj' (by by_cases e' : j' = j; exact .inr e'; exact .inl (hS' j' hSj e')) t hk
          rw [getD_put, if_neg (fun h => hd' (by rw [hds]; exact h.1))]
          show (τ.t.map (killV (σ.d, t0 * 64))).getD t badV = badV
          rw [killV_getD]
          by_cases e' : j' = j
          · subst e'
            rw [hkn] at hk
            cases hk
            rw [show τ.t.getD t0 badV = ev τ (.tmp t0) from rfl, hx']
            unfold killV
            rw [if_pos (by simp [hasV, hasX, hasC])]
          · rw [hinv.off j' hj' (hS' j' hSj e') t hk hlt]; rfl
        · intro t htn
          rw [getD_put, if_neg (fun h => htn j hjn (by simp) (by rw [hds]; exact h.1))]
          show (τ.t.map (killV (σ.d, t0 * 64))).getD t badV = _
          rw [killV_getD, hinv.old t (fun i' hi' hSi => htn i' hi' (hS2 i' hSi))]
          exact killV_of (ht.noT _ hout t)
        · intro r ob hrob
          rw [put_l]
          show (if (σ.d, N * 64) = r then _ else _) = some ob
          rw [if_neg (fun e' => by
            subst e'
            rw [F.notl j hjn _ (by rw [hlroot]; simp)] at hrob; cases hrob)]
          rw [getA_delA, if_neg (fun e' => by
            subst e'
            have : getA (σ.l ++ σ.g) (σ.d, t0 * 64) = none := hout
            rw [getA_append, hrob] at this; cases this)]
          exact hinv.lold r ob hrob
        · intro i' hi' hSi r ob hrob hal
          rw [put_l]
          show (if (σ.d, N * 64) = r then _ else _) = some ob
          by_cases e' : i' = j
          · subst e'
            have hrr : (σ.d, N * 64) = r := by
              rw [hl] at hrob
              simp only [getA] at hrob
              split at hrob
              · assumption
              · cases hrob
            rw [if_pos hrr]
            rw [← hrr, hlroot] at hrob
            exact hrob
          · rw [if_neg (fun h => by
              subst h
              rw [F.nots i' j hi' hjn e' _ (by rw [hlroot]; simp)] at hrob; cases hrob)]
            rw [getA_delA, if_neg (fun h => hal j hjn (by simp) t0 hkn h.symm)]
            exact hinv.lnew i' hi' (hS' i' hSi e') r ob hrob (fun j' hj' hS => hal j' hj' (hS2 j' hS))
        · intro r ob hrob
          rw [put_l] at hrob
          change (if (σ.d, N * 64) = r then some (⟨.sl, i.size, R ++ X⟩ : Obj') else getA (delA τ.l (σ.d, t0 * 64)) r) = some ob at hrob
          split at hrob
          · rename_i hrr
            subst hrr
            cases hrob
            refine .inr ⟨j, hjn, by simp, hlroot, fun j' hj' hSj t hk e' => ?_⟩
            have hNt : N = t := mul64 e'
            exact hdk j' hj' (by by_cases e' : j' = j; exact .inr e'; exact .inl (hS' j' hSj e')) t hk (by rw [hdj, hNt])
          · rw [getA_delA] at hrob
            split at hrob
            · cases hrob
            · rename_i hne
              rcases hinv.lback r ob hrob with h1 | ⟨i', hi', hSi, h1, h2⟩
              · exact .inl h1
              · refine .inr ⟨i', hi', hS2 i' hSi, h1, fun j' hj' hSj t hk => ?_⟩
                by_cases e' : j' = j
                · subst e'
                  rw [hkn] at hk
                  cases hk
                  exact fun h => hne h.symm
                · exact h2 j' hj' (hS' j' hSj e') t hk
    by_cases hA : ∃ i, i < m ∧ listed.getD i true = false ∧ floatB ops m i = false
    · refine ⟨fun hnil => ?_, fun j hj => step j hj ?_⟩
      · obtain ⟨j, _, _, h⟩ := least
        rw [hnil] at h; cases h
      · obtain ⟨o, ho, hlj, hpred⟩ := ready_spec hj
        rcases Nat.lt_or_ge j m with h | h
        · exact h
        · exfalso
          obtain ⟨i, hi1, hi2, hi3⟩ := hA
          rcases hc.last j o h ho i (Nat.lt_of_lt_of_le hi1 h) with h4 | h4
          · have h3 := reach_listed (listed := listed) (fun j o hjo hl => hcl j o hjo (hin j hl)) 8 j o ho hpred h4
            rw [hin i h3] at hi2; cases hi2
          · rw [hi3] at h4; cases h4
    · obtain ⟨i, hi1, hi2, hready⟩ := least
      have hall2 : ∀ i, i < m → listed.getD i true = false → floatB ops m i = true := fun i h1 h2 => by
        cases h3 : floatB ops m i with
        | true => rfl
        | false => exact absurd ⟨i, h1, h2, h3⟩ hA
      obtain ⟨_, oi, hoi, hfk, hap⟩ := floatB_spec (hall2 i hi1 hi2)
      obtain ⟨v, hy, hK⟩ := flK_step hoi hfk hL (step i hready hi1)
      refine wpAny_first hoi (Region.noSelect_spec hc.nsel) (fun c a w h => absurd h (hP _ _ _)) fuel listed a w (fun j oj hoj hne hun hno => ?_) hready hy hK
      rcases hap j oj hne hoj with ⟨h1, h2⟩ | h1 | h1 | h1
      · obtain ⟨_, oj', hoj', h3, _⟩ := floatB_spec (hall2 j h1 hun)
        rw [hoj] at hoj'; cases hoj'
        rw [h2] at h3; cases h3
      · obtain ⟨e, he1, he2, he3⟩ := hasEdge_spec h1
        exact absurd he2 (hno e he1 he3)
      · obtain ⟨_, oi', hoi', hpr⟩ := mem_ready.1 hready
        rw [hoi] at hoi'; cases hoi'
        obtain ⟨e, he1, he2, he3⟩ := hasEdge_spec h1
        have := hin j (he2 ▸ hpr e he1 he3)
        rw [hun] at this; cases this
      · exact h1
theorem tail2_main [Tb P g0 w0] {m : Nat} (hc : Chk2 ops m) {K : St → Prop} {Q : Exit → Act → World → Prop} (hfin : ∀ σ' g' a' w', K σ' → Rel g0 w0 σ' g' a' w' → Q .normal a' w') :
    ∀ (fuel : Nat) (k : Nat) (listed : Array Bool) (τ : St) (g : Gh) (a : Act) (w : World), m ≤ k → k + fuel = ops.size → listed.size = ops.size → (∀ i, i < k → listed.getD i true = true) → (∀ i, k ≤ i → i < ops.size → listed.getD i true = false) →
      Wlist wop P ops (ops.toList.drop k) τ K → Rel g0 w0 τ g a w → wpAny P .any ops Q fuel listed a w := by
  intro fuel
  have inl : ∀ (listed : Array Bool) i, listed.size = ops.size → i < ops.size → listed.getD i true = true → listed.getD i false = true := fun listed i hsz hi h => by
    have : i < listed.size := by omega
    simpa [Array.getD, this] using h
  induction fuel with
  | zero =>
    intro k listed τ g a w hmk hk hsz hdone htodo hw hr
    have hd : ops.toList.drop k = [] := List.drop_eq_nil_of_le (by simp; omega)
    rw [hd] at hw
    refine ⟨?_, hfin τ g a w hw hr⟩
    unfold Region.ready
    rw [List.filter_eq_nil_iff]
    intro i hi
    have : i < ops.size := List.mem_range.1 hi
    simp [hdone i (by omega)]
  | succ fuel ih =>
    intro k listed τ g a w hmk hk hsz hdone htodo hw hr
    have hkl : k < ops.size := by omega
    have hok : ops[k]? = some ops[k] := by simp [hkl]
    have hready : k ∈ Region.ready .any ops listed := ready_of hok (htodo k (Nat.le_refl _) hkl) fun e he hb => by
      have := hc.edge k _ hok e he hb
      exact inl listed _ hsz (by omega) (hdone e.on this)
    refine ⟨fun h => (by rw [h] at hready; cases hready), fun j hj => ?_⟩
    obtain ⟨o, ho, hlj, hpred⟩ := ready_spec hj
    have hjs : j < ops.size := by
      rcases Nat.lt_or_ge j ops.size with h | h
      · exact h
      · rw [Array.getElem?_eq_none h] at ho; cases ho
    have hjk : j = k := by
      rcases Nat.lt_trichotomy j k with h | h | h
      · rw [hdone j h] at hlj; cases hlj
      · exact h
      · exfalso
        have hlt : ∀ j', j' < ops.size → listed.getD j' false = true → j' < k := fun j' hj' hl => by
          rcases Nat.lt_or_ge j' k with h' | h'
          · exact h'
          · have h4 := htodo j' h' hj'
            have hil : j' < listed.size := by omega
            simp [Array.getD, hil] at h4 hl
            rw [h4] at hl; cases hl
        have h3 := reach_listed (listed := listed) (fun j' o' hjo hl e he hb => by
          have hj's : j' < ops.size := by
            rcases Nat.lt_or_ge j' ops.size with h' | h'
            · exact h'
            · rw [Array.getElem?_eq_none h'] at hjo; cases hjo
          have h5 := hlt j' hj's hl
          have h6 := hc.edge j' o' hjo e he hb
          exact inl listed e.on hsz (by omega) (hdone e.on (by omega))) 8 j o ho hpred ((hc.last j o (by omega) ho k h).resolve_right fun hf => by have := (floatB_spec hf).1; omega)
        have := hlt k hkl h3
        omega
    subst hjk
    rw [hok] at ho
    cases ho
    have hdrop : ops.toList.drop j = ops[j] :: ops.toList.drop (j + 1) := by
      rw [List.drop_eq_getElem_cons (by simpa using hkl)]; simp
    rw [hdrop] at hw
    unfold Wlist at hw
    have hnext : ∀ τ' g' a' w', Wlist wop P ops (ops.toList.drop (j + 1)) τ' K → Rel g0 w0 τ' g' a' w' → wpAny P .any ops Q fuel (listed.setIfInBounds j true) a' w' := fun τ' g' a' w' hw' hr' => by
      refine ih (j + 1) _ τ' g' a' w' (by omega) (by omega) (by simp [hsz]) (fun i hi => ?_) (fun i hi1 hi2 => ?_) hw' hr'
      · simp only [Array.getD_eq_getD_getElem?]
        by_cases e : i = j
        · subst e; have : i < listed.size := by omega
          simp [this]
        · rw [Array.getElem?_setIfInBounds_ne (fun h => e h.symm)]
          have := hdone i (by omega)
          simpa [Array.getD_eq_getD_getElem?] using this
      · simp only [Array.getD_eq_getD_getElem?]
        rw [Array.getElem?_setIfInBounds_ne (by omega)]
        have := htodo i (by omega) hi2
        simpa [Array.getD_eq_getD_getElem?] using this
    unfold wpOp
    simp only [hok]
    split at hw
    · rename_i hg
      rw [if_pos (gd_spec hr hg)]
      exact .inl (wop_sound g0 w0 _ τ g a w _ _ _ hw hr fun σ' g' a' w' hk' hr' => hnext σ' g' a' w' hk' hr')
    · rename_i hg
      rw [if_neg (by rw [gd_spec hr hg]; simp)]
      exact hnext _ g _ _ hw (hr.put _ (v := .x (.one (.v (.tuple #[])))) (y := undef) rfl)
    · exact hw.elim
theorem wdraw2_sound : DrawSound wdraw2 P := by
  intro g0 w0 _ id ops σ g a w K hw hr
  obtain ⟨hm, hok, hrun⟩ := hw
  have hc := drawOk2_chk hok
  obtain ⟨res, pre, LL, e1, e2, e3, e4⟩ := DRun2_spec _ _ _ hrun
  generalize hmm : headLen2 ops ops.toList = m at *
  have ht : Text2 P ops σ m res pre LL := ⟨hc, e1, e2, fun j o hjm hj => e3 j o hjm (by simpa using hj), fun r hn k => hr.noRefT hn k,
    fun r r' ob hn h1 hb => hr.noRefO hn (by show getA (σ.l ++ σ.g) r' = _; rw [getA_append, h1]) hb,
    fun r r' ob hn h1 hb => hr.noRefO hn (by
      show getA (σ.l ++ σ.g) r' = some ob
      rw [getA_append]
      cases e : getA σ.l r' with
      | none => exact h1
      | some ob' => have q1 := hr.loc r' ob' e; have q2 := hr.out r' ob h1; omega) hb, hr.out⟩
  have F := ht.facts
  refine wp_region_any hm (draw2_main ht ?_ ?_ ?_ ops.size _ (by simp) (by simp [unlisted, List.countP_replicate]) ?_ (fun i _ hi => by simp [Array.getD, hi]) σ g a _ ?_ hr.drew)
  · rintro ⟨a, w, e, he, _⟩; cases he
  · rintro c a w ⟨e, he, _⟩; cases he
  · intro fuel listed τ g' a' w' hsz hun hall hB hinv hr'
    have hpre := pre2_spec (σ := σ) (dst := dstF ops) (kl := klF ops) (res := res) (pre := pre) m e1 F.pres F.dis (fun j hj t hk => by obtain ⟨i, h1, h2, _⟩ := F.maker j hj t hk; exact ⟨i, h1, h2⟩) m (Nat.le_refl _)
    obtain ⟨p1, p2, p3, p4, p5, p5D, p6⟩ := hpre
    have hlab : ∀ i, i < m → ∀ r ob, getA (res i).2 r = some ob → ∀ j, j < m → ∀ t, klF ops j = some t → r = (σ.d, t * 64) → i < j := fun i hi r ob hri j hj t hk he => by
      obtain ⟨i0, hi0, hd0, _⟩ := F.maker j hj t hk
      obtain ⟨N, hN, q, hq, hr2⟩ := F.root i hi r ob hri
      have hNt : N = t := root64 (he.symm.trans hr2) hq
      by_cases e : i = i0
      · rw [e]; exact hi0
      · exact absurd (by rw [hN, hd0, hNt]) (F.dis i i0 hi (by omega) e (by rw [hN]; simp))
    have hrel : Rel g0 w0 { pre m with l := LL m ++ σ.l } g' a' w' := by
      refine Rel.ext (τ := τ) ?_ (by rw [hinv.d]; exact p1) (by rw [hinv.g]; exact p2) ?_ hr'
      · show (pre m).t = τ.t
        apply List.ext_getElem (by rw [p4, hinv.len])
        intro t h1 h2
        have hlt : t < σ.t.length := by rw [← p4]; exact h1
        have : (pre m).t.getD t badV = τ.t.getD t badV := by
          by_cases hkx : ∃ j, j < m ∧ klF ops j = some t
          · obtain ⟨j, hj, hk⟩ := hkx
            rw [p5D j hj t hk hlt, hinv.off j hj rfl t hk hlt]
          · by_cases hex : ∃ i, i < m ∧ dstF ops i = some t
            · obtain ⟨i, hi, hd⟩ := hex
              rw [p5 i hi t hd hlt (fun k hk h => hkx ⟨k, hk, h⟩), hinv.set i hi rfl t hd hlt (fun k hk _ h => hkx ⟨k, hk, h⟩)]
            · rw [p6 t (fun i hi hd => hex ⟨i, hi, hd⟩), hinv.old t (fun i hi _ hd => hex ⟨i, hi, hd⟩)]
        simpa [List.getD_eq_getElem?_getD, List.getElem?_eq_getElem h1, List.getElem?_eq_getElem h2] using this
      · intro r
        show getA (LL m ++ σ.l) r = getA τ.l r
        rw [getA_append]
        cases h : getA (LL m) r with
        | some ob =>
          obtain ⟨i, hi, h1, h2⟩ := LL2_from e2 F.lls m (Nat.le_refl _) h
          exact (hinv.lnew i hi rfl r ob h1 (fun j hj _ t hk he => h2 j (hlab i hi r ob h1 j hj t hk he) hj t hk he)).symm
        | none =>
          simp only []
          cases hl : getA σ.l r with
          | some ob => exact (hinv.lold r ob hl).symm
          | none =>
            cases hτ : getA τ.l r with
            | none => rfl
            | some ob =>
              rcases hinv.lback r ob hτ with h1 | ⟨i, hi, _, h1, h2⟩
              · rw [hl] at h1; cases h1
              · exact absurd h (LL2_has F.lls (by rw [h1]; simp) (fun j hj t hk => h2 j hj rfl t hk) m hi (Nat.le_refl _))
    have hfuel : m + fuel = ops.size := by
      have hcount : ∀ (l : List Bool) (m : Nat), m ≤ l.length → (∀ i, i < m → l.getD i true = true) → (∀ i, m ≤ i → i < l.length → l.getD i true = false) → m + l.countP (fun b => !b) = l.length := by
        intro l
        induction l with
        | nil => intro m hm _ _; simp at hm ⊢; exact hm
        | cons b l ih =>
          intro m hm h1 h2
          cases m with
          | zero =>
            have hb : b = false := by simpa using h2 0 (Nat.le_refl _) (by simp)
            have := ih 0 (Nat.zero_le _) (fun i hi => absurd hi (Nat.not_lt_zero _)) (fun i _ hi => by simpa using h2 (i + 1) (by omega) (by simpa using hi))
            subst hb; simp at this ⊢; exact this
          | succ m =>
            have hb : b = true := by simpa using h1 0 (by omega)
            have := ih m (by simpa using hm) (fun i hi => by simpa using h1 (i + 1) (by omega)) (fun i hi hi2 => by simpa using h2 (i + 1) (by omega) (by simpa using hi2))
            subst hb; simp; omega
      have h := hcount listed.toList m (by simp [hsz]; exact hc.le) (fun i hi => by have := hall i hi; simpa [Array.getD_eq_getD_getElem?, List.getD_eq_getElem?_getD] using this)
        (fun i hi hi2 => by have := hB i hi (by simpa [hsz] using hi2); simpa [Array.getD_eq_getD_getElem?, List.getD_eq_getElem?_getD] using this)
      unfold unlisted at hun
      rw [hun] at h
      simpa [hsz] using h
    exact tail2_main hc (fun σ' g' a' w' hk' hr' => ⟨.normal, rfl, σ', g', ⟨rfl, hk'⟩, hr'⟩) fuel m listed _ g' a' w' (Nat.le_refl _) hfuel hsz hall hB e4 hrel
  · intro j o hj hl e he hb
    exfalso
    have hlt : j < ops.size := by
      rcases Nat.lt_or_ge j ops.size with h | h
      · exact h
      · rw [Array.getElem?_eq_none h] at hj; cases hj
    simp [Array.getD, hlt] at hl
  · have hlt : ∀ i, i < m → i < ops.size := fun i hi => Nat.lt_of_lt_of_le hi hc.le
    refine ⟨rfl, rfl, rfl, fun i hi hS => ?_, fun i hi hS => ?_, fun _ _ => rfl, fun _ _ h => h, fun i hi hS => ?_, fun _ _ h => .inl h⟩ <;>
    · exfalso; simp [Array.getD, hlt i hi] at hS
theorem DRun_DRun2 (hk : ∀ o ∈ ops.toList, killT ops o = none) {K : St → Prop} : ∀ (l : List Oper) (σ : St) (L : Store), (∀ o ∈ l, o ∈ ops.toList) → DRun P ops l σ L K → DRun2 P ops l σ L K
  | [], σ, L, _, h => h
  | o :: l, σ, L, hm, h => by
    have hko := hk o (hm o (List.mem_cons_self ..))
    have hks : killsOf (opsL ops) = [] := by
      unfold killsOf opsL
      rw [List.filterMap_eq_nil_iff]
      intro p hp
      obtain ⟨o', ho', rfl⟩ := List.mem_map.1 hp
      exact hk o' ho'
    have hcl : ∀ v, cleanV σ.d (killsOf (opsL ops)) o.dst v = true := fun v => by rw [hks]; rfl
    have ih := fun σ' L' h' => DRun_DRun2 hk (K := K) l σ' L' (fun o' ho' => hm o' (List.mem_cons_of_mem _ ho')) h'
    unfold DRun at h
    unfold DRun2
    have heff : isEff2 ops o = isEff o.op := by unfold isEff2; rw [hko]; simp
    rw [heff]
    split at h
    · rename_i he; rw [if_pos he]; exact h
    · rename_i he
      rw [if_neg he]
      split at h
      · rename_i hg
        obtain ⟨v, s, h1, h2, h3⟩ := h
        refine ⟨v, s, ?_, h2, hcl v, ?_⟩
        · unfold Stp2; rw [hko]; exact .inl ⟨hg, h1⟩
        · rw [hko]; exact ih _ _ h3
      · rename_i hg
        refine ⟨.x (.one (.v (.tuple #[]))), [], ?_, rfl, hcl _, ?_⟩
        · unfold Stp2; rw [hko]; exact .inr ⟨hg, rfl, rfl⟩
        · rw [hko]; exact ih _ _ h
      · exact h.elim
end
end Go.Rx
namespace Go.Rx
open Go.RowKit
section
variable {P : Program} {w0 : World} {g0 : Gh} {ops : Array Oper} {K : St → Prop} {Q : Exit → Act → World → Prop}
def WAny (P : Program) (ops : Array Oper) (K : St → Prop) : Nat → Array Bool → St → Prop
  | 0, listed, σ => Region.ready .any ops listed = [] ∧ K σ
  | f + 1, listed, σ => (Region.ready .any ops listed = [] → K σ) ∧ ∀ i ∈ Region.ready .any ops listed, match ops[i]? with
    | none => False
    | some o => match gd σ ops o with
      | some true => wop P o σ (WAny P ops K f (listed.setIfInBounds i true))
      | some false => WAny P ops K f (listed.setIfInBounds i true) (put σ o.dst (.x (.one (.v (.tuple #[])))))
      | none => False
theorem WAny_sound [Tb P g0 w0] (hk : ∀ σ' g' a' w', K σ' → Rel g0 w0 σ' g' a' w' → Q .normal a' w') : ∀ (f : Nat) (listed : Array Bool) (σ : St) (g : Gh) (a : Act) (w : World),
    WAny P ops K f listed σ → Rel g0 w0 σ g a w → wpAny P .any ops Q f listed a w
  | 0, listed, σ, g, a, w, h, hr => ⟨h.1, hk _ _ _ _ h.2 hr⟩
  | f + 1, listed, σ, g, a, w, h, hr => by
    refine ⟨fun hn => hk _ _ _ _ (h.1 hn) hr, fun i hi => ?_⟩
    have h1 := h.2 i hi
    unfold wpOp
    cases ho : ops[i]? with
    | none => rw [ho] at h1; exact h1.elim
    | some o =>
      rw [ho] at h1
      simp only at h1 ⊢
      split at h1
      · rename_i hg
        rw [if_pos (gd_spec hr hg)]
        exact .inl (wop_sound g0 w0 _ σ g a w _ _ _ h1 hr fun σ' g' a' w' hk' hr' => WAny_sound hk f _ σ' g' a' w' hk' hr')
      · rename_i hg
        rw [if_neg (by rw [gd_spec hr hg]; simp)]
        exact WAny_sound hk f _ _ g _ w h1 (hr.put _ (v := .x (.one (.v (.tuple #[])))) (y := undef) rfl)
      · exact h1.elim
def rdy (deps : List (List Nat)) (done : List Nat) : List Nat := (List.range deps.length).filter fun j => !done.contains j && (deps.getD j []).all done.contains
def depsO (o : Oper) : List Nat := (o.after.toList.filter (Region.binds .any)).map (·.on)
def depsL (ops : Array Oper) : List (List Nat) := ops.toList.map depsO
theorem rdy_ready {ops : Array Oper} {listed : Array Bool} {done : List Nat} (hl : listed.size = ops.size) (hd : ∀ j, listed.getD j false = done.contains j) (j : Nat) : j ∈ Region.ready .any ops listed ↔ j ∈ rdy (depsL ops) done := by
  rw [mem_ready]
  unfold rdy
  rw [List.mem_filter, List.mem_range]
  simp only [depsL, List.length_map, Array.length_toList, Bool.and_eq_true, Bool.not_eq_true']
  have hlt : ∀ o, ops[j]? = some o → j < ops.size := fun o h => (Array.getElem?_eq_some_iff.1 h).1
  have h2 : j < ops.size → (listed.getD j true = false ↔ done.contains j = false) := fun h => by
    rw [← hd j]
    have : j < listed.size := by omega
    simp [Array.getD, this]
  constructor
  · rintro ⟨h1, o, ho, h3⟩
    have hj := hlt o ho
    refine ⟨hj, (h2 hj).1 h1, ?_⟩
    have hg : (ops.toList.map depsO).getD j [] = depsO o := by
      rw [List.getD_eq_getElem?_getD, List.getElem?_map, Array.getElem?_toList, ho]; rfl
    rw [hg, List.all_eq_true]
    intro k hk
    obtain ⟨e, he, rfl⟩ := List.mem_map.1 hk
    obtain ⟨he1, he2⟩ := List.mem_filter.1 he
    rw [← hd e.on]
    exact h3 e (Array.mem_toList_iff.1 he1) he2
  · rintro ⟨hj, h1, h3⟩
    refine ⟨(h2 hj).2 h1, ops[j], by simp [hj], fun e he hb => ?_⟩
    have hg : (ops.toList.map depsO).getD j [] = depsO ops[j] := by
      rw [List.getD_eq_getElem?_getD, List.getElem?_map, Array.getElem?_toList]; simp [hj]
    rw [hg, List.all_eq_true] at h3
    have := h3 e.on (List.mem_map.2 ⟨e, List.mem_filter.2 ⟨Array.mem_toList_iff.2 he, hb⟩, rfl⟩)
    rw [hd e.on]; exact this
end
end Go.Rx
namespace Go.Rx
open Go.RowKit
section
variable {P : Program} {w0 : World} {g0 : Gh} {ops : Array Oper} {K : St → Prop} {Q : Exit → Act → World → Prop}
abbrev Bot : Exit → Act → World → Prop := fun _ _ _ => False
theorem letsBot : ¬ LetsOut Bot := fun ⟨_, _, h⟩ => h
theorem wp_put1 {o : Oper} {d : Tmp} {v : Value} (hs : ∀ cs b, o.op ≠ .select cs b) (h1 : d ∉ o.looksAt ops) (h2 : o.dst ≠ some d) {N : Act → World → Prop} {a : Act} {w : World}
    (h : o.wp P (a.put (some d) v) w N Bot) : o.wp P a w (fun a' w' => N (a'.put (some d) v) w') Bot := by
  have hd : ∀ e, some d = some e → o.dst ≠ some e := fun e he => by cases he; exact h2
  unfold Oper.wp at *
  rw [execOp_put (ops := ops) o hs a (some d) v (fun e he => by cases he; exact h1)] at h
  generalize (execOp a.eval o).run P w = r at *
  cases r with
  | ok n w' =>
    cases n <;> simp only [Oper.upon] at h ⊢
    case value u => rw [← Act.put_comm a v u hd]; exact h
    case skip => rw [← Act.put_comm a v undef hd]; exact h
    case defer d' => rw [← Act.put_comm _ v undef hd, ← Act.put_defers]; exact h
    case enter f args =>
      refine Calls.mono h fun e w'' he => ?_
      cases e with
      | returned u => show N _ _; rw [← Act.put_comm a v u hd]; exact he
      | panicked c => exact he.elim
      | outgrown => exact (letsBot he).elim
    case row row args => exact Rows.mono h fun u w'' he => by rw [← Act.put_comm a v u hd]; exact he
  | halt x w' => cases x <;> exact h.elim
theorem wp_bot {o : Oper} {N : Act → World → Prop} {a : Act} {w : World} (h : o.wp P a w N Bot) : o.wp P a w N Q := by
  unfold Oper.wp at *
  generalize (execOp a.eval o).run P w = r at *
  cases r with
  | ok n w' =>
    cases n <;> simp only [Oper.upon] at h ⊢
    case value u => exact h
    case skip => exact h
    case defer d' => exact h
    case enter f args =>
      refine Calls.mono h fun e w'' he => ?_
      cases e with
      | returned u => exact he
      | panicked c => exact he.elim
      | outgrown => exact (letsBot he).elim
    case row row args => exact h
  | halt x w' => cases x <;> exact h.elim
def puts (a : Act) : List (Nat × Tmp × Value) → Act
  | [] => a
  | (_, d, v) :: l => (puts a l).put (some d) v
theorem wp_puts {o : Oper} (hs : ∀ cs b, o.op ≠ .select cs b) : ∀ (F : List (Nat × Tmp × Value)) (_ : ∀ p ∈ F, p.2.1 ∉ o.looksAt ops ∧ o.dst ≠ some p.2.1) {N : Act → World → Prop} {a : Act} {w : World},
    o.wp P (puts a F) w N Bot → o.wp P a w (fun a' w' => N (puts a' F) w') Bot
  | [], _, _, _, _, h => h
  | (i, d, v) :: l, hF, N, a, w, h => by
    have h1 := wp_put1 (ops := ops) hs (hF _ (List.mem_cons_self ..)).1 (hF _ (List.mem_cons_self ..)).2 h
    exact wp_puts hs l (fun p hp => hF p (List.mem_cons_of_mem _ hp)) h1
theorem exec_puts {o : Oper} (hs : ∀ cs b, o.op ≠ .select cs b) (a : Act) : ∀ (F : List (Nat × Tmp × Value)) (_ : ∀ p ∈ F, p.2.1 ∉ o.looksAt ops), execOp (puts a F).eval o = execOp a.eval o
  | [], _ => rfl
  | (i, d, v) :: l, hF => by
    show execOp ((puts a l).put (some d) v).eval o = _
    rw [execOp_put (ops := ops) o hs (puts a l) (some d) v (fun e he => by cases he; exact hF _ (List.mem_cons_self ..))]
    exact exec_puts hs a l fun p hp => hF p (List.mem_cons_of_mem _ hp)
theorem wanted_puts {o : Oper} (a : Act) : ∀ (F : List (Nat × Tmp × Value)) (_ : ∀ p ∈ F, p.2.1 ∉ o.looksAt ops), Region.wanted o (yielded ops (puts a F).tmps) = Region.wanted o (yielded ops a.tmps)
  | [], _ => rfl
  | (i, d, v) :: l, hF => by
    show Region.wanted o (yielded ops ((puts a l).put (some d) v).tmps) = _
    rw [wanted_put o (puts a l) (some d) v (fun e he => by cases he; exact hF _ (List.mem_cons_self ..))]
    exact wanted_puts a l fun p hp => hF p (List.mem_cons_of_mem _ hp)
theorem put_puts (a : Act) (x : Option Tmp) (y : Value) : ∀ (F : List (Nat × Tmp × Value)) (_ : ∀ p ∈ F, x ≠ some p.2.1), (puts a F).put x y = puts (a.put x y) F
  | [], _ => rfl
  | (i, d, v) :: l, hF => by
    show ((puts a l).put (some d) v).put x y = (puts (a.put x y) l).put (some d) v
    rw [Act.put_comm _ v y (fun e he => by cases he; exact hF _ (List.mem_cons_self ..)), put_puts a x y l fun p hp => hF p (List.mem_cons_of_mem _ hp)]
theorem put_same (a : Act) (d : Tmp) (v u : Value) : (a.put (some d) v).put (some d) u = a.put (some d) u := by simp [Act.put]
theorem puts_erase (a : Act) (i : Nat) (d : Tmp) (y : Value) : ∀ (F : List (Nat × Tmp × Value)) (v : Value), (i, d, v) ∈ F → (F.map (·.2.1)).Nodup → (puts a F).put (some d) y = puts (a.put (some d) y) (F.filter fun p => !(p.2.1 == d))
  | [], _, h, _ => by cases h
  | (k, e, u) :: l, v, h, hn => by
    have hn2 := List.nodup_cons.1 hn
    by_cases hde : e = d
    · subst hde
      have hl : ∀ p ∈ l, (some e : Option Tmp) ≠ some p.2.1 := fun p hp he => hn2.1 (List.mem_map.2 ⟨p, hp, (Option.some.inj he).symm⟩)
      have hf : ((k, e, u) :: l).filter (fun p => !(p.2.1 == e)) = l := by
        rw [List.filter_cons]
        simp only [BEq.rfl, Bool.not_true, Bool.false_eq_true, if_false]
        refine List.filter_eq_self.2 fun p hp => ?_
        have := hl p hp
        simp only [Bool.not_eq_true', beq_eq_false_iff_ne]
        exact fun h => this (by rw [h])
      rw [hf]
      show ((puts a l).put (some e) u).put (some e) y = _
      rw [put_same]
      exact put_puts a (some e) y l hl
    · have hm : (i, d, v) ∈ l := by
        rcases List.mem_cons.1 h with h | h
        · cases h; exact absurd rfl hde
        · exact h
      have hf : ((k, e, u) :: l).filter (fun p => !(p.2.1 == d)) = (k, e, u) :: l.filter (fun p => !(p.2.1 == d)) := by
        rw [List.filter_cons]
        simp [hde]
      rw [hf]
      show ((puts a l).put (some e) u).put (some d) y = (puts _ _).put (some e) u
      rw [Act.put_comm _ u y (fun x hx => by cases hx; exact fun hy => hde (by cases hy; rfl)), puts_erase a i d y l v hm hn2.2]
def flOk (ops : Array Oper) (fl : List Nat) : Bool :=
  (ops.all fun o => match o.op with | .select .. => false | _ => true) &&
  fl.all fun i => match ops[i]? with
    | some oi => oi.guard.isNone && (match oi.dst with
      | some d => !(oi.looksAt ops).contains d
      | none => false) &&
      ((List.range ops.size).all fun j => j == i || (match ops[j]? with
        | some oj => hasEdge oj i || hasEdge oi j || oi.apart ops oj
        | none => true)) &&
      fl.all fun k => k == i || (match ops[k]? with
        | some ok => !(oi.dst == ok.dst) && (match ok.dst with
          | some d => !(oi.looksAt ops).contains d || hasEdge oi k
          | none => false)
        | none => true)
    | none => false
structure FlOk (ops : Array Oper) (fl : List Nat) : Prop where
  sel : ∀ (j : Nat) (o : Oper) (cs : Array SelectCase) (b : Bool), ops[j]? = some o → o.op ≠ .select cs b
  get : ∀ i ∈ fl, ∃ oi d, ops[i]? = some oi ∧ oi.guard = none ∧ oi.dst = some d ∧ d ∉ oi.looksAt ops ∧
    (∀ j oj, j ≠ i → ops[j]? = some oj → hasEdge oj i = true ∨ hasEdge oi j = true ∨ oi.apart ops oj = true) ∧
    ∀ k ∈ fl, k ≠ i → ∀ (ok : Oper) (e : Tmp), ops[k]? = some ok → ok.dst = some e → e ≠ d ∧ (e ∈ oi.looksAt ops → hasEdge oi k = true)
theorem flOk_spec {fl : List Nat} (h : flOk ops fl = true) : FlOk ops fl := by
  unfold flOk at h
  rw [Bool.and_eq_true] at h
  obtain ⟨h0, h⟩ := h
  rw [List.all_eq_true] at h
  refine ⟨fun j o cs b ho he => ?_, fun i hi => ?_⟩
  · rw [Array.all_eq_true_iff_forall_mem] at h0
    have := h0 o (Array.mem_of_getElem? ho)
    rw [he] at this; cases this
  · have h1 := h i hi
    split at h1
    · rename_i oi hoi
      simp only [Bool.and_eq_true] at h1
      obtain ⟨⟨⟨h2, h3⟩, h4⟩, h5⟩ := h1
      split at h3
      · rename_i d hd
        refine ⟨oi, d, hoi, by simpa using h2, hd, by simpa using h3, fun j oj hne hoj => ?_, fun k hk hne ok e hok he => ?_⟩
        · rw [List.all_eq_true] at h4
          have := h4 j (List.mem_range.2 (Array.getElem?_eq_some_iff.1 hoj).1)
          simp only [hoj, Bool.or_eq_true, beq_iff_eq] at this
          rcases this with h | (h | h) | h
          · exact absurd h hne
          · exact .inl h
          · exact .inr (.inl h)
          · exact .inr (.inr h)
        · rw [List.all_eq_true] at h5
          have := h5 k hk
          simp only [hok, Bool.or_eq_true, beq_iff_eq, Bool.and_eq_true, he, hd, Bool.not_eq_true', List.contains_eq_mem, decide_eq_false_iff_not] at this
          rcases this with h | ⟨h6, h7⟩
          · exact absurd h hne
          · refine ⟨fun h => ?_, fun h => h7.resolve_left (fun h8 => h8 h)⟩
            subst h; simp at h6
      · cases h3
    · cases h1
def fOk (P : Program) (ops : Array Oper) (σ : St) (i : Nat) : Prop := match ops[i]? with
  | some o => ∃ v, opV P σ o = some v ∧ put σ o.dst v = σ
  | none => False
theorem put_put (σ : St) (d : Tmp) (v u : V) : put (put σ (some d) v) (some d) u = put σ (some d) u := by simp [Rx.put]
theorem put_com (σ : St) {d e : Tmp} (h : d ≠ e) (v u : V) : put (put σ (some d) v) (some e) u = put (put σ (some e) u) (some d) v := by
  simp only [Rx.put]
  rw [List.set_comm _ _ h]
def pend (deps : List (List Nat)) (fl done : List Nat) : List Nat := fl.filter fun i => done.contains i && done.all fun j => fl.contains j || !(deps.getD j []).contains i
def WAnyF (P : Program) (ops : Array Oper) (fl : List Nat) (K : St → Prop) : Nat → List Nat → St → Prop
  | 0, done, σ => rdy (depsL ops) done = [] ∧ K σ
  | f + 1, done, σ => (∃ i ∈ rdy (depsL ops) done, i ∈ fl ∧ ∃ o v, ops[i]? = some o ∧ opV P σ o = some v ∧ WAnyF P ops fl K f (i :: done) (put σ o.dst v)) ∨
    ((rdy (depsL ops) done = [] → K σ) ∧ ∀ j ∈ rdy (depsL ops) done, j ∉ fl ∧ match ops[j]? with
    | none => False
    | some o => match gd σ ops o with
      | some true => wop P o σ fun σ' => (∀ i ∈ pend (depsL ops) fl (j :: done), fOk P ops σ' i) ∧ WAnyF P ops fl K f (j :: done) σ'
      | some false => (∀ i ∈ pend (depsL ops) fl (j :: done), fOk P ops (put σ o.dst (.x (.one (.v (.tuple #[]))))) i) ∧ WAnyF P ops fl K f (j :: done) (put σ o.dst (.x (.one (.v (.tuple #[])))))
      | none => False)
structure InvF (P : Program) (ops : Array Oper) (fl done : List Nat) (F : List (Nat × Tmp × Value)) (listed : Array Bool) (σ : St) : Prop where
  sz : listed.size = ops.size
  ls : ∀ j, listed.getD j false = true ↔ j ∈ done ∧ ∀ p ∈ F, p.1 ≠ j
  fF : ∀ p ∈ F, p.1 ∈ fl ∧ p.1 ∈ done ∧ (∃ o, ops[p.1]? = some o ∧ o.dst = some p.2.1) ∧ fOk P ops σ p.1
  cl : ∀ k ∈ done, ∀ o, ops[k]? = some o → ∀ i, hasEdge o i = true → i ∈ done
  lc : ∀ k o, listed.getD k false = true → ops[k]? = some o → ∀ i, hasEdge o i = true → listed.getD i false = true
  pw : F.Pairwise fun p q => ∀ o, ops[q.1]? = some o → hasEdge o p.1 = false
  nd : (F.map (·.2.1)).Nodup
  self : ∀ p ∈ F, ∀ o, ops[p.1]? = some o → hasEdge o p.1 = false
theorem hasEdge_iff {o : Oper} {i : Nat} : hasEdge o i = true ↔ ∃ e ∈ o.after, Region.binds .any e = true ∧ e.on = i := by
  unfold hasEdge
  rw [Array.any_eq_true']
  constructor
  · rintro ⟨e, he, h⟩
    simp only [Bool.and_eq_true, beq_iff_eq] at h
    exact ⟨e, he, h.2, h.1⟩
  · rintro ⟨e, he, h1, h2⟩
    exact ⟨e, he, by simp [h1, h2]⟩
theorem ready_iff {listed : Array Bool} (hl : listed.size = ops.size) (j : Nat) : j ∈ Region.ready .any ops listed ↔ listed.getD j false = false ∧ ∃ o, ops[j]? = some o ∧ ∀ i, hasEdge o i = true → listed.getD i false = true := by
  rw [mem_ready]
  constructor
  · rintro ⟨h1, o, ho, h3⟩
    have hj : j < listed.size := by rw [hl]; exact (Array.getElem?_eq_some_iff.1 ho).1
    refine ⟨by simpa [Array.getD, hj] using h1, o, ho, fun i hi => ?_⟩
    obtain ⟨e, he, hb, rfl⟩ := hasEdge_iff.1 hi
    exact h3 e he hb
  · rintro ⟨h1, o, ho, h3⟩
    have hj : j < listed.size := by rw [hl]; exact (Array.getElem?_eq_some_iff.1 ho).1
    exact ⟨by simpa [Array.getD, hj] using h1, o, ho, fun e he hb => h3 e.on (hasEdge_iff.2 ⟨e, he, hb, rfl⟩)⟩
theorem rdy_iff {done : List Nat} (j : Nat) : j ∈ rdy (depsL ops) done ↔ j ∉ done ∧ ∃ o, ops[j]? = some o ∧ ∀ i, hasEdge o i = true → i ∈ done := by
  unfold rdy
  rw [List.mem_filter, List.mem_range]
  simp only [depsL, List.length_map, Array.length_toList, Bool.and_eq_true, Bool.not_eq_true', List.contains_eq_mem, decide_eq_false_iff_not, List.all_eq_true, decide_eq_true_eq]
  have hg : ∀ o, ops[j]? = some o → (ops.toList.map depsO).getD j [] = depsO o := fun o ho => by
    rw [List.getD_eq_getElem?_getD, List.getElem?_map, Array.getElem?_toList, ho]; rfl
  have hm : ∀ o i, i ∈ depsO o ↔ hasEdge o i = true := fun o i => by
    rw [hasEdge_iff]
    simp only [depsO, List.mem_map, List.mem_filter, Array.mem_toList_iff]
    constructor
    · rintro ⟨e, ⟨h1, h2⟩, h3⟩; exact ⟨e, h1, h2, h3⟩
    · rintro ⟨e, h1, h2, h3⟩; exact ⟨e, ⟨h1, h2⟩, h3⟩
  constructor
  · rintro ⟨h1, h2, h3⟩
    refine ⟨h2, ops[j], by simp [h1], fun i hi => ?_⟩
    rw [hg ops[j] (by simp [h1])] at h3
    exact h3 i ((hm _ _).2 hi)
  · rintro ⟨h1, o, ho, h3⟩
    refine ⟨(Array.getElem?_eq_some_iff.1 ho).1, h1, ?_⟩
    rw [hg o ho]
    exact fun i hi => h3 i ((hm _ _).1 hi)
theorem set_getD {listed : Array Bool} {i : Nat} (hi : i < listed.size) (j : Nat) : (listed.setIfInBounds i true).getD j false = true ↔ j = i ∨ listed.getD j false = true := by
  by_cases h : i = j
  · subst h
    simp [Array.getD, hi]
  · rw [getD_set_ne false h]
    constructor
    · exact .inr
    · rintro (h2 | h2)
      · exact absurd h2.symm h
      · exact h2
theorem fOk_put {σ : St} {k : Nat} {d : Tmp} {v : V} (hk : ∀ o, ops[k]? = some o → d ∉ o.looksAt ops ∧ o.dst ≠ some d) (h : fOk P ops σ k) : fOk P ops (put σ (some d) v) k := by
  unfold fOk at *
  split at h
  · rename_i o ho
    obtain ⟨h1, h2⟩ := hk o ho
    obtain ⟨v', h3, h4⟩ := h
    have hev : ∀ x ∈ o.op.operands, ev (put σ (some d) v) x = ev σ x := fun x hx => by
      cases x with
      | tmp t =>
        have : t ≠ d := fun ht => h1 (List.mem_append_left _ (List.mem_filterMap.2 ⟨.tmp t, by simpa using hx, by rw [ht]⟩))
        simp [ev, Rx.put, List.getD_eq_getElem?_getD, List.getElem?_set_ne (Ne.symm this)]
      | _ => rfl
    refine ⟨v', opV_local hev (fun r ob hr => by rw [put_o]; exact hr) h3, ?_⟩
    cases hd : o.dst with
    | none => rfl
    | some e =>
      rw [hd] at h4
      have hne : d ≠ e := fun hx => h2 (by rw [hd, hx])
      rw [put_com σ hne, h4]
  · exact h
theorem WAnyF_sound [Tb P g0 w0] {fl : List Nat} (hfl : FlOk ops fl) (hk : ∀ σ' g' a' w', K σ' → Rel g0 w0 σ' g' a' w' → Q .normal a' w') : ∀ (n f f' : Nat) (_ : f + f' ≤ n) (done : List Nat) (F : List (Nat × Tmp × Value)) (listed : Array Bool) (σ : St) (g : Gh) (a : Act) (w : World),
    f' = f + F.length → InvF P ops fl done F listed σ → WAnyF P ops fl K f done σ → Rel g0 w0 σ g (puts a F) w → wpAny P .any ops Q f' listed a w := by
  intro n
  induction n with
  | zero =>
    intro f f' hn done F listed σ g a w hf hi h hr
    obtain rfl : f = 0 := by omega
    obtain rfl : f' = 0 := by omega
    have hF : F = [] := List.eq_nil_of_length_eq_zero (by omega)
    subst hF
    have hdn : ∀ j, listed.getD j false = true ↔ j ∈ done := fun j => by rw [hi.ls]; simp
    refine ⟨?_, hk _ _ _ _ h.2 hr⟩
    rw [List.eq_nil_iff_forall_not_mem]
    intro j hj
    obtain ⟨h1, o, ho, h3⟩ := (ready_iff hi.sz j).1 hj
    have : j ∈ rdy (depsL ops) done := (rdy_iff j).2 ⟨fun hd => (by rw [(hdn j).2 hd] at h1; cases h1), o, ho, fun i he => (hdn i).1 (h3 i he)⟩
    rw [h.1] at this; cases this
  | succ n ih =>
    intro f f' hn done F listed σ g a w hf hi h hr
    -- one taken ahead
    by_cases hah : ∃ f1, f = f1 + 1 ∧ ∃ i ∈ rdy (depsL ops) done, i ∈ fl ∧ ∃ o v, ops[i]? = some o ∧ opV P σ o = some v ∧ WAnyF P ops fl K f1 (i :: done) (put σ o.dst v)
    · obtain ⟨f1, rfl, i, hir, hil, o, v, ho, hv, hrec⟩ := hah
      obtain ⟨hnd, o', ho', hdeps⟩ := (rdy_iff i).1 hir
      rw [ho] at ho'; cases ho'
      obtain ⟨oi, d, e1, e2, hd, e4, e5, e6⟩ := hfl.get i hil
      rw [ho] at e1; cases e1
      obtain ⟨y, hy1, hy2⟩ := opV_run hr hv
      rw [hd] at hrec
      have hr' : Rel g0 w0 (put σ (some d) v) g (puts a ((i, d, y) :: F)) w := hr.put (some d) hy2
      have hFi : ∀ p ∈ F, p.1 ≠ i := fun p hp e => hnd (e ▸ (hi.fF p hp).2.1)
      refine ih f1 f' (by omega) (i :: done) ((i, d, y) :: F) listed (put σ (some d) v) g a w (by simp only [List.length_cons]; omega) ⟨hi.sz, fun j => ?_, fun p hp => ?_, fun k hk o2 ho2 x hx => ?_, hi.lc, ?_, ?_, fun p hp o2 ho2 => ?_⟩ hrec hr'
      · rw [hi.ls]
        constructor
        · rintro ⟨h1, h2⟩
          refine ⟨List.mem_cons_of_mem _ h1, fun p hp => ?_⟩
          rcases List.mem_cons.1 hp with rfl | hp
          · exact fun e => hnd ((show i = j from e) ▸ h1)
          · exact h2 p hp
        · rintro ⟨h1, h2⟩
          refine ⟨(List.mem_cons.1 h1).resolve_left fun e => h2 (i, d, y) (List.mem_cons_self ..) e.symm, fun p hp => h2 p (List.mem_cons_of_mem _ hp)⟩
      · rcases List.mem_cons.1 hp with rfl | hp
        · refine ⟨hil, List.mem_cons_self .., ⟨o, ho, hd⟩, ?_⟩
          unfold fOk
          simp only [ho, hd]
          refine ⟨v, ?_, put_put σ d v v⟩
          refine opV_local (fun x hx => ?_) (fun r ob hr => by rw [put_o]; exact hr) hv
          cases x with
          | tmp t =>
            have : t ≠ d := fun ht => e4 (List.mem_append_left _ (List.mem_filterMap.2 ⟨.tmp t, by simpa using hx, by rw [ht]⟩))
            simp [ev, Rx.put, List.getD_eq_getElem?_getD, List.getElem?_set_ne (Ne.symm this)]
          | _ => rfl
        · obtain ⟨q1, q2, ⟨ok, q3, q4⟩, q5⟩ := hi.fF p hp
          refine ⟨q1, List.mem_cons_of_mem _ q2, ⟨ok, q3, q4⟩, fOk_put (fun o2 ho2 => ?_) q5⟩
          rw [q3] at ho2; cases ho2
          obtain ⟨ok', dk, k1, k2, k3, k4, k5, k6⟩ := hfl.get p.1 q1
          rw [q3] at k1; cases k1
          obtain ⟨m1, m2⟩ := k6 i hil (Ne.symm (hFi p hp)) o d ho hd
          refine ⟨fun hm => hnd (hi.cl p.1 q2 ok q3 i (m2 hm)), ?_⟩
          rw [k3]; exact fun e => m1 (by cases e; rfl)
      · rcases List.mem_cons.1 hk with rfl | hk
        · rw [ho] at ho2; cases ho2
          exact List.mem_cons_of_mem _ (hdeps x hx)
        · exact List.mem_cons_of_mem _ (hi.cl k hk o2 ho2 x hx)
      · refine List.pairwise_cons.2 ⟨fun q hq o2 ho2 => ?_, hi.pw⟩
        cases he : hasEdge o2 i with
        | false => rfl
        | true => exact absurd (hi.cl q.1 (hi.fF q hq).2.1 o2 ho2 i he) hnd
      · rw [List.map_cons]
        refine List.nodup_cons.2 ⟨fun hm => ?_, hi.nd⟩
        obtain ⟨q, hq, hqe⟩ := List.mem_map.1 hm
        obtain ⟨q1, q2, ⟨ok, q3, q4⟩, _⟩ := hi.fF q hq
        exact (e6 q.1 q1 (hFi q hq) ok q.2.1 q3 q4).1 hqe
      · rcases List.mem_cons.1 hp with rfl | hp
        · rw [ho] at ho2; cases ho2
          cases he : hasEdge o i with
          | false => rfl
          | true => exact absurd (hdeps i he) hnd
        · exact hi.self p hp o2 ho2
    · -- the real step
      have hmain : (rdy (depsL ops) done = [] → K σ) ∧ ∀ j ∈ rdy (depsL ops) done, ∃ f1, f = f1 + 1 ∧ j ∉ fl ∧ match ops[j]? with
          | none => False
          | some o => match gd σ ops o with
            | some true => wop P o σ fun σ' => (∀ i ∈ pend (depsL ops) fl (j :: done), fOk P ops σ' i) ∧ WAnyF P ops fl K f1 (j :: done) σ'
            | some false => (∀ i ∈ pend (depsL ops) fl (j :: done), fOk P ops (put σ o.dst (.x (.one (.v (.tuple #[]))))) i) ∧ WAnyF P ops fl K f1 (j :: done) (put σ o.dst (.x (.one (.v (.tuple #[])))))
            | none => False := by
        cases f with
        | zero => exact ⟨fun _ => h.2, fun j hj => by rw [h.1] at hj; cases hj⟩
        | succ f1 =>
          rcases h with h | h
          · exact absurd ⟨f1, rfl, h⟩ hah
          · exact ⟨h.1, fun j hj => ⟨f1, rfl, h.2 j hj⟩⟩
      have hnil : Region.ready .any ops listed = [] → F = [] := fun hrn => by
        cases hFl : F.getLast? with
        | none => exact List.getLast?_eq_none_iff.1 hFl
        | some p =>
          exfalso
          have hpm : p ∈ F := List.mem_of_getLast? hFl
          obtain ⟨q1, q2, ⟨ok, q3, q4⟩, _⟩ := hi.fF p hpm
          have : p.1 ∈ Region.ready .any ops listed := (ready_iff hi.sz p.1).2 ⟨by
            cases hc : listed.getD p.1 false with
            | false => rfl
            | true => exact absurd rfl (((hi.ls p.1).1 hc).2 p hpm), ok, q3, fun i he => by
            rw [hi.ls]
            refine ⟨hi.cl p.1 q2 ok q3 i he, fun q hq hqi => ?_⟩
            subst hqi
            obtain ⟨F1, rfl⟩ : ∃ F1, F = F1 ++ [p] := by
              obtain ⟨l, hl⟩ := List.getLast?_eq_some_iff.1 hFl
              exact ⟨l, hl⟩
            rcases List.mem_append.1 hq with hq | hq
            · have := (List.pairwise_append.1 hi.pw).2.2 q hq p (List.mem_singleton.2 rfl) ok q3
              rw [this] at he; cases he
            · obtain rfl := List.mem_singleton.1 hq
              rw [hi.self q hpm ok q3] at he; cases he⟩
          rw [hrn] at this; cases this
      have hdone : Region.ready .any ops listed = [] → Q .normal a w := fun hrn => by
        have hF := hnil hrn
        subst hF
        have hdn : ∀ j, listed.getD j false = true ↔ j ∈ done := fun j => by rw [hi.ls]; simp
        refine hk _ _ _ _ (hmain.1 ?_) hr
        rw [List.eq_nil_iff_forall_not_mem]
        intro j hj
        obtain ⟨h1, o, ho, h3⟩ := (rdy_iff j).1 hj
        have : j ∈ Region.ready .any ops listed := (ready_iff hi.sz j).2 ⟨by
          cases hc : listed.getD j false with
          | false => rfl
          | true => exact absurd ((hdn j).1 hc) h1, o, ho, fun i he => (hdn i).2 (h3 i he)⟩
        rw [hrn] at this; cases this
      have hstep : ∀ j ∈ Region.ready .any ops listed, ∃ f2, f' = f2 + 1 ∧ wpOp P ops Q j (wpAny P .any ops Q f2 (listed.setIfInBounds j true)) a w := fun j hj => by
        obtain ⟨hjl, oj, hoj, hjd⟩ := (ready_iff hi.sz j).1 hj
        have hjs : j < listed.size := by rw [hi.sz]; exact (Array.getElem?_eq_some_iff.1 hoj).1
        by_cases hjF : ∃ p ∈ F, p.1 = j
        · obtain ⟨p, hpF, rfl⟩ := hjF
          obtain ⟨q1, q2, ⟨ok, q3, q4⟩, q5⟩ := hi.fF p hpF
          rw [hoj] at q3; cases q3
          obtain ⟨oi, d, e1, e2, e3, e4, e5, e6⟩ := hfl.get p.1 q1
          rw [hoj] at e1; cases e1
          rw [q4] at e3; cases e3
          have hlen : 0 < F.length := List.length_pos_of_mem hpF
          have hnot : ∀ q ∈ F, q.2.1 ∉ oj.looksAt ops := fun q hq hm => by
            obtain ⟨r1, r2, ⟨o2, r3, r4⟩, _⟩ := hi.fF q hq
            by_cases hqp : q.1 = p.1
            · rw [hqp, hoj] at r3; cases r3
              have r5 := Option.some.inj (q4.symm.trans r4)
              exact e4 (by rwa [← r5] at hm)
            · have := (e6 q.1 r1 hqp o2 q.2.1 r3 r4).2 hm
              have := hjd q.1 this
              exact ((hi.ls q.1).1 this).2 q hq rfl
          unfold fOk at q5
          simp only [hoj, q4] at q5
          obtain ⟨vv, hvv, hss⟩ := q5
          obtain ⟨y', hy1, hy2⟩ := opV_run hr hvv
          rw [exec_puts (hfl.sel _ _ · · hoj) a F hnot] at hy1
          refine ⟨f' - 1, by omega, ?_⟩
          unfold wpOp
          have hw : Region.wanted oj (yielded ops a.tmps) = true := by unfold Region.wanted; rw [e2]
          simp only [hoj, hw, if_true, Oper.wp, hy1, Oper.upon]
          refine .inl ?_
          rw [q4]
          have hF' : ∀ q ∈ F.filter (fun q => !(q.2.1 == p.2.1)), q ∈ F ∧ q.1 ≠ p.1 := fun q hq => by
            obtain ⟨m1, m2⟩ := List.mem_filter.1 hq
            refine ⟨m1, fun e => ?_⟩
            obtain ⟨r1, r2, ⟨o2, r3, r4⟩, _⟩ := hi.fF q m1
            rw [e, hoj] at r3; cases r3
            have r5 := Option.some.inj (q4.symm.trans r4)
            simp at m2; exact m2 r5.symm
          have hFm : ∀ q ∈ F, q.1 ≠ p.1 → q ∈ F.filter (fun q => !(q.2.1 == p.2.1)) := fun q hq hne => by
            refine List.mem_filter.2 ⟨hq, ?_⟩
            obtain ⟨r1, r2, ⟨o2, r3, r4⟩, _⟩ := hi.fF q hq
            have := (e6 q.1 r1 hne o2 q.2.1 r3 r4).1
            simpa using this
          have hflen : (F.filter (fun q => !(q.2.1 == p.2.1))).length + 1 = F.length := by
            have hcount : ∀ (G : List (Nat × Tmp × Value)), (G.map (·.2.1)).Nodup → p ∈ G → (G.filter (fun q => !(q.2.1 == p.2.1))).length + 1 = G.length := by
              intro G
              induction G with
              | nil => intro _ h; cases h
              | cons q G ihG =>
                intro hn hm
                rw [List.map_cons] at hn
                obtain ⟨n1, n2⟩ := List.nodup_cons.1 hn
                by_cases hq : q.2.1 = p.2.1
                · have : G.filter (fun q => !(q.2.1 == p.2.1)) = G := List.filter_eq_self.2 fun x hx => by
                    have : x.2.1 ≠ p.2.1 := fun e => n1 (by rw [hq, ← e]; exact List.mem_map_of_mem hx)
                    simpa using this
                  rw [List.filter_cons]
                  simp [hq, this]
                · have hm' : p ∈ G := (List.mem_cons.1 hm).resolve_left fun e => hq (by rw [e])
                  rw [List.filter_cons]
                  simp only [beq_eq_false_iff_ne.2 hq, Bool.not_false, if_true, List.length_cons]
                  rw [ihG n2 hm']
            exact hcount F hi.nd hpF
          have hr2 : Rel g0 w0 σ g (puts (a.put (some p.2.1) y') (F.filter fun q => !(q.2.1 == p.2.1))) w := by
            rw [← puts_erase a p.1 p.2.1 y' F p.2.2 hpF hi.nd]
            have := hr.put (some p.2.1) hy2
            rw [hss] at this; exact this
          refine ih f (f' - 1) (by omega) done (F.filter fun q => !(q.2.1 == p.2.1)) (listed.setIfInBounds p.1 true) σ g (a.put (some p.2.1) y') w (by omega) ⟨by simpa using hi.sz, fun x => ?_, fun q hq => hi.fF q (hF' q hq).1, hi.cl, fun k o hkl ho x hx => ?_, hi.pw.sublist List.filter_sublist, hi.nd.sublist (List.filter_sublist.map _), fun q hq => hi.self q (hF' q hq).1⟩ h hr2
          · rw [set_getD hjs, hi.ls]
            constructor
            · rintro (rfl | ⟨h1, h2⟩)
              · exact ⟨q2, fun q hq => (hF' q hq).2⟩
              · exact ⟨h1, fun q hq => h2 q (hF' q hq).1⟩
            · rintro ⟨h1, h2⟩
              by_cases hx : x = p.1
              · exact .inl hx
              · exact .inr ⟨h1, fun q hq hqx => h2 q (hFm q hq (hqx ▸ hx)) hqx⟩
          · rw [set_getD hjs]
            rcases (set_getD hjs k).1 hkl with rfl | hkl
            · rw [hoj] at ho; cases ho
              exact .inr (hjd x hx)
            · exact .inr (hi.lc k o hkl ho x hx)
        · have hjnd : j ∉ done := fun hd => by
            have : listed.getD j false = true := (hi.ls j).2 ⟨hd, fun p hp e => hjF ⟨p, hp, e⟩⟩
            rw [this] at hjl; cases hjl
          have hjr : j ∈ rdy (depsL ops) done := (rdy_iff j).2 ⟨hjnd, oj, hoj, fun i he => ((hi.ls i).1 (hjd i he)).1⟩
          obtain ⟨f1, rfl, hjfl, hjm⟩ := hmain.2 j hjr
          refine ⟨f' - 1, by omega, ?_⟩
          have hap : ∀ p ∈ F, p.2.1 ∉ oj.looksAt ops ∧ oj.dst ≠ some p.2.1 := fun p hp => by
            obtain ⟨q1, q2, ⟨ok, q3, q4⟩, _⟩ := hi.fF p hp
            obtain ⟨oi, d, e1, e2, e3, e4, e5, e6⟩ := hfl.get p.1 q1
            rw [q3] at e1; cases e1
            rw [q4] at e3; cases e3
            rcases e5 j oj (fun e => hjnd (e ▸ q2)) hoj with h1 | h1 | h1
            · exact absurd rfl (((hi.ls p.1).1 (hjd p.1 h1)).2 p hp)
            · exact absurd (hi.cl p.1 q2 ok q3 j h1) hjnd
            · obtain ⟨a1, a2, _⟩ := Oper.apart_spec h1
              exact ⟨a1 _ q4, a2 _ q4⟩
          have hpend : ∀ p ∈ F, p.1 ∈ pend (depsL ops) fl (j :: done) := fun p hp => by
            obtain ⟨q1, q2, ⟨ok, q3, q4⟩, _⟩ := hi.fF p hp
            refine List.mem_filter.2 ⟨q1, ?_⟩
            rw [Bool.and_eq_true]
            refine ⟨by simp [q2], List.all_eq_true.2 fun k hk => ?_⟩
            rw [Bool.or_eq_true, Bool.not_eq_true']
            by_cases hkf : k ∈ fl
            · exact .inl (by simpa using hkf)
            · refine .inr ?_
              cases hok : ops[k]? with
              | none =>
                have : (depsL ops).getD k [] = [] := by
                  simp only [depsL, List.getD_eq_getElem?_getD, List.getElem?_map, Array.getElem?_toList, hok]; rfl
                rw [this]; rfl
              | some o2 =>
                have hg : (depsL ops).getD k [] = depsO o2 := by
                  simp only [depsL, List.getD_eq_getElem?_getD, List.getElem?_map, Array.getElem?_toList, hok]; rfl
                rw [hg]
                cases hc : (depsO o2).contains p.1 with
                | false => rfl
                | true =>
                  exfalso
                  have hm : hasEdge o2 p.1 = true := by
                    rw [hasEdge_iff]
                    obtain ⟨e, he, hee⟩ := List.mem_map.1 (List.contains_iff_mem.1 hc)
                    obtain ⟨m1, m2⟩ := List.mem_filter.1 he
                    exact ⟨e, Array.mem_toList_iff.1 m1, m2, hee⟩
                  have hl1 : listed.getD p.1 false = true := by
                    rcases List.mem_cons.1 hk with rfl | hk
                    · rw [hoj] at hok; cases hok
                      exact hjd p.1 hm
                    · have : listed.getD k false = true := (hi.ls k).2 ⟨hk, fun q hq hqk => hkf (hqk ▸ (hi.fF q hq).1)⟩
                      exact hi.lc k o2 this hok p.1 hm
                  exact ((hi.ls p.1).1 hl1).2 p hp rfl
          have inv : ∀ σ', (∀ i ∈ pend (depsL ops) fl (j :: done), fOk P ops σ' i) → InvF P ops fl (j :: done) F (listed.setIfInBounds j true) σ' := fun σ' hp => by
            refine ⟨by simpa using hi.sz, fun x => ?_, fun p hpF => ?_, fun k hk o ho x hx => ?_, fun k o hkl ho x hx => ?_, hi.pw, hi.nd, hi.self⟩
            · rw [set_getD hjs, hi.ls]
              constructor
              · rintro (rfl | ⟨h1, h2⟩)
                · exact ⟨List.mem_cons_self .., fun p hp e => hjF ⟨p, hp, e⟩⟩
                · exact ⟨List.mem_cons_of_mem _ h1, h2⟩
              · rintro ⟨h1, h2⟩
                rcases List.mem_cons.1 h1 with rfl | h1
                · exact .inl rfl
                · exact .inr ⟨h1, h2⟩
            · obtain ⟨q1, q2, q3, _⟩ := hi.fF p hpF
              exact ⟨q1, List.mem_cons_of_mem _ q2, q3, hp p.1 (hpend p hpF)⟩
            · rcases List.mem_cons.1 hk with rfl | hk
              · rw [hoj] at ho; cases ho
                exact List.mem_cons_of_mem _ ((hi.ls x).1 (hjd x hx)).1
              · exact List.mem_cons_of_mem _ (hi.cl k hk o ho x hx)
            · rw [set_getD hjs]
              rcases (set_getD hjs k).1 hkl with rfl | hkl
              · rw [hoj] at ho; cases ho
                exact .inr (hjd x hx)
              · exact .inr (hi.lc k o hkl ho x hx)
          rw [hoj] at hjm
          simp only at hjm
          unfold wpOp
          simp only [hoj]
          have hwt := wanted_puts (ops := ops) (o := oj) a F (fun p hp => (hap p hp).1)
          split at hjm
          · rename_i hg
            rw [if_pos (by rw [← hwt]; exact gd_spec hr hg)]
            refine .inl (wp_bot ?_)
            have h1 : oj.wp P (puts a F) w (fun a' w' => ∃ σ' g', ((∀ i ∈ pend (depsL ops) fl (j :: done), fOk P ops σ' i) ∧ WAnyF P ops fl K f1 (j :: done) σ') ∧ Rel g0 w0 σ' g' a' w') Bot :=
              wop_sound g0 w0 _ σ g _ w _ _ Bot hjm hr fun σ' g' a' w' hk' hr' => ⟨σ', g', hk', hr'⟩
            have h2 := wp_puts (ops := ops) (hfl.sel _ _ · · hoj) F hap h1
            refine Oper.wp_mono (fun a' w' ⟨σ', g', ⟨m1, m2⟩, m3⟩ => ?_) h2
            exact ih f1 (f' - 1) (by omega) (j :: done) F _ σ' g' a' w' (by omega) (inv σ' m1) m2 m3
          · rename_i hg
            rw [if_neg (by rw [← hwt, gd_spec hr hg]; simp)]
            refine ih f1 (f' - 1) (by omega) (j :: done) F _ _ g _ w (by omega) (inv _ hjm.1) hjm.2 ?_
            rw [← put_puts a oj.dst undef F (fun p hp => (hap p hp).2)]
            exact hr.put _ (v := .x (.one (.v (.tuple #[])))) (y := undef) rfl
          · exact hjm.elim
      cases f' with
      | zero =>
        refine ⟨?_, ?_⟩
        · rw [List.eq_nil_iff_forall_not_mem]
          intro j hj
          obtain ⟨f2, h2, _⟩ := hstep j hj
          omega
        · refine hdone ?_
          rw [List.eq_nil_iff_forall_not_mem]
          intro j hj
          obtain ⟨f2, h2, _⟩ := hstep j hj
          omega
      | succ f2 =>
        refine ⟨hdone, fun j hj => ?_⟩
        obtain ⟨f3, h3, h4⟩ := hstep j hj
        obtain rfl : f2 = f3 := by omega
        exact h4
def wdraw : DrawW := fun P ops σ K => wdraw2 P ops σ K ∨ (P.follows .mixedOrders = true ∧ (WAny P ops K ops.size (Array.replicate ops.size false) σ ∨ ∃ fl, FlOk ops fl ∧ WAnyF P ops fl K ops.size [] σ))
theorem wdraw_sound : DrawSound wdraw P := by
  intro g0 w0 _ id ops σ g a w K hw hr
  rcases hw with hw | ⟨hm, h | ⟨fl, hf, h⟩⟩
  · exact wdraw2_sound g0 w0 id ops σ g a w K hw hr
  · exact wp_region_any hm (WAny_sound (fun σ' g' a' w' hk hr' => ⟨.normal, rfl, σ', g', ⟨rfl, hk⟩, hr'⟩) ops.size _ σ g a _ h hr.drew)
  · have hno : ∀ i, ¬ (Array.replicate ops.size false).getD i false = true := fun i => by
      by_cases hi : i < ops.size <;> simp [Array.getD, hi]
    exact wp_region_any hm (WAnyF_sound hf (fun σ' g' a' w' hk hr' => ⟨.normal, rfl, σ', g', ⟨rfl, hk⟩, hr'⟩) (ops.size + ops.size) ops.size ops.size (Nat.le_refl _) [] [] _ σ g a _ rfl
      ⟨by simp, fun j => ⟨fun h => absurd h (hno j), fun h => absurd h.1 (List.not_mem_nil)⟩, fun p hp => absurd hp (List.not_mem_nil), fun k hk => absurd hk (List.not_mem_nil), fun k o hk => absurd hk (hno k), .nil, .nil, fun p hp => absurd hp (List.not_mem_nil)⟩ h hr.drew)
end
end Go.Rx
