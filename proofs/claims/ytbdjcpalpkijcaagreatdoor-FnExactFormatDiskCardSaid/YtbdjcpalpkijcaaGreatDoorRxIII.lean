/- An abstract machine over data, part III. -/
import Derived.Test.YtbdjcpalpkijcaaGreatDoorRxII
import Derived.Orders
/- A body that comes to its results is a function of data. -/
namespace Go.Rx
open Go.RowKit

def resV (P : Program) (σ : St) : ResultVar → Option V
  | .tmp t => some (σ.t.getD t (.x (.one .bad)))
  | .cell a t => loadV P σ.o t (σ.t.getD a (.x (.one .bad)))
def resXs (P : Program) (σ : St) : List ResultVar → Option (List X)
  | [] => some []
  | r :: rs => match resV P σ r, resXs P σ rs with
    | some (.x x), some xs => some (x :: xs)
    | _, _ => none
def expX (o : Store) : X → Option X
  | .one c => (expC o c).map .one
  | .agg cs => (expR o cs).map .agg
def expXs (o : Store) : List X → Option (List X)
  | [] => some []
  | x :: xs => match expX o x, expXs o xs with
    | some x, some xs => some (x :: xs)
    | _, _ => none

/-- The results of the state are 'ret', rows of its own going along. -/
def resOk (P : Program) (fn : Func) (σ : St) (ret : List X) : Prop :=
  ∃ xs, resXs P σ fn.results.toList = some xs ∧ expXs σ.o xs = some ret ∧ apartAll ((retRow xs).map locC) = true

def resF (tmps : Array Value) : ResultVar → Sem Value
  | .tmp t => pure (tmps.getD t undef)
  | .cell b t => do loadVar t (← asAddr (tmps.getD b undef))

def enterSt (fn : Func) (args : List X) : St := ⟨args.map .x ++ List.replicate (fn.ntmps - args.length) (.x (.one .bad)), 0, [], []⟩

section
variable {P : Program} {w w0 w' : World} {g g0 gr : Gh} {σ : St} {a : Act}

theorem HeapRel.empty (w : World) : HeapRel w [] (Sall w) :=
  ⟨fun _ _ _ _ _ ⟨_, h, _⟩ => (by cases h), fun _ _ _ _ _ h => (by cases h), fun _ _ _ _ _ _ _ _ _ ⟨_, h, _⟩ => (by cases h), fun _ h => h⟩

theorem Keep.refl (w : World) (g : Gh) : Keep g w g w := ⟨rfl, rfl, rfl, Nat.le_refl _, fun _ h => h, fun _ _ => rfl⟩

theorem Rel.enter (fn : Func) {args : List X} {ys : List Value} (hl : ys.length = args.length) (hx : ∀ i, i < args.length → XR w [] (Sall w) (args.getD i (.one .bad)) (ys.getD i undef)) :
    Rel (Sall w) w (enterSt fn args) (Sall w) { tmps := ys.toArray ++ Array.replicate (fn.ntmps - ys.toArray.size) undef, defers := [] } w := by
  refine ⟨rfl, by simp [enterSt, hl], fun i hi => ?_, HeapRel.empty w, Keep.refl _ _, fun _ _ h => (by cases h), fun _ _ h => (by cases h), fun _ _ h => (by cases h), MapsOk.nil _ _, Pin.of_nil _ _ _ _⟩
  show VR w [] (Sall w) ((args.map V.x ++ List.replicate (fn.ntmps - args.length) (V.x (.one .bad))).getD i (V.x (.one .bad))) _
  by_cases h : i < args.length
  · have := hx i h
    have h2 : i < ys.length := by omega
    simpa [List.getD_eq_getElem?_getD, List.getElem?_append_left, List.getElem?_map, h, Array.getD_eq_getD_getElem?, Array.getElem?_append, h2, VR] using this
  · have : (args.map V.x ++ List.replicate (fn.ntmps - args.length) (V.x (.one .bad))).getD i (V.x (.one .bad)) = .x (.one .bad) := by
      rw [List.getD_eq_getElem?_getD, List.getElem?_append_right (by simpa using h)]
      simp only [List.getElem?_replicate]
      split <;> rfl
    rw [this]; trivial

theorem resV_run (h : Rel g0 w0 σ g a w) {F : ResultVar → Sem Value} (F1 : ∀ t, F (.tmp t) = pure (a.tmps.getD t undef)) (F2 : ∀ b t, F (.cell b t) = do loadVar t (← asAddr (a.tmps.getD b undef)))
    {r : ResultVar} {v : V} (hv : resV P σ r = some v) : ∃ y, (F r).run P w = .ok y w ∧ VR w σ.o g v y := by
  cases r with
  | tmp t => simp only [resV, Option.some.injEq] at hv; subst hv; exact ⟨a.tmps.getD t undef, by rw [F1]; rfl, ev_rel h (.tmp t)⟩
  | cell b t =>
    simp only [resV] at hv
    obtain ⟨y, h1, h2⟩ := loadV_run h.heap hv (ev_rel h (.tmp b))
    refine ⟨y, ?_, h2⟩
    simp only [Instr.loadAt, Sem.run_bind, Act.eval] at h1
    rw [F2]
    simp only [Sem.run_bind]
    generalize a.tmps.getD b undef = u at h1 ⊢
    cases u with
    | pointer q =>
      cases q with
      | some q => simpa [Instr.sureAddr, asAddr] using h1
      | none => simp [Instr.sureAddr, stuck, Result.andThen] at h1
    | _ => simp [Instr.sureAddr, stuck, Result.andThen] at h1

theorem resXs_run (h : Rel g0 w0 σ g a w) {F : ResultVar → Sem Value} (F1 : ∀ t, F (.tmp t) = pure (a.tmps.getD t undef)) (F2 : ∀ b t, F (.cell b t) = do loadVar t (← asAddr (a.tmps.getD b undef))) :
    ∀ (rs : List ResultVar) (xs : List X), resXs P σ rs = some xs →
    ∃ ys : List Value, (rs.mapM F).run P w = .ok ys w ∧ ys.length = xs.length ∧ ∀ i, i < xs.length → XR w σ.o g (xs.getD i (.one .bad)) (ys.getD i undef)
  | [], xs, hx => by simp only [resXs, Option.some.injEq] at hx; subst hx; exact ⟨[], by simp, rfl, fun i hi => absurd hi (Nat.not_lt_zero _)⟩
  | r :: rs, xs, hx => by
    simp only [resXs] at hx
    split at hx
    · rename_i x xs' h1 h2
      cases hx
      obtain ⟨y, k1, k2⟩ := resV_run h F1 F2 h1
      obtain ⟨ys, e1, e2, e3⟩ := resXs_run h F1 F2 rs xs' h2
      refine ⟨y :: ys, ?_, by simp [e2], fun i hi => ?_⟩
      · rw [List.mapM_cons, Sem.run_bind, k1, Result.andThen_ok, Sem.run_bind, e1]; rfl
      · cases i with
        | zero => exact k2
        | succ i => simpa using e3 i (by simpa using hi)
    · cases hx

/-- The cells of values, one behind the other. -/
def flatY : List X → List Value → List Value
  | [], _ => []
  | .one _ :: xs, ys => ys.headD undef :: flatY xs (ys.drop 1)
  | .agg _ :: xs, ys => (ys.headD undef).cells.toList ++ flatY xs (ys.drop 1)

theorem flatY_rel {o : Store} : ∀ (xs rets : List X) (ys : List Value), expXs o xs = some rets → ys.length = xs.length → (∀ i, i < xs.length → XR w o g (xs.getD i (.one .bad)) (ys.getD i undef)) →
    (flatY xs ys).length = (retRow xs).length ∧ expR o (retRow xs) = some (retRow rets) ∧ packX rets (flatY xs ys) = ys ∧
    ∀ j, j < (retRow xs).length → CR w o g none ((retRow xs).getD j .bad) ((flatY xs ys).getD j undef)
  | [], rets, ys, he, hl, _ => by
    simp only [expXs, Option.some.injEq] at he
    subst he
    obtain rfl : ys = [] := by simpa using hl
    exact ⟨rfl, rfl, rfl, fun j hj => absurd hj (Nat.not_lt_zero _)⟩
  | x :: xs, rets, ys, he, hl, hx => by
    simp only [expXs] at he
    split at he
    · rename_i x' rets' h1 h2
      cases he
      match ys, hl with
      | y :: ys, hl =>
        have h0 := hx 0 (by simp)
        simp only [List.getD_cons_zero] at h0
        obtain ⟨e1, e2, e3, e4⟩ := flatY_rel xs rets' ys h2 (by simpa using hl) (fun i hi => by simpa using hx (i + 1) (by simpa using hi))
        have expR_app : ∀ (as bs as' bs' : List C), expR o as = some as' → expR o bs = some bs' → expR o (as ++ bs) = some (as' ++ bs') := by
          intro as; induction as with
          | nil => intro bs as' bs' ha hb; simp only [expR, Option.some.injEq] at ha; subst ha; exact hb
          | cons c as ih =>
            intro bs as' bs' ha hb
            simp only [expR] at ha
            split at ha
            · rename_i c' cs' k1 k2
              cases ha
              simp only [List.cons_append, expR, k1, ih bs _ bs' k2 hb]
            · cases ha
        cases x with
        | one c =>
          simp only [expX, Option.map_eq_some_iff] at h1
          obtain ⟨c', k1, rfl⟩ := h1
          refine ⟨by simp [flatY, retRow, cellsOf, e1, Nat.add_comm], ?_, by simp [flatY, packX, e3], fun j hj => ?_⟩
          · exact expR_app [c] (retRow xs) [c'] (retRow rets') (by simp [expR, k1]) e2
          · cases j with
            | zero => exact h0
            | succ j => simpa [flatY, retRow, cellsOf] using e4 j (by simp [retRow, cellsOf] at hj; omega)
        | agg cs =>
          simp only [expX, Option.map_eq_some_iff] at h1
          obtain ⟨cs', k1, rfl⟩ := h1
          obtain ⟨us, rfl, f1, f2⟩ := h0
          have hcl : cs'.length = us.length := by rw [expR_length k1, f1]
          refine ⟨by simp [flatY, retRow, cellsOf, e1, Value.cells, f1], expR_app _ _ _ _ k1 e2, ?_, fun j hj => ?_⟩
          · simp only [flatY, List.headD_cons, Value.cells, packX, hcl, List.take_left', List.drop_left', List.drop_succ_cons, List.drop_zero]
            rw [e3]
          · simp only [retRow, cellsOf, List.length_append] at hj
            simp only [flatY, List.headD_cons, Value.cells, retRow, cellsOf, List.drop_succ_cons, List.drop_zero]
            by_cases hj' : j < cs.length
            · have := f2 j hj'
              simpa [List.getD_eq_getElem?_getD, List.getElem?_append_left hj', List.getElem?_append_left (show j < us.length by omega)] using this
            · have := e4 (j - cs.length) (by omega)
              have hge : cs.length ≤ j := Nat.le_of_not_lt hj'
              simp only [List.getD_eq_getElem?_getD, List.getElem?_append_right hge, List.getElem?_append_right (show us.length ≤ j by omega), f1] at this ⊢
              exact this
    · cases he

theorem PureFn_of_WW {f : FuncId} {fn : Func} {c : Code} {wd : DrawW} (hf : P.funcs[f]? = some fn) (hb : fn.body = some c) (hn : fn.name ≠ "runtime.NumGoroutine") (hwd : DrawSound wd P) {args ret : List X}
    (h : W wop wd P c (enterSt fn args) fun e σ => (e = .normal ∨ e = .ret) ∧ ∃ σ', Weak σ σ' ∧ resOk P fn σ' ret) : PureFn P f args ret := by
  refine ⟨⟨fn, hf, hn, by rw [hb]; rfl⟩, fun w ys _ hl hx => ?_⟩
  refine calls_of_wp hf hb (wp_mono (W_sound (g0 := Sall w) (w0 := w) wop_sound hwd c _ _ _ _ _ h (Rel.enter fn hl hx)) fun e a' w' hp => ?_)
  obtain ⟨e', h1, σ0, g0', ⟨h2, σ, hwk, xs, h4, h5, h6⟩, h30⟩ := hp
  obtain ⟨g, h3⟩ := hwk _ _ _ _ _ h30
  have fin : a'.defers = [] ∧ ∃ v, (results fn a'.tmps).run P w' = .ok v w' ∧ ∃ gr zs, Ending.returned v = .returned (packV (packX ret zs)) ∧ RetR w' gr ret zs ∧ Keep (Sall w) w gr w' := by
    refine ⟨h3.defers, ?_⟩
    obtain ⟨us, e1, e2, e3⟩ := resXs_run (P := P) h3 (F := resF a'.tmps) (fun _ => rfl) (fun _ _ => rfl) fn.results.toList xs h4
    obtain ⟨f1, f2, f3, f4⟩ := flatY_rel xs ret us h5 e2 e3
    refine ⟨packV us, ?_, retG g (retRow xs), flatY xs us, by rw [f3], export_rel h3.heap (fun r ob hr hk => by have := h3.obj r ob hr; simp [okObj, hk] at this) f2 h6 f1 f4, ?_⟩
    · have hm : ∀ F : ResultVar → Sem Value, (∀ t, F (.tmp t) = pure (a'.tmps.getD t undef)) → (∀ b t, F (.cell b t) = do loadVar t (← asAddr (a'.tmps.getD b undef))) → (fn.results.mapM F).run P w' = .ok us.toArray w' := by
        intro F F1 F2
        have : F = resF a'.tmps := funext fun r => by
          cases r with
          | tmp t => exact F1 t
          | cell b t => exact F2 b t
        rw [this, Array.mapM_eq_mapM_toList, Sem.run_map, e1]; rfl
      unfold results
      rw [Sem.run_bind, hm _ (fun _ => rfl) (fun _ _ => rfl), Result.andThen_ok, Sem.run_pure]
      congr 1
      match us with
      | [] => rfl
      | [u] => rfl
      | u :: v :: us => simp [packV]
    · exact ⟨h3.keep.os, h3.keep.tape, h3.keep.output, h3.keep.size, h3.keep.S, h3.keep.block⟩
  cases e with
  | normal => exact fin
  | ret => exact fin
  | exit id => cases h1; rcases h2 with h2 | h2 <;> cases h2
  | _ => cases h1

end
end Go.Rx

/- A region whose operations may go in more than one order: operations that only compute, read, call functions of data or make memory come to the same in each. -/
namespace Go.Rx
open Go.RowKit

/-- Operations that make or turn memory in an order of their own: what stands behind the first one of them in such a region must be in the text's order. -/
def isEff : Op → Bool
  | .store _ _ _ => true
  | .box _ _ => true
  | .makeSlice _ _ _ => true
  | .call { callee := .builtin .append, args := _, argTypes := _ } => true
  | .makeMap _ _ => true
  | .lookup _ _ _ _ => true
  | .mapUpdate _ _ _ _ => true
  | _ => false

def allV : List C → Bool
  | [] => true
  | .v _ :: cs => allV cs
  | _ :: _ => false
/-- A slice's literal that nobody will write: its rows are shared. -/
def buildW (P : Program) (t : TypeId) (n : Nat) (ps : List (Nat × V)) : Option V :=
  match tyElem P t with
  | some e => match tyZero P e, tySz P e, partsOk 0 ps with
    | some zs, some sz, some R => if zs.length = sz ∧ 0 < sz ∧ R.length = n ∧ n * sz ≤ 16777216 ∧ sized sz R = true ∧ R.all allV = true then some (.x (.one (.sh sz R))) else none
    | _, _, _ => none
  | none => none
/-- What an operation comes to that makes no root. -/
def opW (P : Program) (σ : St) (o : Oper) : Option V :=
  match o.op with
  | .build t parts => buildV P t (parts.toList.map fun p => (p.1, ev σ p.2))
  | .buildSlice t n parts => buildW P t n (parts.toList.map fun p => (p.1, ev σ p.2))
  | _ => opV P σ o

/-- The roots that an operand's own maker made. -/
def opT : Operand → Nat → Bool
  | .tmp t, n => decide (t * 64 ≤ n) && decide (n < t * 64 + 64)
  | _, _ => false
def hasA : List Operand → Nat → Bool
  | [], _ => false
  | x :: xs, n => opT x n || hasA xs n
def selA (as : List Operand) : Store → Store
  | [] => []
  | (k, ob) :: L => if hasA as k.2 = true then (k, ob) :: selA as L else selA as L
def short (cs : List C) : Bool := decide (cs.length ≤ 64)
/-- An empty literal: of what rows. -/
def lit0 (P : Program) (t : TypeId) : Option Nat :=
  match tyElem P t with
  | some e => match tyZero P e, tySz P e with
    | some zs, some sz => if zs.length = sz ∧ 0 < sz then some sz else none
    | _, _ => none
  | none => none
theorem lit0_buildS {P : Program} {σ : St} {N t sz : Nat} (h : lit0 P t = some sz) (hf : fresh σ N = true) : buildS P σ (some N) t 0 [] = some (put (newSt σ N ⟨.sl, sz, []⟩) (some N) (slV σ N sz 0)) := by
  unfold lit0 at h
  split at h
  · rename_i e he
    split at h
    · rename_i zs s hz hs
      split at h
      · rename_i hc
        cases h
        unfold buildS
        simp only [he, hz, hs, partsOk]
        rw [if_pos ⟨hf, hc.1, hc.2, rfl, by omega, rfl, rfl⟩]
      · cases h
    · cases h
  · cases h
/-- A literal of structs of plain cells: its rows. -/
def litR (P : Program) (t : TypeId) (n : Nat) (ps : List (Nat × V)) : Option (Nat × List (List C)) :=
  match tyElem P t with
  | some e => match tyZero P e, tySz P e, partsOk 0 ps with
    | some zs, some sz, some R => if 1 < sz ∧ zs.length = sz ∧ R.length = n ∧ n * sz ≤ 16777216 ∧ sized sz R = true ∧ flatRows R = true then some (sz, R) else none
    | _, _, _ => none
  | none => none
theorem litR_buildS {P : Program} {σ : St} {N t n : Nat} {ps : List (Nat × V)} {p : Nat × List (List C)} (h : litR P t n ps = some p) (hf : fresh σ N = true) : buildS P σ (some N) t n ps = some (put (newSt σ N ⟨.sl, p.1, p.2⟩) (some N) (slV σ N p.1 n)) := by
  unfold litR at h
  split at h
  · rename_i e he
    split at h
    · rename_i zs s R hz hs hp
      split at h
      · rename_i hc
        cases h
        unfold buildS
        simp only [he, hz, hs, hp]
        rw [if_pos ⟨hf, hc.2.1, by omega, hc.2.2.1, hc.2.2.2.1, hc.2.2.2.2.1, hc.2.2.2.2.2⟩]
      · cases h
    · cases h
  · cases h
/-- What an operation of such a region comes to: its value, and the roots that it makes; L: those that were made in this region. -/
def OpE (P : Program) (σ : St) (L : Store) (o : Oper) (v : V) (l : Store) : Prop :=
  match o.op with
  | .call { callee := .value (.func f), args := as, argTypes := _ } => match o.dst with
    | some N => ∃ xs ret, viewVs (selA as.toList L ++ σ.o) (as.toList.map (ev σ)) = some xs ∧ PureFn P f xs ret ∧ (poR (retRow ret) && short (retRow ret)) = true ∧ l = newRoots σ.d N 0 (retRow ret) ∧ v = packT (impXs σ.d N 0 ret)
    | none => False
  | .alloc t => match o.dst, tyZero P t with
    | some N, some zs => l = [((σ.d, N * 64), ⟨.box, zs.length, [zs.map .v]⟩)] ∧ v = ptV σ N zs.length
    | _, _ => False
  | .buildSlice t 0 ps => match o.dst, lit0 P t with
    | some N, some sz => ps = #[] ∧ l = [((σ.d, N * 64), ⟨.sl, sz, []⟩)] ∧ v = slV σ N sz 0
    | _, _ => False
  | .buildSlice t (n + 1) ps => match o.dst, litR P t (n + 1) (ps.toList.map fun p => (p.1, ev σ p.2)) with
    | some N, some p => l = [((σ.d, N * 64), ⟨.sl, p.1, p.2⟩)] ∧ v = slV σ N p.1 (n + 1)
    | _, _ => opW P σ o = some v ∧ l = []
  | _ => opW P σ o = some v ∧ l = []

def Stp (P : Program) (ops : Array Oper) (σ : St) (L : Store) (o : Oper) (v : V) (l : Store) : Prop :=
  (gd σ ops o = some true ∧ OpE P σ L o v l) ∨ (gd σ ops o = some false ∧ v = .x (.one (.v (.tuple #[]))) ∧ l = [])

/-- In the order of the text, the roots aside. -/
def DRun (P : Program) (ops : Array Oper) : List Oper → St → Store → (St → Prop) → Prop
  | [], σ, L, K => K { σ with l := L ++ σ.l }
  | o :: rest, σ, L, K => if isEff o.op then Wlist wop P ops (o :: rest) { σ with l := L ++ σ.l } K else match gd σ ops o with
    | some true => ∃ v l, OpE P σ L o v l ∧ freshR (L ++ σ.l) l = true ∧ DRun P ops rest (put σ o.dst v) (l ++ L) K
    | some false => DRun P ops rest (put σ o.dst (.x (.one (.v (.tuple #[]))))) L K
    | none => False

def hasEdge (o : Oper) (i : Nat) : Bool := o.after.any fun e => e.on == i && Region.binds .any e

/-- How many operations stand ahead of the first one that makes or turns memory. -/
def headLen : List Oper → Nat
  | [] => 0
  | o :: l => if isEff o.op then 0 else headLen l + 1

def headO (l : List (Oper × Nat)) : List (Oper × Nat) := l.takeWhile fun p => !isEff p.1.op
def tailO (l : List (Oper × Nat)) : List (Oper × Nat) := l.dropWhile fun p => !isEff p.1.op
def edgesOk (o : Oper) (j : Nat) : Bool := o.after.all (fun e => !Region.binds .any e || decide (e.on < j)) && (match o.op with | .select _ _ => false | _ => true)
def drawOk (ops : Array Oper) : Bool :=
  let l := headO ops.toList.zipIdx
  (l.all fun (o, j) => edgesOk o j &&
    l.all fun (o', i) =>
      (i == j || o.dst.isNone || !(o.dst == o'.dst)) &&
      (Oper.looksAt ops o).all fun t => !(o'.dst == some t) || i == j || (decide (i < j) && hasEdge o i) || (decide (j < i) && hasEdge o' j)) &&
  (tailO ops.toList.zipIdx).all fun (o, j) => edgesOk o j && (List.range j).all fun i => hasEdge o i

def wdraw1 : DrawW := fun P ops σ K => P.follows .mixedOrders = true ∧ drawOk ops = true ∧ DRun P ops ops.toList σ [] K

section
variable {P : Program} {w w0 w' : World} {g g0 gr : Gh} {σ : St} {a : Act}

/-- What is said of a state hangs on its temporaries and on its roots' look-ups alone. -/
theorem Rel.ext {τ τ' : St} (ht : τ'.t = τ.t) (hd : τ'.d = τ.d) (hg : τ'.g = τ.g) (hl : ∀ r, getA τ'.l r = getA τ.l r) (h : Rel g0 w0 τ g a w) : Rel g0 w0 τ' g a w := by
  have ho : ∀ r, getA τ'.o r = getA τ.o r := fun r => by
    show getA (τ'.l ++ τ'.g) r = getA (τ.l ++ τ.g) r
    rw [getA_append, getA_append, hl, hg]
  have hlive : ∀ r p m K, Live τ'.o r p m K ↔ Live τ.o r p m K := fun r p m K => by unfold Live; rw [ho]
  have hgoes : Goes w τ.o g w τ'.o g := ⟨fun k hk => ⟨hk, rfl⟩, fun r p m K hK => ⟨⟨K, (hlive r p m K).2 hK, Nat.le_refl _⟩, rfl, fun b cs e f _ hb => ⟨cs, hb, rfl⟩⟩⟩
  refine ⟨h.defers, by rw [ht]; exact h.size, fun i hi => ?_, ⟨?_, ?_, ?_, h.heap.S⟩, h.keep, ?_, ?_, ?_, ?_, by rw [hg]; exact h.pin⟩
  · rw [ht] at hi ⊢; exact VR.goes hgoes (h.tmps i hi)
  · intro r p m K b hK hb
    have hK' := (hlive r p m K).1 hK
    obtain ⟨k1, k2, cs, e, f, k3, kf, k4, k5⟩ := h.heap.rows r p m K b hK' hb
    exact ⟨k1, k2, cs, e, f, k3, kf, k4, fun i j hi hj => CR.goesAt hgoes hK' hi (by rw [k2 i hi]; exact hj) (k5 i j hi hj)⟩
  · intro r p ob m K h1 h2 h3
    rw [ho] at h1; exact h.heap.none r p ob m K h1 h2 h3
  · intro r p m K r' p' m' K' b h1 h2
    exact h.heap.inj _ _ _ _ _ _ _ _ b ((hlive _ _ _ _).1 h1) ((hlive _ _ _ _).1 h2)
  · intro r ob hr; rw [hl] at hr; rw [hd]; exact h.loc r ob hr
  · intro r ob hr; rw [hg] at hr; rw [hd]; exact h.out r ob hr
  · intro r ob hr; rw [ho] at hr; exact h.obj r ob hr
  · exact h.maps.mono (fun r ob h1 h2 => ⟨ob, by rw [← ho]; exact h1, rfl⟩) (fun b arr cl h1 h2 => ⟨h1, h2⟩) (.same fun r p m K hl => ⟨_, _, (hlive r p m K).1 hl⟩)

theorem Rel.drew (h : Rel g0 w0 σ g a w) : Rel g0 w0 σ g a { w with drawn := w.drawn + 1 } := by
  have hgoes : Goes w σ.o g { w with drawn := w.drawn + 1 } σ.o g := ⟨fun k hk => ⟨hk, rfl⟩, fun r p m K hK => ⟨⟨K, hK, Nat.le_refl _⟩, rfl, fun b cs e f _ hb => ⟨cs, hb, rfl⟩⟩⟩
  refine ⟨h.defers, h.size, fun i hi => VR.goes hgoes (h.tmps i hi), ⟨?_, h.heap.none, h.heap.inj, h.heap.S⟩, ⟨h.keep.os, h.keep.tape, h.keep.output, h.keep.size, h.keep.S, h.keep.block⟩, h.loc, h.out, h.obj, h.maps.mono (fun _ ob h1 _ => ⟨ob, h1, rfl⟩) (fun _ _ _ h1 h2 => ⟨h1, h2⟩) (fun _ hk => ⟨rfl, hk⟩), ⟨h.pin.at_, h.pin.nil_, h.pin.old⟩⟩
  intro r p m K b hK hb
  obtain ⟨k1, k2, cs, e, f, k3, kf, k4, k5⟩ := h.heap.rows r p m K b hK hb
  exact ⟨k1, k2, cs, e, f, k3, kf, k4, fun i j hi hj => CR.goesAt hgoes hK hi (by rw [k2 i hi]; exact hj) (k5 i j hi hj)⟩

/-! ### more roots change nothing of what is read -/

theorem loadV_more {o o' : Store} (hm : ∀ r ob, getA o r = some ob → getA o' r = some ob) {t : TypeId} {x r : V} (h : loadV P o t x = some r) : loadV P o' t x = some r := by
  unfold loadV at *
  split at h
  · rename_i ag n _ _
    split at h
    · exact h
    · split at h
      · rename_i ob hob
        rw [hm _ _ hob]
        exact h
      · cases h
    · cases h
  · cases h

theorem bytesV_more {o o' : Store} (hm : ∀ r ob, getA o r = some ob → getA o' r = some ob) {x : V} {ns : List Int} (h : bytesV o x = some ns) : bytesV o' x = some ns := by
  unfold bytesV at *
  split at h
  · exact h
  · split at h
    · rename_i ob hob; rw [hm _ _ hob]; exact h
    · cases h
  · cases h
theorem bytesV_kind {o o' : Store} {x : V} (h : bytesV o x = none) : bytesV o' x = none ∨ ∃ r p off len, x = .x (.one (.rs r p 1 off len)) := by
  unfold bytesV at *
  split at h
  · exact .inl h
  · exact .inr ⟨_, _, _, _, rfl⟩
  · exact .inl rfl
theorem convV_more {o o' : Store} (hm : ∀ r ob, getA o r = some ob → getA o' r = some ob) {src dst : TypeId} {x r : V} (h : convV P o src dst x = some r) : convV P o' src dst x = some r := by
  cases hb : bytesV o x with
  | some ns => unfold convV at *; rw [hb] at h; rw [bytesV_more hm hb]; exact h
  | none =>
    rcases bytesV_kind (o' := o') hb with h2 | ⟨r', p', off, len, rfl⟩
    · unfold convV at *; rw [hb] at h; rw [h2]; exact h
    · unfold convV at h; rw [hb] at h; simp [un1, plain] at h

theorem viewC_more {o o' : Store} (hm : ∀ r ob, getA o r = some ob → getA o' r = some ob) {c d : C} (h : viewC o c = some d) : viewC o' c = some d := by
  unfold viewC at *
  split at h
  · exact h
  · exact h
  · exact h
  · split at h
    · rename_i ob hob; rw [hm _ _ hob]; exact h
    · cases h
  · split at h
    · rename_i ob hob; rw [hm _ _ hob]; exact h
    · cases h
  · exact h
  · exact h

theorem viewX_more {o o' : Store} (hm : ∀ r ob, getA o r = some ob → getA o' r = some ob) {x y : X} (h : viewX o x = some y) : viewX o' x = some y := by
  cases x with
  | one c =>
    simp only [viewX, Option.map_eq_some_iff] at *
    obtain ⟨d, h1, h2⟩ := h
    exact ⟨d, viewC_more hm h1, h2⟩
  | agg cs =>
    simp only [viewX, Option.map_eq_some_iff] at *
    obtain ⟨ds, h1, h2⟩ := h
    refine ⟨ds, ?_, h2⟩
    clear h2
    induction cs generalizing ds with
    | nil => exact h1
    | cons c cs ih =>
      simp only [viewCs] at h1 ⊢
      split at h1
      · rename_i d1 ds1 e1 e2
        rw [viewC_more hm e1, ih _ e2]; exact h1
      · cases h1

theorem viewVs_more {o o' : Store} (hm : ∀ r ob, getA o r = some ob → getA o' r = some ob) {vs : List V} {xs : List X} (h : viewVs o vs = some xs) : viewVs o' vs = some xs := by
  induction vs generalizing xs with
  | nil => exact h
  | cons v vs ih =>
    simp only [viewVs] at h ⊢
    split at h
    · rename_i x xs1 e1 e2
      have : viewV o' v = some x := by
        cases v with
        | tup _ => cases e1
        | x y => exact viewX_more hm e1
      rw [this, ih e2]; exact h
    · cases h

end
end Go.Rx

/- A region whose operations may go in more than one order: each order comes to the same. -/
namespace Go.Rx
open Go.RowKit

section
variable {P : Program} {w w0 w' : World} {g g0 gr : Gh} {σ τ : St} {a : Act} {ops : Array Oper} {o : Oper}

abbrev badV : V := .x (.one .bad)

theorem opV_local (e : ∀ x ∈ o.op.operands, ev τ x = ev σ x) (hm : ∀ r ob, getA σ.o r = some ob → getA τ.o r = some ob) {v : V} (h : opV P σ o = some v) : opV P τ o = some v := by
  unfold opV at *
  split at h
  · rename_i x ho; rw [e x (by simp [ho, Op.operands])]; exact h
  · rename_i x ho; rw [e x (by simp [ho, Op.operands])]; exact h
  · rename_i c x y ho
    rw [e c (by simp [ho, Op.operands]), e x (by simp [ho, Op.operands]), e y (by simp [ho, Op.operands])]; exact h
  · rename_i x ho; rw [e x (by simp [ho, Op.operands])]; exact h
  · rename_i ho; rename_i y _; rename_i x
    rw [e _ (by rw [ho]; simp [Op.operands]), e _ (by rw [ho]; simp [Op.operands])]; exact h
  · rename_i x ho; rw [e x (by simp [ho, Op.operands])]; exact h
  · rename_i x ho; rw [e x (by simp [ho, Op.operands])]; exact convV_more hm h
  · rename_i x f ho; rw [e x (by simp [ho, Op.operands])]; exact h
  · rename_i x i ho; rw [e x (by simp [ho, Op.operands])]; exact h
  · rename_i x i ho; rw [e x (by simp [ho, Op.operands]), e i (by simp [ho, Op.operands])]; exact h
  · rename_i x f ho; rw [e x (by simp [ho, Op.operands])]; exact h
  · rename_i x i ho; rw [e x (by simp [ho, Op.operands]), e i (by simp [ho, Op.operands])]; exact h
  · rename_i x lo hi ho
    have hlo : lo.map (ev τ) = lo.map (ev σ) := by
      cases lo with
      | none => rfl
      | some y => simp only [Option.map_some]; rw [e y (by simp [ho, Op.operands])]
    have hhi : hi.map (ev τ) = hi.map (ev σ) := by
      cases hi with
      | none => rfl
      | some y => simp only [Option.map_some]; rw [e y (by simp [ho, Op.operands])]
    rw [e x (by simp [ho, Op.operands]), hlo, hhi]; exact h
  · rename_i t x ho
    rw [e x (by simp [ho, Op.operands])]; exact loadV_more hm h
  · rename_i b as ats ho
    have : as.toList.map (ev τ) = as.toList.map (ev σ) := List.map_congr_left fun x hx => e x (by rw [ho]; simp [Op.operands, Call.operands]; exact Array.mem_toList_iff.1 hx)
    rw [this]; exact h
  · cases h

theorem opW_local (e : ∀ x ∈ o.op.operands, ev τ x = ev σ x) (hm : ∀ r ob, getA σ.o r = some ob → getA τ.o r = some ob) {v : V} (h : opW P σ o = some v) : opW P τ o = some v := by
  unfold opW at *
  split at h
  · rename_i t parts ho
    have : (parts.toList.map fun p => (p.1, ev τ p.2)) = parts.toList.map fun p => (p.1, ev σ p.2) := List.map_congr_left fun p hp => by
      rw [e p.2 (by rw [ho]; simp only [Op.operands]; simp; exact ⟨p.1, Array.mem_toList_iff.1 hp⟩)]
    rw [this]; exact h
  · rename_i t n parts ho
    have : (parts.toList.map fun p => (p.1, ev τ p.2)) = parts.toList.map fun p => (p.1, ev σ p.2) := List.map_congr_left fun p hp => by
      rw [e p.2 (by rw [ho]; simp only [Op.operands]; simp; exact ⟨p.1, Array.mem_toList_iff.1 hp⟩)]
    rw [this]; exact h
  · exact opV_local e hm h

theorem OpE_local (e : ∀ x ∈ o.op.operands, ev τ x = ev σ x) (hd : τ.d = σ.d) (hm : ∀ r ob, getA σ.o r = some ob → getA τ.o r = some ob)
    {L : Store} (hm2 : ∀ f as ats, o.op = .call { callee := .value (.func f), args := as, argTypes := ats } → ∀ r ob, getA (selA as.toList L ++ σ.o) r = some ob → getA τ.o r = some ob) {v : V} {l : Store} (h : OpE P σ L o v l) : OpE P τ [] o v l := by
  unfold OpE at *
  split at h
  · rename_i f as ats ho
    split at h
    · rename_i N hN
      obtain ⟨xs, ret, h1, h2, h3, h4, h5⟩ := h
      have : as.toList.map (ev τ) = as.toList.map (ev σ) := List.map_congr_left fun x hx => e x (by rw [ho]; simp [Op.operands, Call.operands]; right; exact Array.mem_toList_iff.1 hx)
      exact ⟨xs, ret, by rw [this]; exact viewVs_more (hm2 f as ats ho) h1, h2, h3, by rw [hd]; exact h4, by rw [hd]; exact h5⟩
    · exact h.elim
  · split at h
    · obtain ⟨h1, h2⟩ := h
      exact ⟨by rw [hd]; exact h1, by unfold ptV at *; rw [hd]; exact h2⟩
    · exact h.elim
  · split at h
    · obtain ⟨h0, h1, h2⟩ := h
      exact ⟨h0, by rw [hd]; exact h1, by unfold slV at *; rw [hd]; exact h2⟩
    · exact h.elim
  · rename_i t n ps ho
    have hps : (ps.toList.map fun p => (p.1, ev τ p.2)) = ps.toList.map fun p => (p.1, ev σ p.2) := List.map_congr_left fun p hp => by
      rw [e p.2 (by rw [ho]; simp [Op.operands]; exact ⟨p.1, by simpa using hp⟩)]
    rw [hps]
    split at h
    · obtain ⟨h1, h2⟩ := h
      exact ⟨by rw [hd]; exact h1, by unfold slV at *; rw [hd]; exact h2⟩
    · exact ⟨opW_local e hm h.1, h.2⟩
  · exact ⟨opW_local e hm h.1, h.2⟩

theorem looks_ev (ht : ∀ t ∈ Oper.looksAt ops o, τ.t.getD t badV = σ.t.getD t badV) : (∀ x ∈ o.op.operands, ev τ x = ev σ x) ∧ gd τ ops o = gd σ ops o := by
  constructor
  · intro x hx
    cases x with
    | tmp t => exact ht t (by unfold Oper.looksAt; exact List.mem_append_left _ (List.mem_filterMap.2 ⟨.tmp t, Array.mem_toList_iff.2 hx, rfl⟩))
    | _ => rfl
  · unfold gd
    cases hg : o.guard with
    | none => rfl
    | some p =>
      obtain ⟨j, b⟩ := p
      simp only []
      cases hd : (ops[j]?).bind (·.dst) with
      | none => rfl
      | some d =>
        have := ht d (by unfold Oper.looksAt; rw [hg]; exact List.mem_append_right _ (by simp [hd]))
        simp only [this]

/-! ### the order of the text -/

theorem DRun_spec {K : St → Prop} : ∀ (l : List Oper) (σ : St) (L : Store), DRun P ops l σ L K →
    ∃ (res : Nat → V × Store) (pre : Nat → St) (LL : Nat → Store), pre 0 = σ ∧ LL 0 = L ∧
      (∀ j o, j < headLen l → l[j]? = some o → Stp P ops (pre j) (LL j) o (res j).1 (res j).2 ∧ pre (j + 1) = put (pre j) o.dst (res j).1 ∧ LL (j + 1) = (res j).2 ++ LL j ∧ freshR (LL j ++ σ.l) (res j).2 = true) ∧
      Wlist wop P ops (l.drop (headLen l)) { pre (headLen l) with l := LL (headLen l) ++ σ.l } K
  | [], σ, L, h => ⟨fun _ => (badV, []), fun _ => σ, fun _ => L, rfl, rfl, fun j o hj => by simp [headLen] at hj, h⟩
  | o :: l, σ, L, h => by
    simp only [DRun] at h
    split at h
    · rename_i he
      refine ⟨fun _ => (badV, []), fun _ => σ, fun _ => L, rfl, rfl, fun j o hj => by simp [headLen, he] at hj, ?_⟩
      simp only [headLen, he, if_true, List.drop_zero]; exact h
    rename_i he
    have hhl : headLen (o :: l) = headLen l + 1 := by simp only [headLen]; rw [if_neg he]
    rw [hhl]
    simp only [List.drop_succ_cons]
    split at h
    · rename_i hg
      obtain ⟨v, s, h1, h2, h3⟩ := h
      obtain ⟨res, pre, LL, e1, e2, e3, e4⟩ := DRun_spec l _ _ h3
      have hl : (put σ o.dst v).l = σ.l := by cases o.dst <;> rfl
      refine ⟨fun | 0 => (v, s) | j + 1 => res j, fun | 0 => σ | j + 1 => pre j, fun | 0 => L | j + 1 => LL j, rfl, rfl, fun j o' hjm hj => ?_, by rw [hl] at e4; exact e4⟩
      cases j with
      | zero =>
        simp only [List.getElem?_cons_zero, Option.some.injEq] at hj
        subst hj
        exact ⟨.inl ⟨hg, h1⟩, e1, e2, h2⟩
      | succ j =>
        have := e3 j o' (by omega) (by simpa using hj)
        rw [hl] at this
        exact this
    · rename_i hg
      obtain ⟨res, pre, LL, e1, e2, e3, e4⟩ := DRun_spec l _ _ h
      have hl : (put σ o.dst (.x (.one (.v (.tuple #[]))))).l = σ.l := by cases o.dst <;> rfl
      refine ⟨fun | 0 => ((.x (.one (.v (.tuple #[])))), []) | j + 1 => res j, fun | 0 => σ | j + 1 => pre j, fun | 0 => L | j + 1 => LL j, rfl, rfl, fun j o' hjm hj => ?_, by rw [hl] at e4; exact e4⟩
      cases j with
      | zero =>
        simp only [List.getElem?_cons_zero, Option.some.injEq] at hj
        subst hj
        exact ⟨.inr ⟨hg, rfl, rfl⟩, e1, e2, rfl⟩
      | succ j =>
        have := e3 j o' (by omega) (by simpa using hj)
        rw [hl] at this
        exact this
    · exact h.elim

structure Inv (n : Nat) (dst : Nat → Option Tmp) (res : Nat → V × Store) (σ : St) (S : Nat → Bool) (τ : St) : Prop where
  d : τ.d = σ.d
  g : τ.g = σ.g
  len : τ.t.length = σ.t.length
  set : ∀ i, i < n → S i = true → ∀ t, dst i = some t → t < σ.t.length → τ.t.getD t badV = (res i).1
  old : ∀ t, (∀ i, i < n → S i = true → dst i ≠ some t) → τ.t.getD t badV = σ.t.getD t badV
  lold : ∀ r ob, getA σ.l r = some ob → getA τ.l r = some ob
  lnew : ∀ i, i < n → S i = true → ∀ r ob, getA (res i).2 r = some ob → getA τ.l r = some ob
  lback : ∀ r ob, getA τ.l r = some ob → getA σ.l r = some ob ∨ ∃ i, i < n ∧ S i = true ∧ getA (res i).2 r = some ob

theorem getD_put {σ : St} {dst : Option Tmp} {v : V} (t : Tmp) : (put σ dst v).t.getD t badV = if dst = some t ∧ t < σ.t.length then v else σ.t.getD t badV := by
  cases dst with
  | none => simp [put]
  | some d =>
    simp only [put, List.getD_eq_getElem?_getD, List.getElem?_set, Option.some.injEq]
    by_cases h : d = t
    · subst h
      by_cases hl : d < σ.t.length
      · simp [hl]
      · simp [hl]
    · simp [h]

theorem put_len {σ : St} {dst : Option Tmp} {v : V} : (put σ dst v).t.length = σ.t.length := by cases dst <;> simp [put]
theorem put_d {σ : St} {dst : Option Tmp} {v : V} : (put σ dst v).d = σ.d := by cases dst <;> rfl
theorem put_g {σ : St} {dst : Option Tmp} {v : V} : (put σ dst v).g = σ.g := by cases dst <;> rfl
theorem put_l {σ : St} {dst : Option Tmp} {v : V} : (put σ dst v).l = σ.l := by cases dst <;> rfl

theorem pre_spec {dst : Nat → Option Tmp} {res : Nat → V × Store} {pre : Nat → St} (n : Nat) (h0 : pre 0 = σ) (hs : ∀ j, j < n → pre (j + 1) = put (pre j) (dst j) (res j).1)
    (hdis : ∀ i j, i < n → j < n → i ≠ j → dst i ≠ none → dst i ≠ dst j) :
    ∀ j, j ≤ n → (pre j).d = σ.d ∧ (pre j).g = σ.g ∧ (pre j).l = σ.l ∧ (pre j).t.length = σ.t.length ∧
      (∀ i, i < j → ∀ t, dst i = some t → t < σ.t.length → (pre j).t.getD t badV = (res i).1) ∧ (∀ t, (∀ i, i < j → dst i ≠ some t) → (pre j).t.getD t badV = σ.t.getD t badV) := by
  intro j
  induction j with
  | zero => intro _; rw [h0]; exact ⟨rfl, rfl, rfl, rfl, fun i hi => absurd hi (Nat.not_lt_zero _), fun _ _ => rfl⟩
  | succ j ih =>
    intro hj
    obtain ⟨i1, i2, i3, i4, i5, i6⟩ := ih (by omega)
    rw [hs j (by omega)]
    refine ⟨by rw [put_d, i1], by rw [put_g, i2], by rw [put_l, i3], by rw [put_len, i4], fun i hi t ht hlt => ?_, fun t ht => ?_⟩
    · rw [getD_put]
      by_cases e : i = j
      · subst e; rw [if_pos ⟨ht, by rw [i4]; exact hlt⟩]
      · rw [if_neg (fun h => hdis i j (by omega) (by omega) e (by rw [ht]; simp) (by rw [ht, h.1])), i5 i (by omega) t ht hlt]
    · rw [getD_put, if_neg (fun h => ht j (by omega) h.1), i6 t (fun i hi => ht i (by omega))]

end
end Go.Rx

/- A region whose operations may go in more than one order: the model's region comes to what the data's does. -/
namespace Go.Rx
open Go.RowKit

section
variable {P : Program} {w w0 w' : World} {g g0 gr : Gh} {σ τ : St} {a : Act} {ops : Array Oper} {o : Oper}

theorem freshR_of {l s : Store} (h : ∀ k, getA s k ≠ none → getA l k = none) : freshR l s = true := by
  induction s with
  | nil => rfl
  | cons x s ih =>
    obtain ⟨k, ob⟩ := x
    simp only [freshR, Bool.and_eq_true, Option.isNone_iff_eq_none]
    refine ⟨h k (by simp [getA]), ih fun k' hk' => h k' ?_⟩
    simp only [getA]
    split
    · simp
    · exact hk'

theorem allV_get {cs : List C} (h : allV cs = true) {j : Nat} (hj : j < cs.length) : ∃ x, cs.getD j .bad = .v x := by
  induction cs generalizing j with
  | nil => simp at hj
  | cons c cs ih =>
    cases c with
    | v x =>
      cases j with
      | zero => exact ⟨x, rfl⟩
      | succ j => simpa using ih h (by simpa using hj)
    | _ => cases h

/-- A new block that nobody will write. -/
theorem Rel.newS (h : Rel g0 w0 σ g a w) (ob : Obj) : Rel g0 w0 σ { g with S := fun k => g.S k ∨ k = w.heap.size } a (w.alloc ob) := by
  have hgoes : Goes w σ.o g (w.alloc ob) σ.o { g with S := fun k => g.S k ∨ k = w.heap.size } :=
    ⟨fun k hk => ⟨.inl hk, heap_alloc w _ k (h.heap.S k hk)⟩, fun r p m K hK => ⟨⟨K, hK, Nat.le_refl _⟩, rfl, fun b cs e f _ hb => ⟨cs, by rw [heap_alloc w _ b (block_lt hb)]; exact hb, rfl⟩⟩⟩
  refine ⟨h.defers, h.size, fun i hi => VR.goes hgoes (h.tmps i hi), ⟨?_, h.heap.none, h.heap.inj, ?_⟩, ⟨h.keep.os, h.keep.tape, h.keep.output, ?_, fun k hk => .inl (h.keep.S k hk), ?_⟩, h.loc, h.out, h.obj, h.maps.mono (fun r ob h1 h2 => ⟨ob, h1, rfl⟩) (fun b arr cl h1 h2 => ⟨by rw [heap_alloc w _ b (block_lt h1)]; exact h1, fun hs => hs.elim h2 fun e => Nat.lt_irrefl _ (e ▸ block_lt h1)⟩) (.ext (fun k hk _ => heap_alloc w _ k hk) (fun k hk hs => hs.elim id fun e => absurd hk (by omega)) fun r p m K k hl hG _ => ⟨_, _, _, _, hl, hG⟩), h.pin.goes hgoes fun _ ob h => ⟨ob, h⟩⟩
  · intro r p m K b hK hb
    obtain ⟨k1, k2, cs, e, f, k3, kf, k4, k5⟩ := h.heap.rows r p m K b hK hb
    refine ⟨fun hs => ?_, k2, cs, e, f, by rw [heap_alloc w _ b (block_lt k3)]; exact k3, kf, k4, fun i j hi hj => CR.goesAt hgoes hK hi (by rw [k2 i hi]; exact hj) (k5 i j hi hj)⟩
    rcases hs with hs | hs
    · exact k1 hs
    · have := block_lt k3; omega
  · intro k hk
    rcases hk with hk | hk
    · have := h.heap.S k hk; simp; omega
    · subst hk; simp
  · have := h.keep.size; simp; omega
  · intro k hk
    rw [heap_alloc w _ k (h.heap.S k (h.keep.S k hk))]
    exact h.keep.block k hk

theorem buildW_run (h : Rel g0 w0 σ g a w) {t : TypeId} {n : Nat} {ps : Array (Nat × Operand)} {v : V} (hs : buildW P t n (ps.toList.map fun p => (p.1, ev σ p.2)) = some v) :
    ∃ z w1 g1, (Instr.buildSlice t n (ps.map fun (i, x) => (i, a.eval x))).run P w = .ok z w1 ∧ Rel g0 w0 σ g1 a w1 ∧ VR w1 σ.o g1 v z := by
  unfold buildW at hs
  split at hs
  case h_2 => cases hs
  rename_i e he
  split at hs
  case h_2 => cases hs
  rename_i zs sz R hz hsz hR
  split at hs
  case isFalse => cases hs
  rename_i hc
  obtain ⟨c2, c3, c4, c5, c6, c7⟩ := hc
  cases hs
  obtain ⟨p1, p2⟩ := partsOk_rel h ps.toList 0 R hR
  have hrow : ∀ k, k < R.length → (R.getD k []).length = sz := fun k hk => by
    unfold sized at c6
    rw [List.all_eq_true] at c6
    have := c6 (R.getD k []) (by rw [List.getD_eq_getElem?_getD, List.getElem?_eq_getElem hk]; exact List.getElem_mem hk)
    simpa using this
  unfold tyZero at hz
  simp only [Option.map_eq_some_iff, Option.bind_eq_some_iff] at hz
  obtain ⟨zv, ⟨i, hi, hzv⟩, rfl⟩ := hz
  have hps : (ps.map fun (i, x) => (i, a.eval x)).toList = ps.toList.map fun p => (p.1, a.eval p.2) := by simp
  let A0 : Array Value := (Array.range (n * sz)).map (fun q => zv.cells[q % zv.cells.size]!)
  have hA0 : A0.size = n * sz := by simp [A0]
  obtain ⟨B, b1, b2, _, b4⟩ := fill_rows sz (ps.toList.map fun p => (p.1, a.eval p.2)) 0 A0 (fun k hk => by
    obtain ⟨v, v1, v2, _⟩ := p2 k (by simpa using hk)
    exact ⟨v, v1, by rw [hrow k (by rw [p1]; simpa using hk)] at v2; simpa using v2⟩) (by rw [hA0, List.length_map, ← p1, c4, Nat.zero_add]; exact Nat.le_refl _)
  have hrun : (Instr.buildSlice t n (ps.map fun (i, x) => (i, a.eval x))).run P w = .ok (.slice (some ⟨w.heap.size, 0, none⟩) n n) (w.alloc (.cells B e)) := by
    have hts := tySz_run hsz w
    by_cases h0 : n * sz = 0
    · have hn : n = 0 := by rcases Nat.mul_eq_zero.1 h0 with h | h <;> omega
      subst hn
      have hpe : ps = #[] := by
        have : ps.toList.length = 0 := by rw [← p1, c4]
        apply Array.ext'; simpa using this
      subst hpe
      have hB : B = #[] := by
        have : B.size = 0 := by rw [b2, hA0]; simp
        exact Array.eq_empty_of_size_eq_zero this
      subst hB
      simp [Instr.buildSlice, run_underlying (tyElem_spec he), hts, Instr.fill, newRow]
      exact congrArg (fun c => w.alloc (.cells c e)) (Array.eq_empty_of_size_eq_zero (by simp))
    · have hle : ¬ (n * sz > 2 ^ 24) := by omega
      have hzr : (zeroValue e).run P w = .ok zv w := by simp [zeroValue, typeInfo, hi, hzv]
      have hb1 : Instr.fill (fun i => some (i * sz, sz)) ((Array.range (n * sz)).map fun q => zv.cells[q % zv.cells.size]!) (ps.toList.map fun p => (p.1, a.eval p.2)) = some B := b1
      simp only [Instr.buildSlice, Sem.run_bind, run_underlying (tyElem_spec he), Result.andThen_ok, hts, if_neg hle, if_neg h0, hzr, Sem.run_pure, hps, hb1, newRow]
      rfl
  have hval : ∀ i j, i < n → j < sz → ∃ x, cellAt R i j = .v x := fun i j hi' hj => by
    have hi2 : i < R.length := by omega
    have hrl := hrow i hi2
    have hmem : R.getD i [] ∈ R := by rw [List.getD_eq_getElem?_getD, List.getElem?_eq_getElem hi2]; exact List.getElem_mem hi2
    exact allV_get (List.all_eq_true.1 c7 _ hmem) (by rw [hrl]; exact hj)
  refine ⟨_, _, _, hrun, h.newS _, ?_⟩
  have hm : n ≤ maxLen := by
    have : n * 1 ≤ n * sz := Nat.mul_le_mul_left _ c3
    simp only [maxLen]; omega
  refine Sh.slice sz R ⟨w.heap.size, 0, none⟩ n n (fun i j => B.getD (i * sz + j) undef) c4 (Nat.le_refl _) hm (fun _ => .inr rfl) (fun i hi' => hrow i (by omega)) (fun i j hi' hj => ?_) (fun i j hi' hj => ?_)
  · have hlt : i * sz + j < B.size := by
      have : (i + 1) * sz ≤ n * sz := Nat.mul_le_mul_right _ (by omega)
      rw [Nat.add_mul, Nat.one_mul] at this
      rw [b2, hA0]; omega
    rw [add_lit, add_lit, Nat.zero_add]
    have hb := heap_alloc_new w (.cells B e)
    simp only [World.cell?, hb]
    simp [Array.getD, hlt]
  · obtain ⟨x, hx⟩ := hval i j hi' hj
    rw [hx]
    obtain ⟨v, v1, v2, v3⟩ := p2 i (by omega)
    have h1 := b4 i j v v1 hj
    rw [Nat.zero_add] at h1
    have h2 := v3 j (by rw [hrow i (by omega)]; exact hj)
    rw [hx] at h2
    have h3 : v.cells.toList.getD j undef = x := h2
    show Sh _ _ (.v x) (B.getD (i * sz + j) undef)
    rw [h1, h3]
    exact Sh.v x

theorem opW_sound {v : V} (hv : opW P σ o = some v) (hr : Rel g0 w0 σ g a w) {N : Act → World → Prop} {Q : Exit → Act → World → Prop}
    (hk : ∀ g' a' w', Rel g0 w0 (put σ o.dst v) g' a' w' → N a' w') : o.wp P a w N Q := by
  unfold opW at hv
  split at hv
  · rename_i t parts ho
    obtain ⟨z, h1, h2⟩ := buildV_run hr hv
    have hrun : (execOp a.eval o).run P w = .ok (.value z) w := by simp only [execOp, ho]; rw [Sem.run_bind, h1]; rfl
    unfold Oper.wp; rw [hrun, Oper.upon_value]
    exact hk _ _ _ (hr.put o.dst h2)
  · rename_i t n parts ho
    obtain ⟨z, w1, g1, h1, h2, h3⟩ := buildW_run hr hv
    have hrun : (execOp a.eval o).run P w = .ok (.value z) w1 := by simp only [execOp, ho]; rw [Sem.run_bind, h1]; rfl
    unfold Oper.wp; rw [hrun, Oper.upon_value]
    exact hk _ _ _ (h2.put o.dst h3)
  · obtain ⟨z, h1, h2⟩ := opV_run hr hv
    unfold Oper.wp; rw [h1, Oper.upon_value]
    exact hk _ _ _ (hr.put o.dst h2)
theorem OpE_sound [Tb P g0 w0] {v : V} {l : Store} (h : OpE P σ [] o v l) (hf : freshR σ.l l = true) (hr : Rel g0 w0 σ g a w) {N : Act → World → Prop} {Q : Exit → Act → World → Prop}
    (hk : ∀ g' a' w', Rel g0 w0 (put { σ with l := l ++ σ.l } o.dst v) g' a' w' → N a' w') : o.wp P a w N Q := by
  unfold OpE at h
  split at h
  · rename_i f as ats ho
    split at h
    · rename_i n hdst
      obtain ⟨xs, ret, h1, ⟨⟨fn, hfn, hname, hbody⟩, h2⟩, h3, rfl, rfl⟩ := h
      have hb : fn.body ≠ none := fun e => by simp [e] at hbody
      have hrun : (execOp a.eval o).run P w = .ok (.enter f (as.map a.eval)) w := by
        simp [execOp, ho, resolve, Deferred.ofValue, Act.eval, invoke, callFunc, program, hfn, hname, hb, Sem.run]
      obtain ⟨e1, e2⟩ := viewVs_rel hr as.toList xs h1
      have := hr.tb (P := P)
      have hc := h2 w (as.toList.map a.eval) (by simp [e1]) e2
      unfold Oper.wp
      rw [hrun, Oper.upon_enter]
      have hargs : (as.toList.map a.eval).toArray = as.map a.eval := by apply Array.ext'; simp
      rw [hargs] at hc
      refine hc.mono fun e w' he => ?_
      obtain ⟨gr, zs, rfl, hret, hkeep⟩ := he
      obtain ⟨g', k1, k2, _⟩ := hr.take hkeep hret (Bool.and_eq_true_iff.1 h3).1 n hf
      exact hk g' _ _ (k1.put o.dst k2)
    · exact h.elim
  · rename_i t ho
    split at h
    · rename_i N zs hN hz
      obtain ⟨rfl, rfl⟩ := h
      have hs : allocS P σ (some N) t = some (put (newSt σ N ⟨.box, zs.length, [zs.map .v]⟩) (some N) (ptV σ N zs.length)) := by
        unfold allocS
        simp only [hz]
        rw [if_pos (by simpa [freshR, fresh] using hf)]
      obtain ⟨z, w1, g1, h1, h2⟩ := allocS_run hr hs
      have hrun : (execOp a.eval o).run P w = .ok (.value z) w1 := by
        simp only [execOp, ho]; rw [Sem.run_bind, h1]; rfl
      unfold Oper.wp; rw [hrun, Oper.upon_value, hN]
      exact hk _ _ _ (by rw [hN]; exact h2)
    · exact h.elim
  · rename_i t ps ho
    split at h
    · rename_i N sz hN hz
      obtain ⟨rfl, rfl, rfl⟩ := h
      have hs : buildS P σ (some N) t 0 ((#[] : Array (Nat × Operand)).toList.map fun p => (p.1, ev σ p.2)) = some (put (newSt σ N ⟨.sl, sz, []⟩) (some N) (slV σ N sz 0)) := lit0_buildS hz (by simpa [freshR, fresh] using hf)
      obtain ⟨z, w1, g1, h1, h2⟩ := buildS_run hr hs
      have hrun : (execOp a.eval o).run P w = .ok (.value z) w1 := by
        simp only [execOp, ho]; rw [Sem.run_bind, h1]; rfl
      unfold Oper.wp; rw [hrun, Oper.upon_value, hN]
      exact hk _ _ _ (by rw [hN]; exact h2)
    · exact h.elim
  · rename_i t n ps ho
    split at h
    · rename_i N p hN hz
      obtain ⟨rfl, rfl⟩ := h
      have hs := litR_buildS (σ := σ) (N := N) hz (by simpa [freshR, fresh] using hf)
      obtain ⟨z, w1, g1, h1, h2⟩ := buildS_run hr hs
      have hrun : (execOp a.eval o).run P w = .ok (.value z) w1 := by
        simp only [execOp, ho]; rw [Sem.run_bind, h1]; rfl
      unfold Oper.wp; rw [hrun, Oper.upon_value, hN]
      exact hk _ _ _ (by rw [hN]; exact h2)
    · obtain ⟨hv, rfl⟩ := h
      exact opW_sound hv hr hk
  · obtain ⟨hv, rfl⟩ := h
    exact opW_sound hv hr hk

structure Chk (ops : Array Oper) (m : Nat) : Prop where
  le : m ≤ ops.size
  edge : ∀ (j : Nat) (o : Oper), ops[j]? = some o → ∀ e ∈ o.after, Region.binds .any e = true → e.on < j
  dis : ∀ (i j : Nat) (o o' : Oper), j < m → i < m → ops[j]? = some o → ops[i]? = some o' → i ≠ j → o.dst ≠ none → o.dst ≠ o'.dst
  look : ∀ (i j : Nat) (o o' : Oper), j < m → i < m → ops[j]? = some o → ops[i]? = some o' → i ≠ j → ∀ t ∈ Oper.looksAt ops o, o'.dst = some t → (i < j ∧ hasEdge o i = true) ∨ (j < i ∧ hasEdge o' j = true)
  last : ∀ (j : Nat) (o : Oper), m ≤ j → ops[j]? = some o → ∀ i, i < j → hasEdge o i = true

theorem headLen_le : ∀ l : List Oper, headLen l ≤ l.length
  | [] => Nat.le_refl _
  | o :: l => by
    simp only [headLen]
    split
    · exact Nat.zero_le _
    · have := headLen_le l; simp; omega

theorem headO_eq : ∀ (l : List Oper) (k : Nat), headO (l.zipIdx k) = (l.zipIdx k).take (headLen l) ∧ tailO (l.zipIdx k) = (l.zipIdx k).drop (headLen l)
  | [], k => by simp [headO, tailO, headLen]
  | o :: l, k => by
    obtain ⟨h1, h2⟩ := headO_eq l (k + 1)
    unfold headO tailO at *
    simp only [List.zipIdx_cons, headLen]
    cases he : isEff o.op with
    | true => simp [he]
    | false => simp [he, h1, h2]

theorem drawOk_chk (h : drawOk ops = true) : Chk ops (headLen ops.toList) := by
  have hle : headLen ops.toList ≤ ops.size := by have := headLen_le ops.toList; simpa using this
  have hget : ∀ (j : Nat) (o : Oper), ops[j]? = some o → ops.toList.zipIdx[j]? = some (o, j) := fun j o hj => by
    rw [List.getElem?_zipIdx]; simp [hj]
  obtain ⟨e1, e2⟩ := headO_eq ops.toList 0
  have keyH : ∀ (j : Nat) (o : Oper), j < headLen ops.toList → ops[j]? = some o → (o, j) ∈ headO ops.toList.zipIdx := fun j o hm hj => by
    rw [e1]
    refine List.mem_of_getElem? (i := j) ?_
    rw [List.getElem?_take, if_pos hm]; exact hget j o hj
  have keyT : ∀ (j : Nat) (o : Oper), headLen ops.toList ≤ j → ops[j]? = some o → (o, j) ∈ tailO ops.toList.zipIdx := fun j o hm hj => by
    rw [e2]
    refine List.mem_of_getElem? (i := j - headLen ops.toList) ?_
    rw [List.getElem?_drop, show headLen ops.toList + (j - headLen ops.toList) = j by omega]; exact hget j o hj
  unfold drawOk at h
  rw [Bool.and_eq_true, List.all_eq_true, List.all_eq_true] at h
  obtain ⟨hH, hT⟩ := h
  refine ⟨hle, fun j o hj e he hb => ?_, fun i j o o' hjm him hj hi hne hd => ?_, fun i j o o' hjm him hj hi hne t ht hd => ?_, fun j o hm hj i hi => ?_⟩
  · have hok : edgesOk o j = true := by
      rcases Nat.lt_or_ge j (headLen ops.toList) with hm | hm
      · have := hH _ (keyH j o hm hj); rw [Bool.and_eq_true] at this; exact this.1
      · have := hT _ (keyT j o hm hj); rw [Bool.and_eq_true] at this; exact this.1
    unfold edgesOk at hok
    rw [Bool.and_eq_true, Array.all_eq_true'] at hok
    have := hok.1 e he
    simpa [hb] using this
  · have := hH _ (keyH j o hjm hj)
    rw [Bool.and_eq_true, List.all_eq_true] at this
    have := this.2 _ (keyH i o' him hi)
    simp only [Bool.and_eq_true, Bool.or_eq_true, beq_iff_eq, Option.isNone_iff_eq_none, Bool.not_eq_true'] at this
    rcases this.1 with (h1 | h1) | h1
    · exact absurd h1 hne
    · exact absurd h1 hd
    · simpa using h1
  · have := hH _ (keyH j o hjm hj)
    rw [Bool.and_eq_true, List.all_eq_true] at this
    have := this.2 _ (keyH i o' him hi)
    rw [Bool.and_eq_true, List.all_eq_true] at this
    have := this.2 t ht
    simp only [Bool.or_eq_true, Bool.and_eq_true, beq_iff_eq, decide_eq_true_eq, Bool.not_eq_true', hd] at this
    rcases this with ((h1 | h1) | h1) | h1
    · simp at h1
    · exact absurd h1 hne
    · exact .inl h1
    · exact .inr h1
  · have := hT _ (keyT j o hm hj)
    rw [Bool.and_eq_true, List.all_eq_true] at this
    exact this.2 i (List.mem_range.2 hi)

theorem hasEdge_spec {i : Nat} (h : hasEdge o i = true) : ∃ e ∈ o.after, e.on = i ∧ Region.binds .any e = true := by
  unfold hasEdge at h
  rw [Array.any_eq_true'] at h
  obtain ⟨e, he, h⟩ := h
  simp only [Bool.and_eq_true, beq_iff_eq] at h
  exact ⟨e, he, h.1, h.2⟩

theorem ready_spec {listed : Array Bool} {j : Nat} (h : j ∈ Region.ready .any ops listed) : ∃ o, ops[j]? = some o ∧ listed.getD j true = false ∧ ∀ e ∈ o.after, Region.binds .any e = true → listed.getD e.on false = true := by
  unfold Region.ready at h
  simp only [List.mem_filter, List.mem_range, Bool.and_eq_true, Bool.not_eq_true'] at h
  obtain ⟨h1, h2, h3⟩ := h
  refine ⟨ops[j], by simp [h1], h2, fun e he hb => ?_⟩
  simp only [Array.getElem?_eq_getElem h1, Option.map_some, Option.getD_some] at h3
  rw [Array.all_eq_true'] at h3
  have := h3 e he
  simpa [hb] using this

theorem ready_of {listed : Array Bool} {j : Nat} {o : Oper} (ho : ops[j]? = some o) (hl : listed.getD j true = false) (hp : ∀ e ∈ o.after, Region.binds .any e = true → listed.getD e.on false = true) : j ∈ Region.ready .any ops listed := by
  unfold Region.ready
  have hlt : j < ops.size := by
    rcases Nat.lt_or_ge j ops.size with h | h
    · exact h
    · rw [Array.getElem?_eq_none h] at ho; cases ho
  simp only [List.mem_filter, List.mem_range, Bool.and_eq_true, Bool.not_eq_true']
  refine ⟨hlt, hl, ?_⟩
  rw [ho, Option.map_some, Option.getD_some, Array.all_eq_true']
  intro e he
  by_cases hb : Region.binds .any e = true
  · simp [hb, hp e he hb]
  · simp [hb]

def unlisted (listed : Array Bool) : Nat := listed.toList.countP (fun b => !b)

theorem LL_has {res : Nat → V × Store} {LL : Nat → Store} {n : Nat} (hs : ∀ j, j < n → LL (j + 1) = (res j).2 ++ LL j) {i : Nat} {r : Root} (hr : getA (res i).2 r ≠ none) :
    ∀ k, i < k → k ≤ n → getA (LL k) r ≠ none := by
  intro k
  induction k with
  | zero => intro h; omega
  | succ k ih =>
    intro h1 h2
    rw [hs k (by omega), getA_append]
    by_cases e : i = k
    · subst e
      cases h : getA (res i).2 r with
      | none => exact absurd h hr
      | some ob => simp
    · have := ih (by omega) (by omega)
      split
      · simp
      · exact this

theorem LL_from {res : Nat → V × Store} {LL : Nat → Store} {n : Nat} (h0 : LL 0 = []) (hs : ∀ j, j < n → LL (j + 1) = (res j).2 ++ LL j) {r : Root} {ob : Obj'} :
    ∀ k, k ≤ n → getA (LL k) r = some ob → ∃ i, i < k ∧ getA (res i).2 r = some ob := by
  intro k
  induction k with
  | zero => intro _ h; rw [h0] at h; cases h
  | succ k ih =>
    intro h1 h2
    rw [hs k (by omega), getA_append] at h2
    split at h2
    · rename_i ob' h3; cases h2; exact ⟨k, by omega, h3⟩
    · obtain ⟨i, h3, h4⟩ := ih (by omega) h2; exact ⟨i, by omega, h4⟩

theorem same64 {a b q : Nat} (h1 : a * 64 ≤ b * 64 + q) (h2 : b * 64 + q < a * 64 + 64) (_ : q < 64) : b = a := by omega
theorem selA_get {as : List Operand} {L : Store} {r : Root} {ob : Obj'} (h : getA (selA as L) r = some ob) : hasA as r.2 = true ∧ getA L r = some ob := by
  induction L with
  | nil => cases h
  | cons e L ih =>
    obtain ⟨k, o⟩ := e
    simp only [selA] at h
    simp only [getA]
    split at h
    · rename_i hk
      simp only [getA] at h
      split at h
      · rename_i e; rw [if_pos e]; exact ⟨e ▸ hk, h⟩
      · rename_i e; rw [if_neg e]; exact ih h
    · rename_i hk
      obtain ⟨h1, h2⟩ := ih h
      split
      · rename_i e; exact absurd (e ▸ h1) hk
      · exact ⟨h1, h2⟩
theorem hasA_get : ∀ {as : List Operand} {n : Nat}, hasA as n = true → ∃ t, Operand.tmp t ∈ as ∧ t * 64 ≤ n ∧ n < t * 64 + 64
  | [], n, h => by cases h
  | x :: as, n, h => by
    simp only [hasA, Bool.or_eq_true] at h
    rcases h with h | h
    · cases x with
      | tmp t => simp only [opT, Bool.and_eq_true, decide_eq_true_eq] at h; exact ⟨t, .head _, h.1, h.2⟩
      | _ => simp [opT] at h
    · obtain ⟨t, h1, h2⟩ := hasA_get h
      exact ⟨t, .tail _ h1, h2⟩
theorem OpE_roots {L l : Store} {v : V} (h : OpE P σ L o v l) {r : Root} {ob : Obj'} (hr : getA l r = some ob) : ∃ N, o.dst = some N ∧ ∃ q : Nat, q < 64 ∧ r = (σ.d, N * 64 + q) := by
  unfold OpE at h
  split at h
  · split at h
    · rename_i N hN
      obtain ⟨xs, ret, _, _, h3, rfl, _⟩ := h
      obtain ⟨i, sz, R, h5, _, h6, _⟩ := getA_newRoots _ _ _ _ _ _ hr
      have h7 := (Bool.and_eq_true_iff.1 h3).2
      simp only [short, decide_eq_true_eq] at h7
      exact ⟨N, hN, i, by omega, by rw [h6, Nat.zero_add]⟩
    · exact h.elim
  · split at h
    · rename_i N zs hN hz
      rw [h.1] at hr
      simp only [getA] at hr
      split at hr
      · rename_i he
        exact ⟨N, hN, 0, by omega, he.symm⟩
      · cases hr
    · exact h.elim
  · split at h
    · rename_i N sz hN hz
      rw [h.2.1] at hr
      simp only [getA] at hr
      split at hr
      · rename_i he
        exact ⟨N, hN, 0, by omega, he.symm⟩
      · cases hr
    · exact h.elim
  · split at h
    · rename_i N p hN hz
      rw [h.1] at hr
      simp only [getA] at hr
      split at hr
      · rename_i he
        exact ⟨N, hN, 0, by omega, he.symm⟩
      · cases hr
    · rw [h.2] at hr; cases hr
  · rw [h.2] at hr; cases hr

theorem draw_main [Tb P g0 w0] {m : Nat} (hc : Chk ops m) {res : Nat → V × Store} {pre : Nat → St} {LL : Nat → Store} (h0 : pre 0 = σ) (_ : LL 0 = [])
    (hs : ∀ j o, j < m → ops[j]? = some o → Stp P ops (pre j) (LL j) o (res j).1 (res j).2 ∧ pre (j + 1) = put (pre j) o.dst (res j).1 ∧ LL (j + 1) = (res j).2 ++ LL j ∧ freshR (LL j ++ σ.l) (res j).2 = true)
    {Q : Exit → Act → World → Prop} (hfin : ∀ (fuel : Nat) (listed : Array Bool) τ g a w, listed.size = ops.size → unlisted listed = fuel → (∀ i, i < m → listed.getD i true = true) → (∀ i, m ≤ i → i < ops.size → listed.getD i true = false) →
      Inv m (fun i => (ops[i]?).bind (·.dst)) res σ (fun _ => true) τ → Rel g0 w0 τ g a w → wpAny P .any ops Q fuel listed a w) :
    ∀ (fuel : Nat) (listed : Array Bool), listed.size = ops.size → unlisted listed = fuel →
      (∀ j o, ops[j]? = some o → listed.getD j true = true → ∀ e ∈ o.after, Region.binds .any e = true → listed.getD e.on false = true) →
      (∀ i, m ≤ i → i < ops.size → listed.getD i true = false) →
      ∀ τ g a w, Inv m (fun i => (ops[i]?).bind (·.dst)) res σ (fun i => listed.getD i true) τ → Rel g0 w0 τ g a w → wpAny P .any ops Q fuel listed a w := by
  let n := m
  have hmsz := hc.le
  let dst : Nat → Option Tmp := fun i => (ops[i]?).bind (·.dst)
  have hop : ∀ j, j < n → ops[j]? = some (ops[j]!) := fun j hj => by
    have : j < ops.size := Nat.lt_of_lt_of_le hj hmsz
    simp [this]
  have hs' : ∀ j, j < n → ∃ o, ops[j]? = some o ∧ dst j = o.dst ∧ Stp P ops (pre j) (LL j) o (res j).1 (res j).2 ∧ pre (j + 1) = put (pre j) o.dst (res j).1 ∧ LL (j + 1) = (res j).2 ++ LL j ∧ freshR (LL j ++ σ.l) (res j).2 = true := fun j hj =>
    ⟨_, hop j hj, by simp [dst, hop j hj], hs j _ hj (hop j hj)⟩
  have hdis : ∀ i j, i < n → j < n → i ≠ j → dst i ≠ none → dst i ≠ dst j := fun i j hi hj hne hd => by
    simp only [dst, hop i hi, hop j hj, Option.bind_some] at hd ⊢
    exact hc.dis j i _ _ hi hj (hop i hi) (hop j hj) (fun e => hne e.symm) hd
  have hpre := pre_spec (σ := σ) (dst := dst) (res := res) (pre := pre) n h0 (fun j hj => by obtain ⟨o, _, e, _, e2, _⟩ := hs' j hj; rw [e, e2]) hdis
  have hLLs : ∀ j, j < n → LL (j + 1) = (res j).2 ++ LL j := fun j hj => by obtain ⟨_, _, _, _, _, e, _⟩ := hs' j hj; exact e
  have hfr : ∀ j, j < n → ∀ r, getA (res j).2 r ≠ none → getA σ.l r = none ∧ ∀ i, i < n → i ≠ j → getA (res i).2 r = none := by
    intro j hj r hr
    obtain ⟨_, _, _, _, _, _, hf⟩ := hs' j hj
    have base : ∀ j, j < n → ∀ r, getA (res j).2 r ≠ none → getA (LL j ++ σ.l) r = none := fun j hj r hr => by
      obtain ⟨_, _, _, _, _, _, hf⟩ := hs' j hj
      obtain ⟨ob, hob⟩ := Option.ne_none_iff_exists'.1 hr
      exact freshR_spec hf hob
    have h1 := base j hj r hr
    rw [getA_append] at h1
    have h2 : getA (LL j) r = none := by
      cases h : getA (LL j) r with
      | none => rfl
      | some ob => rw [h] at h1; cases h1
    refine ⟨by rw [h2] at h1; exact h1, fun i hi hne => ?_⟩
    cases hri : getA (res i).2 r with
    | none => rfl
    | some ob =>
      exfalso
      rcases Nat.lt_trichotomy i j with hlt | heq | hgt
      · exact LL_has hLLs (by rw [hri]; simp) j hlt (by omega) h2
      · exact hne heq
      · have h3 := base i hi r (by rw [hri]; simp)
        rw [getA_append] at h3
        have := LL_has hLLs hr i hgt (by omega)
        cases h : getA (LL i) r with
        | none => exact this h
        | some ob => rw [h] at h3; cases h3
  have done : ∀ (fuel : Nat) (listed : Array Bool) τ g a w, listed.size = ops.size → unlisted listed = fuel → (∀ i, m ≤ i → i < ops.size → listed.getD i true = false) → (∀ i, i < m → listed.getD i true = true) →
      Inv m (fun i => (ops[i]?).bind (·.dst)) res σ (fun i => listed.getD i true) τ → Rel g0 w0 τ g a w → wpAny P .any ops Q fuel listed a w := by
    intro fuel listed τ g a w hsz hun hB hall hinv hr
    refine hfin fuel listed τ g a w hsz hun hall hB ⟨hinv.d, hinv.g, hinv.len, fun i hi _ => hinv.set i hi (hall i hi), fun t ht => hinv.old t fun i hi _ => ht i hi rfl, hinv.lold, fun i hi _ => hinv.lnew i hi (hall i hi), fun r ob h => ?_⟩ hr
    rcases hinv.lback r ob h with h1 | ⟨i, hi, _, h1⟩
    · exact .inl h1
    · exact .inr ⟨i, hi, rfl, h1⟩
  intro fuel
  induction fuel with
  | zero =>
    intro listed hsz hun hcl hB τ g a w hinv hr
    have hall : ∀ i, listed.getD i true = true := by
      intro i
      simp only [unlisted, List.countP_eq_zero] at hun
      by_cases hi : i < listed.size
      · have := hun listed[i] (by simp)
        simpa [Array.getD, hi] using this
      · simp [Array.getD, hi]
    exact done 0 listed τ g a w hsz hun hB (fun i _ => hall i) hinv hr
  | succ fuel ih =>
    intro listed hsz hun hcl hB τ g a w hinv hr
    by_cases hall : ∀ i, i < m → listed.getD i true = true
    · exact done _ listed τ g a w hsz hun hB hall hinv hr
    have hsome : ∃ j, j < n ∧ listed.getD j true = false := by
      have := Classical.not_forall.1 hall
      obtain ⟨j, hj⟩ := this
      obtain ⟨h1, h2⟩ := Classical.not_imp.1 hj
      exact ⟨j, h1, by simpa using h2⟩
    constructor
    · intro hnil
      exfalso
      have hex := hsome
      have hmin : ∃ j, j < n ∧ listed.getD j true = false ∧ ∀ i, i < j → listed.getD i true = true := by
        obtain ⟨j, hj⟩ := hex
        induction j using Nat.strongRecOn with
        | _ j ihj =>
          by_cases h : ∃ i, i < j ∧ listed.getD i true = false
          · obtain ⟨i, h1, h2⟩ := h
            exact ihj i h1 ⟨by omega, h2⟩
          · refine ⟨j, hj.1, hj.2, fun i hi => ?_⟩
            cases hb : listed.getD i true with
            | true => rfl
            | false => exact absurd ⟨i, hi, hb⟩ h
      obtain ⟨j, hj1, hj2, hj3⟩ := hmin
      have : j ∈ Region.ready .any ops listed := ready_of (hop j hj1) hj2 fun e he hb => by
        have hlt := hc.edge j _ (hop j hj1) e he hb
        have := hj3 e.on hlt
        have hlt2 : e.on < listed.size := by rw [hsz]; exact Nat.lt_of_lt_of_le (Nat.lt_trans hlt hj1) hmsz
        simpa [Array.getD, hlt2] using this
      rw [hnil] at this
      cases this
    · intro j hj
      obtain ⟨o, ho, hlj, hpred⟩ := ready_spec hj
      have hjn : j < n := by
        rcases Nat.lt_or_ge j m with h | h
        · exact h
        · exfalso
          obtain ⟨i, hi1, hi2⟩ := hsome
          obtain ⟨e, he1, he2, he3⟩ := hasEdge_spec (hc.last j o h ho i (Nat.lt_of_lt_of_le hi1 h))
          have h3 := hpred e he1 he3
          rw [he2] at h3
          have hil : i < listed.size := by rw [hsz]; exact Nat.lt_of_lt_of_le hi1 hmsz
          simp [Array.getD, hil] at hi2 h3
          rw [hi2] at h3; cases h3
      have hjl : j < listed.size := by rw [hsz]; exact Nat.lt_of_lt_of_le hjn hmsz
      obtain ⟨p1, p2, p3, p4, p5, p6⟩ := hpre j (Nat.le_of_lt hjn)
      obtain ⟨hstp, _, _, _⟩ := hs j o hjn ho
      have hin : ∀ k, listed.getD k false = true → listed.getD k true = true := fun k hk => by
        by_cases h : k < listed.size
        · simpa [Array.getD, h] using hk
        · simp [Array.getD, h]
      -- what the operation looks at
      have hlook : ∀ t ∈ Oper.looksAt ops o, τ.t.getD t badV = (pre j).t.getD t badV := by
        intro t ht
        by_cases hlen : t < σ.t.length
        · by_cases hex : ∃ i, i < n ∧ i ≠ j ∧ dst i = some t
          · obtain ⟨i, hi, hne, hd⟩ := hex
            have hd' : (ops[i]!).dst = some t := by simpa [dst, hop i hi] using hd
            rcases hc.look i j o _ hjn hi ho (hop i hi) hne t ht hd' with ⟨hlt, he⟩ | ⟨hlt, he⟩
            · obtain ⟨e, he1, he2, he3⟩ := hasEdge_spec he
              have hSi : listed.getD i true = true := hin i (he2 ▸ hpred e he1 he3)
              rw [hinv.set i hi hSi t hd hlen, p5 i hlt t hd hlen]
            · obtain ⟨e, he1, he2, he3⟩ := hasEdge_spec he
              have hSi : ¬ listed.getD i true = true := fun hSi => by
                have := hin _ (he2 ▸ hcl i _ (hop i hi) hSi e he1 he3)
                rw [hlj] at this; cases this
              have huniq : ∀ k, k < n → dst k = some t → k = i := fun k hk hdk => by
                by_cases e : k = i
                · exact e
                · exact absurd (hdk.trans hd.symm) (hdis k i hk hi e (by rw [hdk]; simp))
              rw [hinv.old t (fun k hk hSk hdk => hSi (huniq k hk hdk ▸ hSk)), p6 t (fun k hk hdk => by have := huniq k (by omega) hdk; omega)]
          · have hno : ∀ k, k < n → k ≠ j → dst k ≠ some t := fun k hk hne hd => hex ⟨k, hk, hne, hd⟩
            rw [hinv.old t (fun k hk hSk hdk => by
              by_cases e : k = j
              · subst e; rw [hlj] at hSk; cases hSk
              · exact hno k hk e hdk), p6 t (fun k hk => hno k (by omega) (by omega))]
        · have h1 : τ.t.length ≤ t := by rw [hinv.len]; exact Nat.le_of_not_lt hlen
          have h2 : (pre j).t.length ≤ t := by rw [p4]; exact Nat.le_of_not_lt hlen
          simp [List.getD_eq_getElem?_getD, List.getElem?_eq_none h1, List.getElem?_eq_none h2]
      obtain ⟨hev, hgd⟩ := looks_ev (σ := pre j) (τ := τ) hlook
      have hmore : ∀ r ob, getA (pre j).o r = some ob → getA τ.o r = some ob := by
        intro r ob hrob
        have hrob' : getA ((pre j).l ++ (pre j).g) r = some ob := hrob
        rw [p3, p2, getA_append] at hrob'
        show getA (τ.l ++ τ.g) r = some ob
        rw [getA_append]
        cases hl : getA σ.l r with
        | some ob' =>
          rw [hl] at hrob'
          rw [hinv.lold r ob' hl]; exact hrob'
        | none =>
          rw [hl] at hrob'
          have hg' : getA τ.g r = some ob := by rw [hinv.g]; exact hrob'
          cases hτ : getA τ.l r with
          | none => exact hg'
          | some ob' =>
            have e1 := hr.loc r ob' hτ
            have e2 := hr.out r ob hg'
            omega
      have hmore2 : ∀ f as ats, o.op = .call { callee := .value (.func f), args := as, argTypes := ats } → ∀ r ob, getA (selA as.toList (LL j) ++ (pre j).o) r = some ob → getA τ.o r = some ob := by
        intro f as ats hop2 r ob hrob
        rw [getA_append] at hrob
        split at hrob
        · rename_i ob' hsel
          cases hrob
          obtain ⟨k1, k2⟩ := selA_get hsel
          obtain ⟨t, k3, k4, k5⟩ := hasA_get k1
          obtain ⟨i, hij, k6⟩ := LL_from ‹LL 0 = []› hLLs j (Nat.le_of_lt hjn) k2
          obtain ⟨oi, hoi, hdi, hsi, _⟩ := hs' i (Nat.lt_trans hij hjn)
          have hdt : dst i = some t := by
            rcases hsi with ⟨_, hEi⟩ | ⟨_, _, hli⟩
            · obtain ⟨N, hN, q, hq, hr2⟩ := OpE_roots hEi k6
              rw [hr2] at k4 k5
              rw [hdi, hN]
              exact congrArg some (same64 k4 k5 hq)
            · rw [hli] at k6; cases k6
          have htl : t ∈ Oper.looksAt ops o := by
            unfold Oper.looksAt
            exact List.mem_append_left _ (List.mem_filterMap.2 ⟨.tmp t, Array.mem_toList_iff.2 (by rw [hop2]; simp [Op.operands, Call.operands]; exact Array.mem_toList_iff.1 k3), rfl⟩)
          have hi : i < n := Nat.lt_trans hij hjn
          rcases hc.look i j o _ hjn hi ho (hop i hi) (by omega) t htl (by simpa [dst, hop i hi] using hdt) with ⟨_, he⟩ | ⟨hlt, _⟩
          · obtain ⟨e, he1, he2, he3⟩ := hasEdge_spec he
            have hSi : listed.getD i true = true := hin i (he2 ▸ hpred e he1 he3)
            show getA (τ.l ++ τ.g) r = some ob
            rw [getA_append, hinv.lnew i hi hSi r ob k6]
          · omega
        · exact hmore r ob hrob
      have hds : dst j = o.dst := by simp [dst, ho]
      have hset : (fun i => (listed.setIfInBounds j true).getD i true) = fun i => if i = j then true else listed.getD i true := by
        funext i
        simp only [Array.getD_eq_getD_getElem?]
        by_cases e : i = j
        · subst e; simp [hjl]
        · rw [Array.getElem?_setIfInBounds_ne (fun h => e h.symm), if_neg e]
      have hnext : ∀ τ' g' a' w', τ' = put { τ with l := (res j).2 ++ τ.l } o.dst (res j).1 → Rel g0 w0 τ' g' a' w' → wpAny P .any ops Q fuel (listed.setIfInBounds j true) a' w' := by
        intro τ' g' a' w' hτ' hr'
        refine ih (listed.setIfInBounds j true) (by simp [hsz]) ?_ ?_ (fun i hi1 hi2 => by
          rw [show (listed.setIfInBounds j true).getD i true = _ from congrFun hset i, if_neg (fun e => by subst e; exact absurd hjn (Nat.not_lt.2 hi1))]
          exact hB i hi1 hi2) τ' g' a' w' ?_ hr'
        · unfold unlisted at hun ⊢
          have hb : listed.toList[j]'(by simpa using hjl) = false := by
            simpa [Array.getD, hjl] using hlj
          rw [Array.toList_setIfInBounds]
          have := List.countP_set (p := fun b => !b) (l := listed.toList) (a := true) (i := j) (h := by simpa using hjl)
          rw [this, hb, hun]; simp
        · intro k ok hok hk e he hbd
          have hkk : (if k = j then true else listed.getD k true) = true := by rw [← congrFun hset k]; exact hk
          have mono : ∀ m, listed.getD m false = true → (listed.setIfInBounds j true).getD m false = true := fun m hm => by
            simp only [Array.getD_eq_getD_getElem?] at hm ⊢
            by_cases e : m = j
            · subst e; simp [hjl]
            · rw [Array.getElem?_setIfInBounds_ne (fun h => e h.symm)]; exact hm
          by_cases ek : k = j
          · subst ek
            rw [ho] at hok; cases hok
            exact mono _ (hpred e he hbd)
          · rw [if_neg ek] at hkk
            exact mono _ (hcl k ok hok hkk e he hbd)
        · rw [hset]
          subst hτ'
          refine ⟨by rw [put_d]; exact hinv.d, by rw [put_g]; exact hinv.g, by rw [put_len]; exact hinv.len, ?_, ?_, ?_, ?_, ?_⟩
          · intro i hi hSi t hdt hlt
            rw [getD_put]
            by_cases e : i = j
            · subst e
              rw [if_pos ⟨by rw [← hds]; exact hdt, by show t < τ.t.length; rw [hinv.len]; exact hlt⟩]
            · rw [if_neg (fun h => hdis i j hi hjn e (by show dst i ≠ none; rw [show dst i = some t from hdt]; simp) (by show dst i = dst j; rw [show dst i = some t from hdt, hds, h.1]))]
              rw [if_neg e] at hSi
              exact hinv.set i hi hSi t hdt hlt
          · intro t ht
            rw [getD_put, if_neg (fun h => ht j hjn (by simp) (by show dst j = some t; rw [hds]; exact h.1))]
            exact hinv.old t (fun i hi hSi => ht i hi (by by_cases e : i = j <;> simp [e, hSi]))
          · intro r ob hrob
            rw [put_l]
            show getA ((res j).2 ++ τ.l) r = some ob
            rw [getA_append]
            cases h : getA (res j).2 r with
            | none => exact hinv.lold r ob hrob
            | some ob' => have := (hfr j hjn r (by rw [h]; simp)).1; rw [this] at hrob; cases hrob
          · intro i hi hSi r ob hrob
            rw [put_l]
            show getA ((res j).2 ++ τ.l) r = some ob
            rw [getA_append]
            by_cases e : i = j
            · subst e; rw [hrob]
            · rw [if_neg e] at hSi
              have := (hfr i hi r (by rw [hrob]; simp)).2 j hjn (fun h => e h.symm)
              rw [this]
              exact hinv.lnew i hi hSi r ob hrob
          · intro r ob hrob
            rw [put_l] at hrob
            change getA ((res j).2 ++ τ.l) r = some ob at hrob
            rw [getA_append] at hrob
            cases h : getA (res j).2 r with
            | some ob' => rw [h] at hrob; cases hrob; exact .inr ⟨j, hjn, by simp, h⟩
            | none =>
              rw [h] at hrob
              rcases hinv.lback r ob hrob with h1 | ⟨i, hi, hSi, h1⟩
              · exact .inl h1
              · exact .inr ⟨i, hi, by by_cases e : i = j <;> simp [e, hSi], h1⟩
      unfold wpOp
      simp only [ho]
      rcases hstp with ⟨hg, hE⟩ | ⟨hg, hv, hl⟩
      · rw [← hgd] at hg
        rw [if_pos (gd_spec hr hg)]
        refine .inl (OpE_sound (σ := τ) (OpE_local hev (by rw [hinv.d, p1]) hmore hmore2 hE) ?_ hr fun g' a' w' hr' => hnext _ g' a' w' rfl hr')
        refine freshR_of fun r hrr => ?_
        obtain ⟨f1, f2⟩ := hfr j hjn r hrr
        cases hτ : getA τ.l r with
        | none => rfl
        | some ob =>
          rcases hinv.lback r ob hτ with h1 | ⟨i, hi, hSi, h1⟩
          · rw [f1] at h1; cases h1
          · have hne : i ≠ j := fun e => by
              have hSi' : listed.getD i true = true := hSi
              rw [e, hlj] at hSi'; cases hSi'
            rw [f2 i hi hne] at h1; cases h1
      · rw [← hgd] at hg
        rw [if_neg (by rw [gd_spec hr hg]; simp)]
        refine hnext (put { τ with l := (res j).2 ++ τ.l } o.dst (res j).1) g _ _ rfl ?_
        rw [hl, hv]
        exact hr.put o.dst (v := .x (.one (.v (.tuple #[])))) (y := undef) rfl

/-- What stands in the text's order. -/
theorem tail_main [Tb P g0 w0] {m : Nat} (hc : Chk ops m) {K : St → Prop} {Q : Exit → Act → World → Prop} (hfin : ∀ σ' g' a' w', K σ' → Rel g0 w0 σ' g' a' w' → Q .normal a' w') :
    ∀ (fuel : Nat) (k : Nat) (listed : Array Bool) (τ : St) (g : Gh) (a : Act) (w : World), m ≤ k → k + fuel = ops.size → listed.size = ops.size → (∀ i, i < k → listed.getD i true = true) → (∀ i, k ≤ i → i < ops.size → listed.getD i true = false) →
      Wlist wop P ops (ops.toList.drop k) τ K → Rel g0 w0 τ g a w → wpAny P .any ops Q fuel listed a w := by
  intro fuel
  have inl : ∀ (listed : Array Bool) i, listed.size = ops.size → i < ops.size → listed.getD i true = true → listed.getD i false = true := fun listed i hsz hi h => by
    have : i < listed.size := by omega
    simpa [Array.getD, this] using h
  induction fuel with
  | zero =>
    intro k listed τ g a w hmk hk hsz hdone htodo hw hr
    have hd : ops.toList.drop k = [] := List.drop_eq_nil_of_le (by simp; omega)
    rw [hd] at hw
    refine ⟨?_, hfin τ g a w hw hr⟩
    unfold Region.ready
    rw [List.filter_eq_nil_iff]
    intro i hi
    have : i < ops.size := List.mem_range.1 hi
    simp [hdone i (by omega)]
  | succ fuel ih =>
    intro k listed τ g a w hmk hk hsz hdone htodo hw hr
    have hkl : k < ops.size := by omega
    have hok : ops[k]? = some ops[k] := by simp [hkl]
    have hready : k ∈ Region.ready .any ops listed := ready_of hok (htodo k (Nat.le_refl _) hkl) fun e he hb => by
      have := hc.edge k _ hok e he hb
      exact inl listed _ hsz (by omega) (hdone e.on this)
    refine ⟨fun h => (by rw [h] at hready; cases hready), fun j hj => ?_⟩
    obtain ⟨o, ho, hlj, hpred⟩ := ready_spec hj
    have hjs : j < ops.size := by
      rcases Nat.lt_or_ge j ops.size with h | h
      · exact h
      · rw [Array.getElem?_eq_none h] at ho; cases ho
    have hjk : j = k := by
      rcases Nat.lt_trichotomy j k with h | h | h
      · rw [hdone j h] at hlj; cases hlj
      · exact h
      · exfalso
        obtain ⟨e, he1, he2, he3⟩ := hasEdge_spec (hc.last j o (by omega) ho k h)
        have h3 := hpred e he1 he3
        rw [he2] at h3
        have h4 := htodo k (Nat.le_refl _) hkl
        have hil : k < listed.size := by omega
        simp [Array.getD, hil] at h4 h3
        rw [h4] at h3; cases h3
    subst hjk
    rw [hok] at ho
    cases ho
    have hdrop : ops.toList.drop j = ops[j] :: ops.toList.drop (j + 1) := by
      rw [List.drop_eq_getElem_cons (by simpa using hkl)]; simp
    rw [hdrop] at hw
    unfold Wlist at hw
    have hnext : ∀ τ' g' a' w', Wlist wop P ops (ops.toList.drop (j + 1)) τ' K → Rel g0 w0 τ' g' a' w' → wpAny P .any ops Q fuel (listed.setIfInBounds j true) a' w' := fun τ' g' a' w' hw' hr' => by
      refine ih (j + 1) _ τ' g' a' w' (by omega) (by omega) (by simp [hsz]) (fun i hi => ?_) (fun i hi1 hi2 => ?_) hw' hr'
      · simp only [Array.getD_eq_getD_getElem?]
        by_cases e : i = j
        · subst e; have : i < listed.size := by omega
          simp [this]
        · rw [Array.getElem?_setIfInBounds_ne (fun h => e h.symm)]
          have := hdone i (by omega)
          simpa [Array.getD_eq_getD_getElem?] using this
      · simp only [Array.getD_eq_getD_getElem?]
        rw [Array.getElem?_setIfInBounds_ne (by omega)]
        have := htodo i (by omega) hi2
        simpa [Array.getD_eq_getD_getElem?] using this
    unfold wpOp
    simp only [hok]
    split at hw
    · rename_i hg
      rw [if_pos (gd_spec hr hg)]
      exact .inl (wop_sound g0 w0 _ τ g a w _ _ _ hw hr fun σ' g' a' w' hk' hr' => hnext σ' g' a' w' hk' hr')
    · rename_i hg
      rw [if_neg (by rw [gd_spec hr hg]; simp)]
      exact hnext _ g _ _ hw (hr.put _ (v := .x (.one (.v (.tuple #[])))) (y := undef) rfl)
    · exact hw.elim

theorem wdraw1_sound : DrawSound wdraw1 P := by
  intro g0 w0 _ id ops σ g a w K hw hr
  obtain ⟨hm, hok, hrun⟩ := hw
  have hc := drawOk_chk hok
  obtain ⟨res, pre, LL, e1, e2, e3, e4⟩ := DRun_spec _ _ _ hrun
  generalize hmm : headLen ops.toList = m at *
  have e3' : ∀ j o, j < m → ops[j]? = some o → Stp P ops (pre j) (LL j) o (res j).1 (res j).2 ∧ pre (j + 1) = put (pre j) o.dst (res j).1 ∧ LL (j + 1) = (res j).2 ++ LL j ∧ freshR (LL j ++ σ.l) (res j).2 = true :=
    fun j o hjm hj => e3 j o hjm (by simpa using hj)
  have hop : ∀ j, j < m → ops[j]? = some (ops[j]!) := fun j hj => by
    have : j < ops.size := Nat.lt_of_lt_of_le hj hc.le
    simp [this]
  refine wp_region_any hm (draw_main hc e1 e2 e3' ?_ ops.size _ (by simp) (by simp [unlisted, List.countP_replicate]) ?_ (fun i _ hi => by simp [Array.getD, hi]) σ g a _ ?_ hr.drew)
  · intro fuel listed τ g' a' w' hsz hun hall hB hinv hr'
    have hpre := pre_spec (σ := σ) (dst := fun i => (ops[i]?).bind (·.dst)) (res := res) (pre := pre) m e1 (fun j hj => by
        have := (e3' j _ hj (hop j hj)).2.1; simpa [hop j hj] using this) (fun i j hi hj hne hd => by
        simp only [hop i hi, hop j hj, Option.bind_some] at hd ⊢
        exact hc.dis j i _ _ hi hj (hop i hi) (hop j hj) (fun e => hne e.symm) hd) m (Nat.le_refl _)
    obtain ⟨p1, p2, p3, p4, p5, p6⟩ := hpre
    have hrel : Rel g0 w0 { pre m with l := LL m ++ σ.l } g' a' w' := by
      refine Rel.ext (τ := τ) ?_ (by rw [hinv.d]; exact p1) (by rw [hinv.g]; exact p2) ?_ hr'
      · show (pre m).t = τ.t
        apply List.ext_getElem (by rw [p4, hinv.len])
        intro t h1 h2
        have hlt : t < σ.t.length := by rw [← p4]; exact h1
        have : (pre m).t.getD t badV = τ.t.getD t badV := by
          by_cases hex : ∃ i, i < m ∧ (ops[i]?).bind (·.dst) = some t
          · obtain ⟨i, hi, hd⟩ := hex
            rw [p5 i hi t hd hlt, hinv.set i hi rfl t hd hlt]
          · rw [p6 t (fun i hi hd => hex ⟨i, hi, hd⟩), hinv.old t (fun i hi _ hd => hex ⟨i, hi, hd⟩)]
        simpa [List.getD_eq_getElem?_getD, List.getElem?_eq_getElem h1, List.getElem?_eq_getElem h2] using this
      · intro r
        show getA (LL m ++ σ.l) r = getA τ.l r
        have hLLs : ∀ j, j < m → LL (j + 1) = (res j).2 ++ LL j := fun j hj => (e3' j _ hj (hop j hj)).2.2.1
        rw [getA_append]
        cases h : getA (LL m) r with
        | some ob =>
          obtain ⟨i, hi, h1⟩ := LL_from e2 hLLs m (Nat.le_refl _) h
          exact (hinv.lnew i hi rfl r ob h1).symm
        | none =>
          simp only []
          cases hl : getA σ.l r with
          | some ob => exact (hinv.lold r ob hl).symm
          | none =>
            cases hτ : getA τ.l r with
            | none => rfl
            | some ob =>
              rcases hinv.lback r ob hτ with h1 | ⟨i, hi, _, h1⟩
              · rw [hl] at h1; cases h1
              · exact absurd h (LL_has hLLs (by rw [h1]; simp) m hi (Nat.le_refl _))
    have hfuel : m + fuel = ops.size := by
      have hcount : ∀ (l : List Bool) (m : Nat), m ≤ l.length → (∀ i, i < m → l.getD i true = true) → (∀ i, m ≤ i → i < l.length → l.getD i true = false) → m + l.countP (fun b => !b) = l.length := by
        intro l
        induction l with
        | nil => intro m hm _ _; simp at hm ⊢; exact hm
        | cons b l ih =>
          intro m hm h1 h2
          cases m with
          | zero =>
            have hb : b = false := by simpa using h2 0 (Nat.le_refl _) (by simp)
            have := ih 0 (Nat.zero_le _) (fun i hi => absurd hi (Nat.not_lt_zero _)) (fun i _ hi => by simpa using h2 (i + 1) (by omega) (by simpa using hi))
            subst hb; simp at this ⊢; exact this
          | succ m =>
            have hb : b = true := by simpa using h1 0 (by omega)
            have := ih m (by simpa using hm) (fun i hi => by simpa using h1 (i + 1) (by omega)) (fun i hi hi2 => by simpa using h2 (i + 1) (by omega) (by simpa using hi2))
            subst hb; simp; omega
      have h := hcount listed.toList m (by simp [hsz]; exact hc.le) (fun i hi => by have := hall i hi; simpa [Array.getD_eq_getD_getElem?, List.getD_eq_getElem?_getD] using this)
        (fun i hi hi2 => by have := hB i hi (by simpa [hsz] using hi2); simpa [Array.getD_eq_getD_getElem?, List.getD_eq_getElem?_getD] using this)
      unfold unlisted at hun
      rw [hun] at h
      simpa [hsz] using h
    exact tail_main hc (fun σ' g' a' w' hk' hr' => ⟨.normal, rfl, σ', g', ⟨rfl, hk'⟩, hr'⟩) fuel m listed _ g' a' w' (Nat.le_refl _) hfuel hsz hall hB e4 hrel
  · intro j o hj hl e he hb
    exfalso
    have hlt : j < ops.size := by
      rcases Nat.lt_or_ge j ops.size with h | h
      · exact h
      · rw [Array.getElem?_eq_none h] at hj; cases hj
    simp [Array.getD, hlt] at hl
  · have hlt : ∀ i, i < m → i < ops.size := fun i hi => Nat.lt_of_lt_of_le hi hc.le
    refine ⟨rfl, rfl, rfl, fun i hi hS => ?_, fun _ _ => rfl, fun _ _ h => h, fun i hi hS => ?_, fun _ _ h => .inl h⟩ <;>
    · exfalso; simp [Array.getD, hlt i hi] at hS

end
end Go.Rx

/- Regions of open order in which slices that the region itself makes are appended to. -/
namespace Go.Rx
open Go.RowKit

/-! ### what is appended to -/
def madeB (l : List (Option Tmp × Op)) (t : Tmp) : Bool := l.any fun p => (p.1 == some t) && (match p.2 with
  | .buildSlice _ 0 _ => true
  | .call { callee := .builtin .append, args := _, argTypes := _ } => true
  | _ => false)
/-- The temporary whose slice this operation appends to, if the region made that slice: nobody else looks at it. -/
def killB (l : List (Option Tmp × Op)) (op : Op) : Option Tmp := match op with
  | .call { callee := .builtin .append, args := as, argTypes := _ } => match as.toList with
    | .tmp t :: _ => if madeB l t = true then some t else none
    | _ => none
  | _ => none
def opsL (ops : Array Oper) : List (Option Tmp × Op) := ops.toList.map fun o => (o.dst, o.op)
def killT (ops : Array Oper) (o : Oper) : Option Tmp := killB (opsL ops) o.op
def AppE (P : Program) (σ : St) (L : Store) (t0 : Tmp) (dst : Option Tmp) (op : Op) (v : V) (l : Store) : Prop :=
  ∃ (N : Tmp) (tt tx : TypeId) (y : Operand) (e : TypeId) (i : TypeInfo) (z : Value) (R X : List (List C)),
    dst = some N ∧ op = .call { callee := .builtin .append, args := #[.tmp t0, y], argTypes := #[tt, tx] } ∧
    tyElem P tt = some e ∧ P.info? e = some i ∧ i.zero = some z ∧ z.cells.size = i.size ∧ 0 < i.size ∧
    ev σ (.tmp t0) = .x (.one (.rs (σ.d, t0 * 64) [] i.size 0 R.length)) ∧ getA L (σ.d, t0 * 64) = some ⟨.sl, i.size, R⟩ ∧
    srcRows P (selA [y] L ++ σ.o) tx (ev σ y) = some (i.size, X) ∧ flatRows X = true ∧
    R.length + X.length ≤ 9223372036854775807 ∧ ((R.length + X.length) + (R.length + X.length) / 4 + 192) * i.bytes ≤ 281474976710656 ∧
    v = .x (.one (.rs (σ.d, N * 64) [] i.size 0 (R.length + X.length))) ∧ l = [((σ.d, N * 64), ⟨.sl, i.size, R ++ X⟩)]
/-- A temporary that is no more. -/
def offT (t : Option Tmp) (σ : St) : St := match t with
  | some t => { σ with t := σ.t.set t badV }
  | none => σ
def offL (d : Nat) (t : Option Tmp) (L : Store) : Store := match t with
  | some t => delA L (d, t * 64)
  | none => L
/-- Nothing but its maker's value leads into a slice that is appended to. -/
def cleanV (d : Nat) (ks : List Tmp) (dst : Option Tmp) (v : V) : Bool := ks.all fun t => (dst == some t) || !hasV (d, t * 64) v
def killsOf (l : List (Option Tmp × Op)) : List Tmp := l.filterMap fun p => killB l p.2

def isEff2 (ops : Array Oper) (o : Oper) : Bool := isEff o.op && (killT ops o).isNone
def Stp2 (P : Program) (ops : Array Oper) (σ : St) (L : Store) (o : Oper) (v : V) (l : Store) : Prop :=
  match killT ops o with
  | some t => gd σ ops o = some true ∧ AppE P σ L t o.dst o.op v l
  | none => Stp P ops σ L o v l
def DRun2 (P : Program) (ops : Array Oper) : List Oper → St → Store → (St → Prop) → Prop
  | [], σ, L, K => K { σ with l := L ++ σ.l }
  | o :: rest, σ, L, K => if isEff2 ops o = true then Wlist wop P ops (o :: rest) { σ with l := L ++ σ.l } K else
      ∃ v l, Stp2 P ops σ L o v l ∧ freshR (L ++ σ.l) l = true ∧ cleanV σ.d (killsOf (opsL ops)) o.dst v = true ∧ DRun2 P ops rest (put (offT (killT ops o) σ) o.dst v) (l ++ offL σ.d (killT ops o) L) K

def headLen2 (ops : Array Oper) : List Oper → Nat
  | [] => 0
  | o :: l => if isEff2 ops o = true then 0 else headLen2 ops l + 1
/-- Behind an operation, over any road of edges. -/
def reachE (ops : Array Oper) : Nat → Nat → Nat → Bool
  | 0, _, _ => false
  | f + 1, j, i => match ops[j]? with
    | some o => hasEdge o i || o.after.any fun e => Region.binds .any e && reachE ops f e.on i
    | none => false
/-- An operation that only hands a temporary's value on. -/
def flK (o : Oper) : Bool := o.guard.isNone && (match o.op with
  | .extract _ _ => true
  | .move _ => true
  | .assign _ => true
  | _ => false)
/-- Such an operation may as well go ahead of all that does not wait for it. -/
def floatB (ops : Array Oper) (m i : Nat) : Bool := match ops[i]? with
  | some oi => decide (i < m) && flK oi && (List.range ops.size).all fun j => j == i || (match ops[j]? with
    | some oj => (decide (j < m) && !flK oj) || hasEdge oj i || hasEdge oi j || oi.apart ops oj
    | none => true)
  | none => false
def drawOk2 (ops : Array Oper) : Bool :=
  let m := headLen2 ops ops.toList
  let l := ops.toList.zipIdx
  (l.all fun (o, j) => edgesOk o j) &&
  ((l.take m).all fun (o, j) => (l.take m).all fun (o', i) =>
      (i == j || o.dst.isNone || !(o.dst == o'.dst)) &&
      (Oper.looksAt ops o).all fun t => !(o'.dst == some t) || i == j || (decide (i < j) && hasEdge o i) || (decide (j < i) && hasEdge o' j)) &&
  ((l.drop m).all fun (_, j) => (List.range j).all fun i => reachE ops 8 j i || floatB ops m i) &&
  ((l.take m).all fun (o, j) => match killT ops o with
    | some t => o.guard.isNone && (l.take m).all fun (o', i) => i == j || !((Oper.looksAt ops o').contains t)
    | none => true)
def wdraw2 : DrawW := fun P ops σ K => P.follows .mixedOrders = true ∧ drawOk2 ops = true ∧ DRun2 P ops ops.toList σ [] K

section
variable {P : Program} {w w0 : World} {g g0 : Gh} {σ τ : St} {a : Act} {ops : Array Oper} {o : Oper}

theorem killB_spec {l : List (Option Tmp × Op)} {op : Op} {t : Tmp} (h : killB l op = some t) : ∃ as ats rest, op = .call { callee := .builtin .append, args := as, argTypes := ats } ∧ as.toList = .tmp t :: rest := by
  unfold killB at h
  split at h
  · rename_i as ats
    split at h
    · rename_i t' rest he
      split at h
      · cases h; exact ⟨as, ats, rest, rfl, he⟩
      · cases h
    · cases h
  · cases h
theorem kill_looks {t : Tmp} (h : killT ops o = some t) : t ∈ Oper.looksAt ops o := by
  obtain ⟨as, ats, rest, ho, hl⟩ := killB_spec h
  unfold Oper.looksAt
  refine List.mem_append_left _ (List.mem_filterMap.2 ⟨.tmp t, Array.mem_toList_iff.2 ?_, rfl⟩)
  rw [ho]
  simp only [Op.operands, Call.operands]
  have : Operand.tmp t ∈ as := Array.mem_toList_iff.1 (by rw [hl]; exact List.mem_cons_self ..)
  simpa using this
theorem hasV_bad (r : Root) : hasV r badV = false := rfl
theorem getD_set_off {t : List V} {n k : Nat} {v : V} : (t.set n v).getD k badV = if n = k ∧ k < t.length then v else t.getD k badV := by
  simp only [List.getD_eq_getElem?_getD, List.getElem?_set]
  by_cases h : n = k
  · subst h
    by_cases h2 : n < t.length
    · simp [h2]
    · simp [h2]
  · simp [h]
theorem offT_t (kl : Option Tmp) (σ : St) (k : Nat) : (offT kl σ).t.getD k badV = if kl = some k ∧ k < σ.t.length then badV else σ.t.getD k badV := by
  cases kl with
  | none => simp [offT]
  | some t => simp only [offT, getD_set_off, Option.some.injEq]
theorem offT_d (kl : Option Tmp) (σ : St) : (offT kl σ).d = σ.d := by cases kl <;> rfl
theorem offT_g (kl : Option Tmp) (σ : St) : (offT kl σ).g = σ.g := by cases kl <;> rfl
theorem offT_l (kl : Option Tmp) (σ : St) : (offT kl σ).l = σ.l := by cases kl <;> rfl
theorem offT_len (kl : Option Tmp) (σ : St) : (offT kl σ).t.length = σ.t.length := by cases kl <;> simp [offT]

theorem pre2_spec {dst kl : Nat → Option Tmp} {res : Nat → V × Store} {pre : Nat → St} (n : Nat) (h0 : pre 0 = σ) (hs : ∀ j, j < n → pre (j + 1) = put (offT (kl j) (pre j)) (dst j) (res j).1)
    (hdis : ∀ i j, i < n → j < n → i ≠ j → dst i ≠ none → dst i ≠ dst j) (hk : ∀ j, j < n → ∀ t, kl j = some t → ∃ i, i < j ∧ dst i = some t) :
    ∀ j, j ≤ n → (pre j).d = σ.d ∧ (pre j).g = σ.g ∧ (pre j).l = σ.l ∧ (pre j).t.length = σ.t.length ∧
      (∀ i, i < j → ∀ t, dst i = some t → t < σ.t.length → (∀ k, k < j → kl k ≠ some t) → (pre j).t.getD t badV = (res i).1) ∧
      (∀ k, k < j → ∀ t, kl k = some t → t < σ.t.length → (pre j).t.getD t badV = badV) ∧
      (∀ t, (∀ i, i < j → dst i ≠ some t) → (pre j).t.getD t badV = σ.t.getD t badV) := by
  intro j
  induction j with
  | zero => intro _; rw [h0]; exact ⟨rfl, rfl, rfl, rfl, fun i hi => absurd hi (Nat.not_lt_zero _), fun i hi => absurd hi (Nat.not_lt_zero _), fun _ _ => rfl⟩
  | succ j ih =>
    intro hj
    obtain ⟨i1, i2, i3, i4, i5, i5D, i6⟩ := ih (by omega)
    rw [hs j (by omega)]
    have hkd : ∀ k, k ≤ j → ∀ t, kl k = some t → dst j ≠ some t := fun k hkj t hkt hdt => by
      obtain ⟨i, hi, hdi⟩ := hk k (by omega) t hkt
      exact hdis i j (by omega) (by omega) (by omega) (by rw [hdi]; simp) (by rw [hdi, hdt])
    refine ⟨by rw [put_d, offT_d, i1], by rw [put_g, offT_g, i2], by rw [put_l, offT_l, i3], by rw [put_len, offT_len, i4], fun i hi t ht hlt hal => ?_, fun k hkj t hkt hlt => ?_, fun t ht => ?_⟩
    · rw [getD_put, offT_len]
      by_cases e : i = j
      · subst e; rw [if_pos ⟨ht, by rw [i4]; exact hlt⟩]
      · rw [if_neg (fun h => hdis i j (by omega) (by omega) e (by rw [ht]; simp) (by rw [ht, h.1])), offT_t, if_neg (fun h => hal j (by omega) h.1), i5 i (by omega) t ht hlt (fun k hk' => hal k (by omega))]
    · rw [getD_put, if_neg (fun h => hkd k (by omega) t hkt h.1), offT_t]
      by_cases e : kl j = some t
      · rw [if_pos ⟨e, by rw [i4]; exact hlt⟩]
      · rw [if_neg (fun h => e h.1)]
        have : k ≠ j := fun h => e (h ▸ hkt)
        exact i5D k (by omega) t hkt hlt
    · rw [getD_put, if_neg (fun h => ht j (by omega) h.1), offT_t, if_neg (fun h => by
        obtain ⟨i, hi, hdi⟩ := hk j (by omega) t h.1
        exact ht i (by omega) hdi), i6 t (fun i hi => ht i (by omega))]

theorem LL2_from {res : Nat → V × Store} {LL : Nat → Store} {kl : Nat → Option Tmp} {d n : Nat} (h0 : LL 0 = []) (hs : ∀ j, j < n → LL (j + 1) = (res j).2 ++ offL d (kl j) (LL j)) {r : Root} {ob : Obj'} :
    ∀ k, k ≤ n → getA (LL k) r = some ob → ∃ i, i < k ∧ getA (res i).2 r = some ob ∧ ∀ j, i < j → j < k → ∀ t, kl j = some t → r ≠ (d, t * 64) := by
  intro k
  induction k with
  | zero => intro _ h; rw [h0] at h; cases h
  | succ k ih =>
    intro h1 h2
    rw [hs k (by omega), getA_append] at h2
    split at h2
    · rename_i ob' h3; cases h2; exact ⟨k, by omega, h3, fun j a1 a2 => by omega⟩
    · have key : getA (LL k) r = some ob ∧ ∀ t, kl k = some t → r ≠ (d, t * 64) := by
        cases hk : kl k with
        | none => rw [hk] at h2; exact ⟨h2, fun t ht => by cases ht⟩
        | some t =>
          rw [hk] at h2
          change getA (delA (LL k) (d, t * 64)) r = some ob at h2
          rw [getA_delA] at h2
          split at h2
          · cases h2
          · rename_i hne
            exact ⟨h2, fun t' ht' e => hne (by cases ht'; exact e.symm)⟩
      obtain ⟨i, h3, h4, h5⟩ := ih (by omega) key.1
      refine ⟨i, by omega, h4, fun j a1 a2 t ht => ?_⟩
      by_cases e : j = k
      · subst e; exact key.2 t ht
      · exact h5 j a1 (by omega) t ht
theorem LL2_has {res : Nat → V × Store} {LL : Nat → Store} {kl : Nat → Option Tmp} {d n : Nat} (hs : ∀ j, j < n → LL (j + 1) = (res j).2 ++ offL d (kl j) (LL j)) {i : Nat} {r : Root} (hr : getA (res i).2 r ≠ none)
    (hal : ∀ j, j < n → ∀ t, kl j = some t → r ≠ (d, t * 64)) : ∀ k, i < k → k ≤ n → getA (LL k) r ≠ none := by
  intro k
  induction k with
  | zero => intro h; omega
  | succ k ih =>
    intro h1 h2
    rw [hs k (by omega), getA_append]
    by_cases e : i = k
    · subst e
      cases h : getA (res i).2 r with
      | none => exact absurd h hr
      | some ob => simp
    · have h3 := ih (by omega) (by omega)
      have h4 : getA (offL d (kl k) (LL k)) r ≠ none := by
        cases hk : kl k with
        | none => exact h3
        | some t =>
          show getA (delA (LL k) (d, t * 64)) r ≠ none
          rw [getA_delA, if_neg (fun e => hal k (by omega) t hk e.symm)]; exact h3
      split
      · simp
      · exact h4

structure Inv2 (n : Nat) (dst kl : Nat → Option Tmp) (res : Nat → V × Store) (σ : St) (S : Nat → Bool) (τ : St) : Prop where
  d : τ.d = σ.d
  g : τ.g = σ.g
  len : τ.t.length = σ.t.length
  set : ∀ i, i < n → S i = true → ∀ t, dst i = some t → t < σ.t.length → (∀ j, j < n → S j = true → kl j ≠ some t) → τ.t.getD t badV = (res i).1
  off : ∀ j, j < n → S j = true → ∀ t, kl j = some t → t < σ.t.length → τ.t.getD t badV = badV
  old : ∀ t, (∀ i, i < n → S i = true → dst i ≠ some t) → τ.t.getD t badV = σ.t.getD t badV
  lold : ∀ r ob, getA σ.l r = some ob → getA τ.l r = some ob
  lnew : ∀ i, i < n → S i = true → ∀ r ob, getA (res i).2 r = some ob → (∀ j, j < n → S j = true → ∀ t, kl j = some t → r ≠ (σ.d, t * 64)) → getA τ.l r = some ob
  lback : ∀ r ob, getA τ.l r = some ob → getA σ.l r = some ob ∨ ∃ i, i < n ∧ S i = true ∧ getA (res i).2 r = some ob ∧ ∀ j, j < n → S j = true → ∀ t, kl j = some t → r ≠ (σ.d, t * 64)

/-! ### no reference to what is nowhere -/
theorem CR_noRef {o : Store} {loc : Option (Root × Path × Nat × Nat)} {c : C} {y : Value} {r : Root} (h : CR w o g loc c y) (hn : getA o r = none) : hasC r c = false := by
  cases c with
  | rs r' p sz off len =>
    obtain ⟨R, ⟨ob, h1, _⟩, _⟩ := h
    exact decide_eq_false fun e => by subst e; rw [hn] at h1; cases h1
  | pt r' p sz row off =>
    obtain ⟨R, b, ⟨ob, h1, _⟩, _⟩ := h
    exact decide_eq_false fun e => by subst e; rw [hn] at h1; cases h1
  | _ => rfl
theorem XR_noRef {o : Store} {x : X} {y : Value} {r : Root} (h : XR w o g x y) (hn : getA o r = none) : hasX r x = false := by
  cases x with
  | one c => exact CR_noRef (loc := none) h hn
  | agg cs =>
    obtain ⟨ys, _, _, h3⟩ := h
    show cs.any (hasC r) = false
    rw [List.any_eq_false]
    intro c hc
    obtain ⟨j, hj, rfl⟩ := List.getElem_of_mem hc
    have := CR_noRef (loc := none) (h3 j hj) hn
    rw [List.getD_eq_getElem?_getD, List.getElem?_eq_getElem hj] at this
    simpa using this
theorem VR_noRef {o : Store} {v : V} {y : Value} {r : Root} (h : VR w o g v y) (hn : getA o r = none) : hasV r v = false := by
  cases v with
  | x x => exact XR_noRef h hn
  | tup xs =>
    obtain ⟨ys, _, _, h3⟩ := h
    show xs.any (hasX r) = false
    rw [List.any_eq_false]
    intro c hc
    obtain ⟨j, hj, rfl⟩ := List.getElem_of_mem hc
    have := XR_noRef (h3 j hj) hn
    rw [List.getD_eq_getElem?_getD, List.getElem?_eq_getElem hj] at this
    simpa using this
theorem Rel.noRefT {r : Root} (hr : Rel g0 w0 σ g a w) (hn : getA σ.o r = none) (k : Nat) : hasV r (σ.t.getD k badV) = false := by
  by_cases hk : k < σ.t.length
  · exact VR_noRef (hr.tmps k hk) hn
  · rw [List.getD_eq_getElem?_getD, List.getElem?_eq_none (by omega)]; rfl
theorem Rel.noRefO {r r' : Root} {ob : Obj'} (hr : Rel g0 w0 σ g a w) (hn : getA σ.o r = none) (ho : getA σ.o r' = some ob) (hb : ob.kind = .box) : hasRows r ob.rows = false := by
  unfold hasRows
  rw [List.any_eq_false]
  intro row hrow
  simp only [Bool.not_eq_true]
  rw [List.any_eq_false]
  intro c hc
  obtain ⟨i, hi, rfl⟩ := List.getElem_of_mem hrow
  obtain ⟨j, hj, rfl⟩ := List.getElem_of_mem hc
  have hrowD : ob.rows.getD i [] = ob.rows[i] := by rw [List.getD_eq_getElem?_getD, List.getElem?_eq_getElem hi]; rfl
  have hcell : cellAt ob.rows i j = ob.rows[i][j] := by unfold cellAt; rw [hrowD, List.getD_eq_getElem?_getD, List.getElem?_eq_getElem hj]; rfl
  cases hG : g.G r' [] with
  | none =>
    rcases hr.heap.none r' [] ob ob.sz ob.rows ho rfl hG with e | ⟨e, _⟩
    · rw [e] at hi; exact absurd hi (Nat.not_lt_zero _)
    · rw [hb] at e; cases e
  | some b =>
    obtain ⟨_, k2, cs, e, f, _, _, _, k5⟩ := hr.heap.rows r' [] ob.sz ob.rows b ⟨ob, ho, rfl⟩ hG
    have hlen := k2 i hi
    rw [hrowD] at hlen
    have := CR_noRef (k5 i j hi (by rw [← hlen]; exact hj)) hn
    rw [hcell] at this
    simpa using this
/-- References lead to what is there. -/
theorem CR_live {o : Store} {loc : Option (Root × Path × Nat × Nat)} {c : C} {y : Value} (h : CR w o g loc c y) (r : Root) (hr : refRoot c = some r) : ∃ ob, getA o r = some ob := by
  cases c with
  | rs r' p sz off len =>
    cases hr
    obtain ⟨R, ⟨ob, h1, _⟩, _⟩ := h
    exact ⟨ob, h1⟩
  | pt r' p sz row off =>
    cases hr
    obtain ⟨R, b, ⟨ob, h1, _⟩, _⟩ := h
    exact ⟨ob, h1⟩
  | _ => cases hr

theorem refOkC_of {o : Store} {l' : Store} {d : Nat} {loc : Option (Root × Path × Nat × Nat)} {c : C} {y : Value} {r : Root} (h : CR w o g loc c y) (hc : hasC r c = false)
    (hl : ∀ r' ob, getA o r' = some ob → r' ≠ r → r'.1 < d ∨ (getA l' r').isSome = true) : refOkC d l' c = true := by
  unfold refOkC
  cases hr : refRoot c with
  | none => rfl
  | some r' =>
    obtain ⟨ob, h1⟩ := CR_live h r' hr
    have hne : r' ≠ r := by
      rintro rfl
      cases c <;> first | (cases hr; simp [hasC] at hc) | cases hr
    simpa using hl r' ob h1 hne
theorem refOkX_of {o : Store} {l' : Store} {d : Nat} {x : X} {y : Value} {r : Root} (h : XR w o g x y) (hc : hasX r x = false)
    (hl : ∀ r' ob, getA o r' = some ob → r' ≠ r → r'.1 < d ∨ (getA l' r').isSome = true) : refOkX d l' x = true := by
  cases x with
  | one c => exact refOkC_of (loc := none) h hc hl
  | agg cs =>
    obtain ⟨ys, _, _, h3⟩ := h
    show cs.all (refOkC d l') = true
    rw [List.all_eq_true]
    intro c hm
    have hc' : hasC r c = false := by
      have : cs.any (hasC r) = false := hc
      rw [List.any_eq_false] at this
      simpa using this c hm
    obtain ⟨j, hj, rfl⟩ := List.getElem_of_mem hm
    have h4 := h3 j hj
    rw [List.getD_eq_getElem?_getD, List.getElem?_eq_getElem hj] at h4
    exact refOkC_of (loc := none) h4 hc' hl
theorem refOkV_of {o : Store} {l' : Store} {d : Nat} {v : V} {y : Value} {r : Root} (h : VR w o g v y) (hc : hasV r v = false)
    (hl : ∀ r' ob, getA o r' = some ob → r' ≠ r → r'.1 < d ∨ (getA l' r').isSome = true) : refOkV d l' v = true := by
  cases v with
  | x x => exact refOkX_of h hc hl
  | tup xs =>
    obtain ⟨ys, _, _, h3⟩ := h
    show xs.all (refOkX d l') = true
    rw [List.all_eq_true]
    intro c hm
    have hc' : hasX r c = false := by
      have : xs.any (hasX r) = false := hc
      rw [List.any_eq_false] at this
      simpa using this c hm
    obtain ⟨j, hj, rfl⟩ := List.getElem_of_mem hm
    have h4 := h3 j hj
    rw [List.getD_eq_getElem?_getD, List.getElem?_eq_getElem hj] at h4
    exact refOkX_of h4 hc' hl
theorem refOkO_of {l' : Store} {d : Nat} {ob : Obj'} {r r0 : Root} (hr : Rel g0 w0 σ g a w) (ho : getA σ.o r0 = some ob) (hc : ob.kind = .box → hasRows r ob.rows = false)
    (hl : ∀ r' ob, getA σ.o r' = some ob → r' ≠ r → r'.1 < d ∨ (getA l' r').isSome = true) : refOkO d l' ob = true := by
  unfold refOkO
  split
  · rename_i hb
    rw [List.all_eq_true]
    intro row hrow
    rw [List.all_eq_true]
    intro c hm
    have hcl := hc hb
    unfold hasRows at hcl
    rw [List.any_eq_false] at hcl
    have h1 := hcl row hrow
    simp only [Bool.not_eq_true] at h1
    rw [List.any_eq_false] at h1
    have h2 : hasC r c = false := by simpa using h1 c hm
    obtain ⟨i, hi, rfl⟩ := List.getElem_of_mem hrow
    obtain ⟨j, hj, rfl⟩ := List.getElem_of_mem hm
    have hrowD : ob.rows.getD i [] = ob.rows[i] := by rw [List.getD_eq_getElem?_getD, List.getElem?_eq_getElem hi]; rfl
    have hcell : cellAt ob.rows i j = ob.rows[i][j] := by unfold cellAt; rw [hrowD, List.getD_eq_getElem?_getD, List.getElem?_eq_getElem hj]; rfl
    cases hG : g.G r0 [] with
    | none =>
      rcases hr.heap.none r0 [] ob ob.sz ob.rows ho rfl hG with e | ⟨e, _⟩
      · rw [e] at hi; exact absurd hi (Nat.not_lt_zero _)
      · rw [hb] at e; cases e
    | some b =>
      obtain ⟨_, k2, cs, e, f, _, _, _, k5⟩ := hr.heap.rows r0 [] ob.sz ob.rows b ⟨ob, ho, rfl⟩ hG
      have hlen := k2 i hi
      rw [hrowD] at hlen
      have h5 := k5 i j hi (by rw [← hlen]; exact hj)
      rw [hcell] at h5
      exact refOkC_of h5 h2 hl
  · rfl
theorem killV_getD (r : Root) (t : List V) (k : Nat) : (t.map (killV r)).getD k badV = killV r (t.getD k badV) := by
  simp only [List.getD_eq_getElem?_getD, List.getElem?_map]
  cases t[k]? with
  | none => rfl
  | some v => rfl
theorem hasV_killV (r : Root) (v : V) : hasV r (killV r v) = false := by
  unfold killV
  split
  · rfl
  · rename_i h; simpa using h
theorem killV_of {r : Root} {v : V} (h : hasV r v = false) : killV r v = v := by unfold killV; rw [if_neg (by rw [h]; simp)]
/-- A root of the activation's own, forgotten with all that leads to it from temporaries; no variable leads to it. -/
theorem Rel.killDrop {r : Root} (hr : Rel g0 w0 σ g a w) (hbox : ∀ r' ob, getA σ.o r' = some ob → ob.kind = .box → hasRows r ob.rows = false) :
    Rel g0 w0 ⟨σ.t.map (killV r), σ.d, delA σ.l r, σ.g⟩ g a w := by
  have hl : ∀ r' ob, getA σ.o r' = some ob → r' ≠ r → r'.1 < σ.d ∨ (getA (delA σ.l r) r').isSome = true := fun r' ob h1 hne => by
    have h2 : getA (σ.l ++ σ.g) r' = some ob := h1
    rw [getA_append] at h2
    cases e : getA σ.l r' with
    | some ob' => right; rw [getA_delA, if_neg (Ne.symm hne), e]; rfl
    | none => rw [e] at h2; exact .inl (hr.out r' ob h2)
  have ho : ∀ r' ob, getA σ.l r' = some ob → getA σ.o r' = some ob := fun r' ob h1 => by
    show getA (σ.l ++ σ.g) r' = _
    rw [getA_append, h1]
  have hog : ∀ r' ob, getA σ.g r' = some ob → getA σ.o r' = some ob := fun r' ob h1 => by
    show getA (σ.l ++ σ.g) r' = _
    rw [getA_append]
    cases e : getA σ.l r' with
    | none => exact h1
    | some ob' => exact absurd (hr.loc r' ob' e) (by have := hr.out r' ob h1; omega)
  have hdel : ∀ r' ob, getA (delA σ.l r) r' = some ob → getA σ.l r' = some ob := fun r' ob h1 => by
    rw [getA_delA] at h1
    split at h1
    · cases h1
    · exact h1
  refine Rel.drop' (t := σ.t) (l := σ.l) (T2_kill r σ.t) hdel ⟨fun i hi => ?_, fun r' ob h1 => ?_, fun r' ob h1 => ?_⟩ hr
  · have hi' : i < σ.t.length := by simpa using hi
    show refOkV σ.d (delA σ.l r) ((σ.t.map (killV r)).getD i badV) = true
    rw [killV_getD]
    by_cases hv : hasV r (σ.t.getD i badV) = true
    · unfold killV; rw [if_pos hv]; rfl
    · rw [killV_of (by simpa using hv)]
      exact refOkV_of (hr.tmps i hi') (by simpa using hv) hl
  · exact refOkO_of hr (ho _ _ (hdel _ _ h1)) (hbox _ _ (ho _ _ (hdel _ _ h1))) hl
  · exact refOkO_of hr (hog _ _ h1) (hbox _ _ (hog _ _ h1)) hl
theorem srcRows_more {o o' : Store} {tx : TypeId} {v : V} {x : Nat × List (List C)} (hm : ∀ r ob, getA o r = some ob → getA o' r = some ob) (h : srcRows P o tx v = some x) : srcRows P o' tx v = some x := by
  unfold srcRows at *
  split at h
  · exact h
  · split at h
    · rename_i e' ob he hob
      simp only [he, hm _ _ hob]
      exact h
    · cases h
  · exact h
  · exact h
  · cases h
/-- The operation itself. -/
theorem append_kill {t0 N : Tmp} {tt tx e : TypeId} {y : Operand} {i : TypeInfo} {z : Value} {R X : List (List C)} (hr : Rel g0 w0 τ g a w)
    (ho : o.op = .call { callee := .builtin .append, args := #[.tmp t0, y], argTypes := #[tt, tx] }) (he : tyElem P tt = some e) (hi : P.info? e = some i) (hz : i.zero = some z) (hzs : z.cells.size = i.size) (hpos : 0 < i.size)
    (hev : ev τ (.tmp t0) = .x (.one (.rs (τ.d, t0 * 64) [] i.size 0 R.length))) (hob : getA τ.l (τ.d, t0 * 64) = some ⟨.sl, i.size, R⟩) (hsrc : srcRows P τ.o tx (ev τ y) = some (i.size, X)) (hfl : flatRows X = true)
    (h63 : R.length + X.length ≤ 9223372036854775807) (hby : ((R.length + X.length) + (R.length + X.length) / 4 + 192) * i.bytes ≤ 281474976710656)
    (hf : getA (delA τ.l (τ.d, t0 * 64)) (τ.d, N * 64) = none) (hbox : ∀ r' ob, getA τ.o r' = some ob → ob.kind = .box → hasRows (τ.d, t0 * 64) ob.rows = false)
    {N' : Act → World → Prop} {Q : Exit → Act → World → Prop}
    (hk : ∀ g' a' w', Rel g0 w0 (put ⟨τ.t.map (killV (τ.d, t0 * 64)), τ.d, ((τ.d, N * 64), ⟨.sl, i.size, R ++ X⟩) :: delA τ.l (τ.d, t0 * 64), τ.g⟩ o.dst (.x (.one (.rs (τ.d, N * 64) [] i.size 0 (R.length + X.length))))) g' a' w' → N' a' w') : o.wp P a w N' Q := by
  obtain ⟨news, k1, k2, k3⟩ := srcRows_src hr.heap hsrc (ev_rel hr y) hfl hpos
  have hx := ev_rel hr (.tmp t0)
  rw [hev] at hx
  obtain ⟨R', ⟨ob', q1, q2⟩, _, hsl⟩ := hx
  have hdrop := Rel.killDrop (r := (τ.d, t0 * 64)) hr hbox
  have hr2 : Rel g0 w0 ⟨τ.t, τ.d, τ.l, τ.g⟩ g a w := hr
  obtain ⟨y', w', g', e1, e2, e3, _⟩ := append_run (ty := o.type) hr2 hob hdrop (r' := (τ.d, N * 64)) rfl hf (flatRows_nr hfl) (flatRows_notOwn hfl) k2 (tyElem_spec he) hi hz rfl hzs hpos hsl k1 k3 h63 hby
  have hrun : (execOp a.eval o).run P w = .ok (.value y') w' := by
    unfold execOp
    simp only [ho, resolve, invoke, builtin, Sem.run_bind, Sem.run_pure, Result.andThen_ok, List.map_toArray, List.map_cons, List.map_nil, e1]
  unfold Oper.wp; rw [hrun, Oper.upon_value]
  refine hk g' _ w' ?_
  refine e2.put o.dst (v := .x (.one (.rs (τ.d, N * 64) [] i.size 0 (R.length + X.length)))) ?_
  refine ⟨R ++ X, ⟨⟨.sl, i.size, R ++ X⟩, ?_, rfl⟩, by simp, e3⟩
  show (if (τ.d, N * 64) = (τ.d, N * 64) then _ else _) = _
  rw [if_pos rfl]

/-! ### in the order of the text -/
theorem DRun2_spec {K : St → Prop} : ∀ (l : List Oper) (σ : St) (L : Store), DRun2 P ops l σ L K →
    ∃ (res : Nat → V × Store) (pre : Nat → St) (LL : Nat → Store), pre 0 = σ ∧ LL 0 = L ∧
      (∀ j o, j < headLen2 ops l → l[j]? = some o → Stp2 P ops (pre j) (LL j) o (res j).1 (res j).2 ∧ pre (j + 1) = put (offT (killT ops o) (pre j)) o.dst (res j).1 ∧ LL (j + 1) = (res j).2 ++ offL σ.d (killT ops o) (LL j) ∧ freshR (LL j ++ σ.l) (res j).2 = true ∧
        cleanV σ.d (killsOf (opsL ops)) o.dst (res j).1 = true) ∧
      Wlist wop P ops (l.drop (headLen2 ops l)) { pre (headLen2 ops l) with l := LL (headLen2 ops l) ++ σ.l } K
  | [], σ, L, h => ⟨fun _ => (badV, []), fun _ => σ, fun _ => L, rfl, rfl, fun j o hj => by simp [headLen2] at hj, h⟩
  | o :: l, σ, L, h => by
    simp only [DRun2] at h
    split at h
    · rename_i he
      refine ⟨fun _ => (badV, []), fun _ => σ, fun _ => L, rfl, rfl, fun j o hj => by simp [headLen2, he] at hj, ?_⟩
      simp only [headLen2, he, if_true, List.drop_zero]; exact h
    rename_i he
    have hhl : headLen2 ops (o :: l) = headLen2 ops l + 1 := by simp only [headLen2]; rw [if_neg he]
    rw [hhl]
    simp only [List.drop_succ_cons]
    obtain ⟨v, s, h1, h2, hcl, h3⟩ := h
    obtain ⟨res, pre, LL, e1, e2, e3, e4⟩ := DRun2_spec l _ _ h3
    have hl : (put (offT (killT ops o) σ) o.dst v).l = σ.l := by rw [put_l, offT_l]
    have hd : (put (offT (killT ops o) σ) o.dst v).d = σ.d := by rw [put_d, offT_d]
    refine ⟨fun | 0 => (v, s) | j + 1 => res j, fun | 0 => σ | j + 1 => pre j, fun | 0 => L | j + 1 => LL j, rfl, rfl, fun j o' hjm hj => ?_, by rw [hl] at e4; exact e4⟩
    cases j with
    | zero =>
      simp only [List.getElem?_cons_zero, Option.some.injEq] at hj
      subst hj
      exact ⟨h1, e1, e2, h2, hcl⟩
    | succ j =>
      have := e3 j o' (by omega) (by simpa using hj)
      rw [hl, hd] at this
      exact this

structure Chk2 (ops : Array Oper) (m : Nat) : Prop where
  le : m ≤ ops.size
  edge : ∀ (j : Nat) (o : Oper), ops[j]? = some o → ∀ e ∈ o.after, Region.binds .any e = true → e.on < j
  dis : ∀ (i j : Nat) (o o' : Oper), j < m → i < m → ops[j]? = some o → ops[i]? = some o' → i ≠ j → o.dst ≠ none → o.dst ≠ o'.dst
  look : ∀ (i j : Nat) (o o' : Oper), j < m → i < m → ops[j]? = some o → ops[i]? = some o' → i ≠ j → ∀ t ∈ Oper.looksAt ops o, o'.dst = some t → (i < j ∧ hasEdge o i = true) ∨ (j < i ∧ hasEdge o' j = true)
  last : ∀ (j : Nat) (o : Oper), m ≤ j → ops[j]? = some o → ∀ i, i < j → reachE ops 8 j i = true ∨ floatB ops m i = true
  nsel : Region.noSelect ops = true
  sole : ∀ (i j : Nat) (o o' : Oper), j < m → i < m → ops[j]? = some o → ops[i]? = some o' → i ≠ j → ∀ t, killT ops o = some t → t ∉ Oper.looksAt ops o'

theorem headLen2_le : ∀ l : List Oper, headLen2 ops l ≤ l.length
  | [] => Nat.le_refl _
  | o :: l => by
    simp only [headLen2]
    split
    · exact Nat.zero_le _
    · have := headLen2_le l; simp; omega

theorem drawOk2_chk (h : drawOk2 ops = true) : Chk2 ops (headLen2 ops ops.toList) := by
  have hle : headLen2 ops ops.toList ≤ ops.size := by have := headLen2_le (ops := ops) ops.toList; simpa using this
  have hget : ∀ (j : Nat) (o : Oper), ops[j]? = some o → ops.toList.zipIdx[j]? = some (o, j) := fun j o hj => by
    rw [List.getElem?_zipIdx]; simp [hj]
  generalize hm : headLen2 ops ops.toList = m at *
  have keyA : ∀ (j : Nat) (o : Oper), ops[j]? = some o → (o, j) ∈ ops.toList.zipIdx := fun j o hj => List.mem_of_getElem? (hget j o hj)
  have keyH : ∀ (j : Nat) (o : Oper), j < m → ops[j]? = some o → (o, j) ∈ ops.toList.zipIdx.take m := fun j o hjm hj => by
    refine List.mem_of_getElem? (i := j) ?_
    rw [List.getElem?_take, if_pos hjm]; exact hget j o hj
  have keyT : ∀ (j : Nat) (o : Oper), m ≤ j → ops[j]? = some o → (o, j) ∈ ops.toList.zipIdx.drop m := fun j o hjm hj => by
    refine List.mem_of_getElem? (i := j - m) ?_
    rw [List.getElem?_drop, show m + (j - m) = j by omega]; exact hget j o hj
  unfold drawOk2 at h
  simp only [hm, Bool.and_eq_true] at h
  obtain ⟨⟨⟨hE, hH⟩, hT⟩, hS⟩ := h
  rw [List.all_eq_true] at hE hH hT hS
  refine ⟨hle, fun j o hj e he hb => ?_, fun i j o o' hjm him hj hi hne hd => ?_, fun i j o o' hjm him hj hi hne t ht hd => ?_, fun j o hmj hj i hi => ?_, ?_, fun i j o o' hjm him hj hi hne t ht => ?_⟩
  · have hok := hE _ (keyA j o hj)
    unfold edgesOk at hok
    rw [Bool.and_eq_true, Array.all_eq_true'] at hok
    have := hok.1 e he
    simpa [hb] using this
  · have := hH _ (keyH j o hjm hj)
    rw [List.all_eq_true] at this
    have := this _ (keyH i o' him hi)
    simp only [Bool.and_eq_true, Bool.or_eq_true, beq_iff_eq, Option.isNone_iff_eq_none, Bool.not_eq_true'] at this
    rcases this.1 with (h1 | h1) | h1
    · exact absurd h1 hne
    · exact absurd h1 hd
    · simpa using h1
  · have := hH _ (keyH j o hjm hj)
    rw [List.all_eq_true] at this
    have := this _ (keyH i o' him hi)
    rw [Bool.and_eq_true, List.all_eq_true] at this
    have := this.2 t ht
    simp only [Bool.or_eq_true, Bool.and_eq_true, beq_iff_eq, decide_eq_true_eq, Bool.not_eq_true', hd] at this
    rcases this with ((h1 | h1) | h1) | h1
    · simp at h1
    · exact absurd h1 hne
    · exact .inl h1
    · exact .inr h1
  · have := hT _ (keyT j o hmj hj)
    rw [List.all_eq_true] at this
    have := this i (List.mem_range.2 hi)
    simpa only [Bool.or_eq_true] using this
  · unfold Region.noSelect
    rw [Array.all_eq_true']
    intro o ho
    obtain ⟨j, hj, rfl⟩ := Array.getElem_of_mem ho
    have hok := hE _ (keyA j ops[j] (by simp [hj]))
    unfold edgesOk at hok
    rw [Bool.and_eq_true] at hok
    exact hok.2
  · have := hS _ (keyH j o hjm hj)
    simp only [ht, Bool.and_eq_true] at this
    have h2 := this.2
    rw [List.all_eq_true] at h2
    have h3 := h2 _ (keyH i o' him hi)
    simp only [Bool.or_eq_true, beq_iff_eq, Bool.not_eq_true'] at h3
    rcases h3 with h3 | h3
    · exact absurd h3 hne
    · intro hmem
      have : (Oper.looksAt ops o').contains t = true := List.contains_iff_mem.2 hmem
      rw [h3] at this; cases this

theorem floatB_spec {m i : Nat} (h : floatB ops m i = true) : i < m ∧ ∃ oi, ops[i]? = some oi ∧ flK oi = true ∧ ∀ j oj, j ≠ i → ops[j]? = some oj → (j < m ∧ flK oj = false) ∨ hasEdge oj i = true ∨ hasEdge oi j = true ∨ oi.apart ops oj = true := by
  unfold floatB at h
  split at h
  · rename_i oi hoi
    simp only [Bool.and_eq_true, decide_eq_true_eq, List.all_eq_true, Bool.or_eq_true, beq_iff_eq] at h
    refine ⟨h.1.1, oi, hoi, h.1.2, fun j oj hne hoj => ?_⟩
    have hlt : j < ops.size := (Array.getElem?_eq_some_iff.1 hoj).1
    have := h.2 j (List.mem_range.2 hlt)
    simp only [hoj, Bool.or_eq_true, Bool.and_eq_true, decide_eq_true_eq, Bool.not_eq_true'] at this
    rcases this with h1 | ((h1 | h1) | h1) | h1
    · exact absurd h1 hne
    · exact .inl h1
    · exact .inr (.inl h1)
    · exact .inr (.inr (.inl h1))
    · exact .inr (.inr (.inr h1))
  · cases h
theorem flK_run (h : flK o = true) (a : Act) : (∃ v, ∀ w, (execOp a.eval o).run P w = .ok (.value v) w) ∨ (∃ why, ∀ w, (execOp a.eval o).run P w = .halt (.stuck why) w) := by
  unfold flK at h
  rw [Bool.and_eq_true] at h
  have h2 := h.2
  split at h2
  · rename_i t ix ho
    simp only [execOp, ho, Sem.run_bind]
    unfold Instr.extract
    split
    · split
      · rename_i v hv; exact .inl ⟨v, fun w => rfl⟩
      · exact .inr ⟨_, fun w => rfl⟩
    · exact .inr ⟨_, fun w => rfl⟩
  · rename_i x ho; exact .inl ⟨a.eval x, fun w => by simp [execOp, ho]⟩
  · rename_i x ho; exact .inl ⟨a.eval x, fun w => by simp [execOp, ho]⟩
  · cases h2
/-- A step by such an operation is a value, whatever the world. -/
theorem flK_step {i : Nat} {oi : Oper} {K : Act → World → Prop} {Q : Exit → Act → World → Prop} (hi : ops[i]? = some oi) (hf : flK oi = true) (hL : ¬ LetsOut Q) (h : wpOp P ops Q i K a w) :
    ∃ v, Yields P ops oi v a ∧ K (a.put oi.dst v) w := by
  have hg : oi.guard = none := by
    unfold flK at hf
    rw [Bool.and_eq_true] at hf
    simpa using hf.1
  have hw : Region.wanted oi (yielded ops a.tmps) = true := by unfold Region.wanted; rw [hg]
  unfold wpOp at h
  simp only [hi, hw, if_true] at h
  rcases h with h | h
  · unfold Oper.wp at h
    rcases flK_run (P := P) hf a with ⟨v, hv⟩ | ⟨why, hv⟩
    · rw [hv w] at h
      exact ⟨v, .inl ⟨hw, hv⟩, h⟩
    · rw [hv w] at h; exact h.elim
  · exact absurd h.2 hL

/-- What is behind by any road is done. -/
theorem reach_listed {listed : Array Bool} (hcl : ∀ j o, ops[j]? = some o → listed.getD j false = true → ∀ e ∈ o.after, Region.binds .any e = true → listed.getD e.on false = true) {i : Nat} :
    ∀ (f j : Nat) (o : Oper), ops[j]? = some o → (∀ e ∈ o.after, Region.binds .any e = true → listed.getD e.on false = true) → reachE ops f j i = true → listed.getD i false = true
  | 0, _, _, _, _, h => by cases h
  | f + 1, j, o, ho, hp, h => by
    unfold reachE at h
    simp only [ho, Bool.or_eq_true] at h
    rcases h with h | h
    · obtain ⟨e, he1, he2, he3⟩ := hasEdge_spec h
      rw [← he2]; exact hp e he1 he3
    · rw [Array.any_eq_true'] at h
      obtain ⟨e, he, h⟩ := h
      rw [Bool.and_eq_true] at h
      have h1 := hp e he h.1
      cases ho2 : ops[e.on]? with
      | none =>
        have h2 := h.2
        unfold reachE at h2
        cases f with
        | zero => simp at h2
        | succ f => simp [ho2] at h2
      | some o2 => exact reach_listed hcl f e.on o2 ho2 (fun e' he' hb' => hcl e.on o2 ho2 h1 e' he' hb') h.2

theorem OpE_box {L l : Store} {v : V} (h : OpE P σ L o v l) {r : Root} {ob : Obj'} (hr : getA l r = some ob) (hb : ob.kind = .box) (r' : Root) : hasRows r' ob.rows = false := by
  unfold OpE at h
  split at h
  · split at h
    · obtain ⟨xs, ret, _, _, h3, rfl, _⟩ := h
      obtain ⟨i, sz, R, _, _, _, h7⟩ := getA_newRoots _ _ _ _ _ _ hr
      subst h7
      cases hb
    · exact h.elim
  · split at h
    · rename_i N zs hN hz
      rw [h.1] at hr
      simp only [getA] at hr
      split at hr
      · cases hr
        simp [hasRows, hasC]
      · cases hr
    · exact h.elim
  · split at h
    · rename_i N sz hN hz
      rw [h.2.1] at hr
      simp only [getA] at hr
      split at hr
      · cases hr; cases hb
      · cases hr
    · exact h.elim
  · split at h
    · rename_i N p hN hz
      rw [h.1] at hr
      simp only [getA] at hr
      split at hr
      · cases hr; cases hb
      · cases hr
    · rw [h.2] at hr; cases hr
  · rw [h.2] at hr; cases hr

theorem mul64 {d a b : Nat} (h : ((d, a * 64) : Root) = (d, b * 64)) : a = b := by
  have h2 : a * 64 = b * 64 := congrArg Prod.snd h
  omega
theorem root64 {d a b q : Nat} (h : ((d, a * 64) : Root) = (d, b * 64 + q)) (hq : q < 64) : b = a := by
  have h2 : a * 64 = b * 64 + q := congrArg Prod.snd h
  omega
theorem root64' {d a b p q : Nat} (h : ((d, a * 64 + p) : Root) = (d, b * 64 + q)) (hp : p < 64) (hq : q < 64) : a = b := by
  have h2 : a * 64 + p = b * 64 + q := congrArg Prod.snd h
  omega
/-- What the text's order tells of each operation of the head. -/
structure Text2 (P : Program) (ops : Array Oper) (σ : St) (m : Nat) (res : Nat → V × Store) (pre : Nat → St) (LL : Nat → Store) : Prop where
  chk : Chk2 ops m
  h0 : pre 0 = σ
  l0 : LL 0 = []
  step : ∀ j o, j < m → ops[j]? = some o → Stp2 P ops (pre j) (LL j) o (res j).1 (res j).2 ∧ pre (j + 1) = put (offT (killT ops o) (pre j)) o.dst (res j).1 ∧ LL (j + 1) = (res j).2 ++ offL σ.d (killT ops o) (LL j) ∧ freshR (LL j ++ σ.l) (res j).2 = true ∧
    cleanV σ.d (killsOf (opsL ops)) o.dst (res j).1 = true
  noT : ∀ r, getA σ.o r = none → ∀ k, hasV r (σ.t.getD k badV) = false
  noL : ∀ r r' ob, getA σ.o r = none → getA σ.l r' = some ob → ob.kind = .box → hasRows r ob.rows = false
  noG : ∀ r r' ob, getA σ.o r = none → getA σ.g r' = some ob → ob.kind = .box → hasRows r ob.rows = false
  out : ∀ r ob, getA σ.g r = some ob → r.1 < σ.d

def dstF (ops : Array Oper) (i : Nat) : Option Tmp := (ops[i]?).bind (·.dst)
def klF (ops : Array Oper) (i : Nat) : Option Tmp := (ops[i]?).bind (killT ops)

/-- What follows from it. -/
structure Facts2 (ops : Array Oper) (σ : St) (m : Nat) (res : Nat → V × Store) (pre : Nat → St) (LL : Nat → Store) : Prop where
  dis : ∀ i j, i < m → j < m → i ≠ j → dstF ops i ≠ none → dstF ops i ≠ dstF ops j
  lls : ∀ j, j < m → LL (j + 1) = (res j).2 ++ offL σ.d (klF ops j) (LL j)
  pres : ∀ j, j < m → pre (j + 1) = put (offT (klF ops j) (pre j)) (dstF ops j) (res j).1
  root : ∀ j, j < m → ∀ r ob, getA (res j).2 r = some ob → ∃ N, dstF ops j = some N ∧ ∃ q : Nat, q < 64 ∧ r = (σ.d, N * 64 + q)
  notl : ∀ j, j < m → ∀ r, getA (res j).2 r ≠ none → getA σ.l r = none
  nots : ∀ i j, i < m → j < m → i ≠ j → ∀ r, getA (res j).2 r ≠ none → getA (res i).2 r = none
  boxr : ∀ j, j < m → ∀ r ob, getA (res j).2 r = some ob → ob.kind = .box → ∀ r', hasRows r' ob.rows = false
  maker : ∀ j, j < m → ∀ t, klF ops j = some t → ∃ i, i < j ∧ dstF ops i = some t ∧ getA (res i).2 (σ.d, t * 64) ≠ none
  kout : ∀ j, j < m → ∀ t, klF ops j = some t → getA σ.o (σ.d, t * 64) = none
  clean : ∀ i j, i < m → j < m → ∀ t, klF ops j = some t → dstF ops i ≠ some t → hasV (σ.d, t * 64) (res i).1 = false

theorem Text2.op {m : Nat} {res : Nat → V × Store} {pre : Nat → St} {LL : Nat → Store} (h : Text2 P ops σ m res pre LL) {j : Nat} (hj : j < m) : ops[j]? = some (ops[j]!) := by
  have : j < ops.size := Nat.lt_of_lt_of_le hj h.chk.le
  simp [this]

theorem Text2.facts {m : Nat} {res : Nat → V × Store} {pre : Nat → St} {LL : Nat → Store} (h : Text2 P ops σ m res pre LL) : Facts2 ops σ m res pre LL := by
  have hop : ∀ j, j < m → ops[j]? = some (ops[j]!) := fun j hj => h.op hj
  have hs' : ∀ j, j < m → ∃ o, ops[j]? = some o ∧ dstF ops j = o.dst ∧ klF ops j = killT ops o ∧ Stp2 P ops (pre j) (LL j) o (res j).1 (res j).2 ∧ pre (j + 1) = put (offT (killT ops o) (pre j)) o.dst (res j).1 ∧ LL (j + 1) = (res j).2 ++ offL σ.d (killT ops o) (LL j) ∧ freshR (LL j ++ σ.l) (res j).2 = true ∧
    cleanV σ.d (killsOf (opsL ops)) o.dst (res j).1 = true := fun j hj =>
    ⟨_, hop j hj, by simp [dstF, hop j hj], by simp [klF, hop j hj], h.step j _ hj (hop j hj)⟩
  have hdis : ∀ i j, i < m → j < m → i ≠ j → dstF ops i ≠ none → dstF ops i ≠ dstF ops j := fun i j hi hj hne hd => by
    simp only [dstF, hop i hi, hop j hj, Option.bind_some] at hd ⊢
    exact h.chk.dis j i _ _ hi hj (hop i hi) (hop j hj) (fun e => hne e.symm) hd
  have hlls : ∀ j, j < m → LL (j + 1) = (res j).2 ++ offL σ.d (klF ops j) (LL j) := fun j hj => by
    obtain ⟨o, _, _, hk, _, _, e, _⟩ := hs' j hj
    rw [hk]; exact e
  have hpres : ∀ j, j < m → pre (j + 1) = put (offT (klF ops j) (pre j)) (dstF ops j) (res j).1 := fun j hj => by
    obtain ⟨o, _, hd, hk, _, e, _⟩ := hs' j hj
    rw [hk, hd]; exact e
  have hpd : ∀ j, j ≤ m → (pre j).d = σ.d := by
    intro j
    induction j with
    | zero => intro _; rw [h.h0]
    | succ j ih => intro hj; rw [hpres j (by omega), put_d, offT_d]; exact ih (by omega)
  have hroot : ∀ j, j < m → ∀ r ob, getA (res j).2 r = some ob → ∃ N, dstF ops j = some N ∧ ∃ q : Nat, q < 64 ∧ r = (σ.d, N * 64 + q) := fun j hj r ob hr => by
    obtain ⟨o, ho, hd, hk, hst, _⟩ := hs' j hj
    unfold Stp2 at hst
    split at hst
    · obtain ⟨_, N, tt, tx, y, e, i, z, R, X, h1, _, _, _, _, _, _, _, _, _, _, _, _, _, hl⟩ := hst
      rw [hl] at hr
      simp only [getA] at hr
      split at hr
      · rename_i he
        exact ⟨N, by rw [hd]; exact h1, 0, by omega, by rw [← he, hpd j (by omega)]; rfl⟩
      · cases hr
    · rcases hst with ⟨_, hE⟩ | ⟨_, _, hl⟩
      · obtain ⟨N, hN, q, hq, hr2⟩ := OpE_roots hE hr
        exact ⟨N, by rw [hd]; exact hN, q, hq, by rw [hr2, hpd j (by omega)]⟩
      · rw [hl] at hr; cases hr
  have hnotl : ∀ j, j < m → ∀ r, getA (res j).2 r ≠ none → getA σ.l r = none := fun j hj r hr => by
    obtain ⟨o, _, _, _, _, _, _, hf, _⟩ := hs' j hj
    obtain ⟨ob, hob⟩ := Option.ne_none_iff_exists'.1 hr
    have h1 := freshR_spec hf hob
    rw [getA_append] at h1
    cases h2 : getA (LL j) r with
    | none => rw [h2] at h1; exact h1
    | some ob => rw [h2] at h1; cases h1
  have hmaker : ∀ j, j < m → ∀ t, klF ops j = some t → ∃ i, i < j ∧ dstF ops i = some t ∧ getA (res i).2 (σ.d, t * 64) ≠ none := fun j hj t ht => by
    obtain ⟨o, ho, hd, hk, hst, _⟩ := hs' j hj
    rw [hk] at ht
    unfold Stp2 at hst
    rw [ht] at hst
    obtain ⟨_, N, tt, tx, y, e, i, z, R, X, _, _, _, _, _, _, _, _, hL, _⟩ := hst
    rw [hpd j (by omega)] at hL
    obtain ⟨i0, hi0, h1, _⟩ := LL2_from h.l0 hlls j (by omega) hL
    obtain ⟨N', hN', q, hq, hr2⟩ := hroot i0 (by omega) _ _ h1
    have : N' = t := root64 hr2 hq
    exact ⟨i0, hi0, by rw [hN', this], by rw [h1]; simp⟩
  refine ⟨hdis, hlls, hpres, hroot, hnotl, fun i j hi hj hne r hr => ?_, fun j hj r ob hr hb r' => ?_, hmaker, fun j hj t ht => ?_, fun i j hi hj t ht hd => ?_⟩
  · cases hri : getA (res i).2 r with
    | none => rfl
    | some ob =>
      exfalso
      obtain ⟨ob', hob'⟩ := Option.ne_none_iff_exists'.1 hr
      obtain ⟨N1, e1, q1, hq1, r1⟩ := hroot i hi r ob hri
      obtain ⟨N2, e2, q2, hq2, r2⟩ := hroot j hj r ob' hob'
      have : N1 = N2 := root64' (r1.symm.trans r2) hq1 hq2
      exact hdis i j hi hj hne (by rw [e1]; simp) (by rw [e1, e2, this])
  · obtain ⟨o, ho, hd, hk, hst, _⟩ := hs' j hj
    unfold Stp2 at hst
    split at hst
    · obtain ⟨_, N, tt, tx, y, e, i, z, R, X, _, _, _, _, _, _, _, _, _, _, _, _, _, _, hl⟩ := hst
      rw [hl] at hr
      simp only [getA] at hr
      split at hr
      · cases hr; cases hb
      · cases hr
    · rcases hst with ⟨_, hE⟩ | ⟨_, _, hl⟩
      · exact OpE_box hE hr hb r'
      · rw [hl] at hr; cases hr
  · obtain ⟨i, hi, _, h1⟩ := hmaker j hj t ht
    show getA (σ.l ++ σ.g) _ = none
    rw [getA_append, hnotl i (by omega) _ h1]
    simp only []
    cases hg : getA σ.g (σ.d, t * 64) with
    | none => rfl
    | some ob => have := h.out _ _ hg; simp at this
  · obtain ⟨o, ho, hdo, _, _, _, _, _, hcl⟩ := hs' i hi
    unfold cleanV at hcl
    rw [List.all_eq_true] at hcl
    have hmem : t ∈ killsOf (opsL ops) := by
      unfold killsOf opsL
      rw [List.mem_filterMap]
      have hoj := hop j hj
      have hjs : j < ops.size := Nat.lt_of_lt_of_le hj h.chk.le
      refine ⟨((ops[j]!).dst, (ops[j]!).op), List.mem_map.2 ⟨ops[j]!, ?_, rfl⟩, ?_⟩
      · rw [Array.mem_toList_iff]
        have : ops[j]! = ops[j] := by simp [hjs]
        rw [this]; exact Array.getElem_mem hjs
      · have : klF ops j = killT ops (ops[j]!) := by simp [klF, hoj]
        rw [this] at ht
        exact ht
    have := hcl t hmem
    simp only [Bool.or_eq_true, beq_iff_eq, Bool.not_eq_true'] at this
    rcases this with h1 | h1
    · exact absurd (hdo.trans h1) hd
    · exact h1

theorem draw2_main [Tb P g0 w0] {m : Nat} {res : Nat → V × Store} {pre : Nat → St} {LL : Nat → Store} (ht : Text2 P ops σ m res pre LL)
    {Q : Exit → Act → World → Prop} (hL : ¬ LetsOut Q) (hP : ∀ c a w, ¬ Q (.panic c) a w)
    (hfin : ∀ (fuel : Nat) (listed : Array Bool) τ g a w, listed.size = ops.size → unlisted listed = fuel → (∀ i, i < m → listed.getD i true = true) → (∀ i, m ≤ i → i < ops.size → listed.getD i true = false) →
      Inv2 m (dstF ops) (klF ops) res σ (fun _ => true) τ → Rel g0 w0 τ g a w → wpAny P .any ops Q fuel listed a w) :
    ∀ (fuel : Nat) (listed : Array Bool), listed.size = ops.size → unlisted listed = fuel →
      (∀ j o, ops[j]? = some o → listed.getD j true = true → ∀ e ∈ o.after, Region.binds .any e = true → listed.getD e.on false = true) →
      (∀ i, m ≤ i → i < ops.size → listed.getD i true = false) →
      ∀ τ g a w, Inv2 m (dstF ops) (klF ops) res σ (fun i => listed.getD i true) τ → Rel g0 w0 τ g a w → wpAny P .any ops Q fuel listed a w := by
  have hc := ht.chk
  have F := ht.facts
  have hmsz := hc.le
  have hop : ∀ j, j < m → ops[j]? = some (ops[j]!) := fun j hj => ht.op hj
  have hpre := pre2_spec (σ := σ) (dst := dstF ops) (kl := klF ops) (res := res) (pre := pre) m ht.h0 F.pres F.dis (fun j hj t hk => by obtain ⟨i, h1, h2, _⟩ := F.maker j hj t hk; exact ⟨i, h1, h2⟩)
  have done : ∀ (fuel : Nat) (listed : Array Bool) τ g a w, listed.size = ops.size → unlisted listed = fuel → (∀ i, m ≤ i → i < ops.size → listed.getD i true = false) → (∀ i, i < m → listed.getD i true = true) →
      Inv2 m (dstF ops) (klF ops) res σ (fun i => listed.getD i true) τ → Rel g0 w0 τ g a w → wpAny P .any ops Q fuel listed a w := by
    intro fuel listed τ g a w hsz hun hB hall hinv hr
    refine hfin fuel listed τ g a w hsz hun hall hB ⟨hinv.d, hinv.g, hinv.len, fun i hi _ t hd hl hal => hinv.set i hi (hall i hi) t hd hl (fun j hj _ => hal j hj rfl), fun j hj _ t hk hl => hinv.off j hj (hall j hj) t hk hl, fun t h => hinv.old t fun i hi _ => h i hi rfl, hinv.lold, fun i hi _ r ob h hal => hinv.lnew i hi (hall i hi) r ob h (fun j hj _ => hal j hj rfl), fun r ob h => ?_⟩ hr
    rcases hinv.lback r ob h with h1 | ⟨i, hi, _, h1, h2⟩
    · exact .inl h1
    · exact .inr ⟨i, hi, rfl, h1, fun j hj _ => h2 j hj (hall j hj)⟩
  intro fuel
  induction fuel with
  | zero =>
    intro listed hsz hun hcl hB τ g a w hinv hr
    have hall : ∀ i, listed.getD i true = true := by
      intro i
      simp only [unlisted, List.countP_eq_zero] at hun
      by_cases hi : i < listed.size
      · have := hun listed[i] (by simp)
        simpa [Array.getD, hi] using this
      · simp [Array.getD, hi]
    exact done 0 listed τ g a w hsz hun hB (fun i _ => hall i) hinv hr
  | succ fuel ih =>
    intro listed hsz hun hcl hB τ g a w hinv hr
    by_cases hall : ∀ i, i < m → listed.getD i true = true
    · exact done _ listed τ g a w hsz hun hB hall hinv hr
    have hsome : ∃ j, j < m ∧ listed.getD j true = false := by
      have := Classical.not_forall.1 hall
      obtain ⟨j, hj⟩ := this
      obtain ⟨h1, h2⟩ := Classical.not_imp.1 hj
      exact ⟨j, h1, by simpa using h2⟩
    have hin : ∀ k, listed.getD k false = true → listed.getD k true = true := fun k hk => by
      by_cases h : k < listed.size
      · simpa [Array.getD, h] using hk
      · simp [Array.getD, h]
    have hin' : ∀ k, k < m → listed.getD k true = true → listed.getD k false = true := fun k hkm hk => by
      have : k < listed.size := by rw [hsz]; exact Nat.lt_of_lt_of_le hkm hmsz
      simpa [Array.getD, this] using hk
    have least : ∃ j, j < m ∧ listed.getD j true = false ∧ j ∈ Region.ready .any ops listed := by
      have hmin : ∃ j, j < m ∧ listed.getD j true = false ∧ ∀ i, i < j → listed.getD i true = true := by
        obtain ⟨j, hj⟩ := hsome
        induction j using Nat.strongRecOn with
        | _ j ihj =>
          by_cases h : ∃ i, i < j ∧ listed.getD i true = false
          · obtain ⟨i, h1, h2⟩ := h
            exact ihj i h1 ⟨by omega, h2⟩
          · refine ⟨j, hj.1, hj.2, fun i hi => ?_⟩
            cases hb : listed.getD i true with
            | true => rfl
            | false => exact absurd ⟨i, hi, hb⟩ h
      obtain ⟨j, hj1, hj2, hj3⟩ := hmin
      exact ⟨j, hj1, hj2, ready_of (hop j hj1) hj2 fun e he hb => by
        have hlt := hc.edge j _ (hop j hj1) e he hb
        exact hin' e.on (by omega) (hj3 e.on hlt)⟩
    have step : ∀ j, j ∈ Region.ready .any ops listed → j < m → wpOp P ops Q j (wpAny P .any ops Q fuel (listed.setIfInBounds j true)) a w := by
      intro j hj hjn
      obtain ⟨o, ho, hlj, hpred⟩ := ready_spec hj
      have hjl : j < listed.size := by rw [hsz]; exact Nat.lt_of_lt_of_le hjn hmsz
      obtain ⟨p1, p2, p3, p4, p5, p5D, p6⟩ := hpre j (Nat.le_of_lt hjn)
      obtain ⟨hstp, _, _, _, _⟩ := ht.step j o hjn ho
      have hds : dstF ops j = o.dst := by simp [dstF, ho]
      have hks : klF ops j = killT ops o := by simp [klF, ho]
      -- who kills is the only one that looks
      have hsole : ∀ j' t, j' < m → klF ops j' = some t → t ∈ Oper.looksAt ops o → j' = j := fun j' t hj' hk htl => by
        by_cases e : j' = j
        · exact e
        · have hk' : killT ops (ops[j']!) = some t := by simpa [klF, hop j' hj'] using hk
          exact absurd htl (hc.sole j j' _ o hj' hjn (hop j' hj') ho (fun h => e h.symm) t hk')
      have hnotS : ∀ j' t, j' < m → listed.getD j' true = true → klF ops j' = some t → t ∉ Oper.looksAt ops o := fun j' t hj' hS hk htl => by
        have := hsole j' t hj' hk htl
        subst this
        rw [hlj] at hS; cases hS
      -- the maker of what a listed operation appended to is listed
      have hmk : ∀ j', j' < m → listed.getD j' true = true → ∀ t, klF ops j' = some t → ∀ i, i < m → dstF ops i = some t → listed.getD i true = true := fun j' hj' hS t hk i hi hd => by
        obtain ⟨i0, hi0, hd0, _⟩ := F.maker j' hj' t hk
        have hii : i = i0 := by
          by_cases e : i = i0
          · exact e
          · exact absurd (hd.trans hd0.symm) (F.dis i i0 hi (by omega) e (by rw [hd]; simp))
        subst hii
        have hk' : killT ops (ops[j']!) = some t := by simpa [klF, hop j' hj'] using hk
        have hd' : (ops[i]!).dst = some t := by simpa [dstF, hop i hi] using hd
        rcases hc.look i j' _ _ hj' hi (hop j' hj') (hop i hi) (by omega) t (kill_looks hk') hd' with ⟨_, he⟩ | ⟨hlt, _⟩
        · obtain ⟨e, he1, he2, he3⟩ := hasEdge_spec he
          exact hin i (he2 ▸ hcl j' _ (hop j' hj') hS e he1 he3)
        · omega
      have hdk : ∀ j', j' < m → (listed.getD j' true = true ∨ j' = j) → ∀ t, klF ops j' = some t → dstF ops j ≠ some t := fun j' hj' hS t hk hd => by
        rcases hS with hS | rfl
        · have := hmk j' hj' hS t hk j hjn hd
          rw [hlj] at this; cases this
        · obtain ⟨i0, hi0, hd0, _⟩ := F.maker j' hj' t hk
          exact F.dis i0 j' (by omega) hj' (by omega) (by rw [hd0]; simp) (by rw [hd0, hd])
      -- what the operation looks at
      have hlook : ∀ t ∈ Oper.looksAt ops o, τ.t.getD t badV = (pre j).t.getD t badV := by
        intro t htl
        by_cases hlen : t < σ.t.length
        · have hal1 : ∀ j', j' < m → listed.getD j' true = true → klF ops j' ≠ some t := fun j' hj' hS hk => hnotS j' t hj' hS hk htl
          have hal2 : ∀ k, k < j → klF ops k ≠ some t := fun k hk hkt => by
            have := hsole k t (by omega) hkt htl
            omega
          by_cases hex : ∃ i, i < m ∧ i ≠ j ∧ dstF ops i = some t
          · obtain ⟨i, hi, hne, hd⟩ := hex
            have hd' : (ops[i]!).dst = some t := by simpa [dstF, hop i hi] using hd
            rcases hc.look i j o _ hjn hi ho (hop i hi) (fun e => hne e) t htl hd' with ⟨hlt, he⟩ | ⟨hlt, he⟩
            · obtain ⟨e, he1, he2, he3⟩ := hasEdge_spec he
              have hSi : listed.getD i true = true := hin i (he2 ▸ hpred e he1 he3)
              rw [hinv.set i hi hSi t hd hlen hal1, p5 i hlt t hd hlen hal2]
            · obtain ⟨e, he1, he2, he3⟩ := hasEdge_spec he
              have hSi : ¬ listed.getD i true = true := fun hSi => by
                have := hin _ (he2 ▸ hcl i _ (hop i hi) hSi e he1 he3)
                rw [hlj] at this; cases this
              have huniq : ∀ k, k < m → dstF ops k = some t → k = i := fun k hk hdk => by
                by_cases e : k = i
                · exact e
                · exact absurd (hdk.trans hd.symm) (F.dis k i hk hi e (by rw [hdk]; simp))
              rw [hinv.old t (fun k hk hSk hdk => hSi (huniq k hk hdk ▸ hSk)), p6 t (fun k hk hdk => by have := huniq k (by omega) hdk; omega)]
          · have hno : ∀ k, k < m → k ≠ j → dstF ops k ≠ some t := fun k hk hne hd => hex ⟨k, hk, hne, hd⟩
            rw [hinv.old t (fun k hk hSk hdk => by
              by_cases e : k = j
              · subst e; rw [hlj] at hSk; cases hSk
              · exact hno k hk e hdk), p6 t (fun k hk => hno k (by omega) (by omega))]
        · have h1 : τ.t.length ≤ t := by rw [hinv.len]; exact Nat.le_of_not_lt hlen
          have h2 : (pre j).t.length ≤ t := by rw [p4]; exact Nat.le_of_not_lt hlen
          simp [List.getD_eq_getElem?_getD, List.getElem?_eq_none h1, List.getElem?_eq_none h2]
      obtain ⟨hev, hgd⟩ := looks_ev (σ := pre j) (τ := τ) hlook
      have hmore : ∀ r ob, getA (pre j).o r = some ob → getA τ.o r = some ob := by
        intro r ob hrob
        have hrob' : getA ((pre j).l ++ (pre j).g) r = some ob := hrob
        rw [p3, p2, getA_append] at hrob'
        show getA (τ.l ++ τ.g) r = some ob
        rw [getA_append]
        cases hl : getA σ.l r with
        | some ob' =>
          rw [hl] at hrob'
          rw [hinv.lold r ob' hl]; exact hrob'
        | none =>
          rw [hl] at hrob'
          have hg' : getA τ.g r = some ob := by rw [hinv.g]; exact hrob'
          cases hτ : getA τ.l r with
          | none => exact hg'
          | some ob' =>
            have e1 := hr.loc r ob' hτ
            have e2 := hr.out r ob hg'
            omega
      have hsel : ∀ (as : List Operand), (∀ t, Operand.tmp t ∈ as → t ∈ Oper.looksAt ops o) → ∀ r ob, getA (selA as (LL j) ++ (pre j).o) r = some ob → getA τ.o r = some ob := by
        intro as has r ob hrob
        rw [getA_append] at hrob
        split at hrob
        · rename_i ob' hsl
          cases hrob
          obtain ⟨k1, k2⟩ := selA_get hsl
          obtain ⟨t, k3, k4, k5⟩ := hasA_get k1
          obtain ⟨i, hij, k6, _⟩ := LL2_from ht.l0 F.lls j (Nat.le_of_lt hjn) k2
          obtain ⟨N, hN, q, hq, hr2⟩ := F.root i (by omega) _ _ k6
          have hdt : dstF ops i = some t := by
            rw [hr2] at k4 k5
            rw [hN]
            exact congrArg some (same64 k4 k5 hq)
          have htl := has t k3
          have hi : i < m := Nat.lt_trans hij hjn
          rcases hc.look i j o _ hjn hi ho (hop i hi) (by omega) t htl (by simpa [dstF, hop i hi] using hdt) with ⟨_, he⟩ | ⟨hlt, _⟩
          · obtain ⟨e, he1, he2, he3⟩ := hasEdge_spec he
            have hSi : listed.getD i true = true := hin i (he2 ▸ hpred e he1 he3)
            show getA (τ.l ++ τ.g) r = some ob
            rw [getA_append, hinv.lnew i hi hSi r ob k6 (fun j' hj' hS t' hk e => by
              have : N = t' := root64 (e.symm.trans hr2) hq
              rw [hdt] at hN
              cases hN
              exact hnotS j' t' hj' hS hk (this ▸ htl))]
          · omega
        · exact hmore r ob hrob
      have hset : (fun i => (listed.setIfInBounds j true).getD i true) = fun i => if i = j then true else listed.getD i true := by
        funext i
        simp only [Array.getD_eq_getD_getElem?]
        by_cases e : i = j
        · subst e; simp [hjl]
        · rw [Array.getElem?_setIfInBounds_ne (fun h => e h.symm), if_neg e]
      have hgo : ∀ τ' g' a' w', Inv2 m (dstF ops) (klF ops) res σ (fun i => if i = j then true else listed.getD i true) τ' → Rel g0 w0 τ' g' a' w' → wpAny P .any ops Q fuel (listed.setIfInBounds j true) a' w' := by
        intro τ' g' a' w' hτ' hr'
        refine ih (listed.setIfInBounds j true) (by simp [hsz]) ?_ ?_ (fun i hi1 hi2 => by
          rw [show (listed.setIfInBounds j true).getD i true = _ from congrFun hset i, if_neg (fun e => by subst e; exact absurd hjn (Nat.not_lt.2 hi1))]
          exact hB i hi1 hi2) τ' g' a' w' (by rw [hset]; exact hτ') hr'
        · unfold unlisted at hun ⊢
          have hb : listed.toList[j]'(by simpa using hjl) = false := by
            simpa [Array.getD, hjl] using hlj
          rw [Array.toList_setIfInBounds]
          have := List.countP_set (p := fun b => !b) (l := listed.toList) (a := true) (i := j) (h := by simpa using hjl)
          rw [this, hb, hun]; simp
        · intro k ok hok hk e he hbd
          have hkk : (if k = j then true else listed.getD k true) = true := by rw [← congrFun hset k]; exact hk
          have mono : ∀ m, listed.getD m false = true → (listed.setIfInBounds j true).getD m false = true := fun m hm => by
            simp only [Array.getD_eq_getD_getElem?] at hm ⊢
            by_cases e : m = j
            · subst e; simp [hjl]
            · rw [Array.getElem?_setIfInBounds_ne (fun h => e h.symm)]; exact hm
          by_cases ek : k = j
          · subst ek
            rw [ho] at hok; cases hok
            exact mono _ (hpred e he hbd)
          · rw [if_neg ek] at hkk
            exact mono _ (hcl k ok hok hkk e he hbd)
      have hS' : ∀ i, (if i = j then true else listed.getD i true) = true → i ≠ j → listed.getD i true = true := fun i h e => by rw [if_neg e] at h; exact h
      have hS2 : ∀ i, listed.getD i true = true → (if i = j then true else listed.getD i true) = true := fun i h => by
        by_cases e : i = j <;> simp [e, h]
      have hkl0 : ∀ t, killT ops o = some t → getA σ.o (σ.d, t * 64) = none := fun t h => F.kout j hjn t (by rw [hks]; exact h)
      cases hkj : killT ops o with
      | none =>
        have hkn : klF ops j = none := by rw [hks]; exact hkj
        unfold Stp2 at hstp
        rw [hkj] at hstp
        have hsn : ∀ j', (if j' = j then true else listed.getD j' true) = true → ∀ t, klF ops j' = some t → listed.getD j' true = true := fun j' hS t hk => hS' j' hS (fun e => by subst e; rw [hkn] at hk; cases hk)
        have hnext : ∀ τ' g' a' w', τ' = put { τ with l := (res j).2 ++ τ.l } o.dst (res j).1 → Rel g0 w0 τ' g' a' w' → wpAny P .any ops Q fuel (listed.setIfInBounds j true) a' w' := by
          intro τ' g' a' w' hτ' hr'
          refine hgo τ' g' a' w' ?_ hr'
          subst hτ'
          refine ⟨by rw [put_d]; exact hinv.d, by rw [put_g]; exact hinv.g, by rw [put_len]; exact hinv.len, ?_, ?_, ?_, ?_, ?_, ?_⟩
          · intro i hi hSi t hdt hlt hal
            rw [getD_put]
            by_cases e : i = j
            · subst e
              rw [if_pos ⟨by rw [← hds]; exact hdt, by show t < τ.t.length; rw [hinv.len]; exact hlt⟩]
            · rw [if_neg (fun h => F.dis i j hi hjn e (by rw [hdt]; simp) (by rw [hdt, hds, h.1]))]
              exact hinv.set i hi (hS' i hSi e) t hdt hlt (fun j' hj' hS => hal j' hj' (hS2 j' hS))
          · intro j' hj' hSj t hk hlt
            have hS := hsn j' hSj t hk
            rw [getD_put, if_neg (fun h => hdk j' hj' (.inl hS) t hk (by rw [hds]; exact h.1))]
            exact hinv.off j' hj' hS t hk hlt
          · intro t htn
            rw [getD_put, if_neg (fun h => htn j hjn (by simp) (by rw [hds]; exact h.1))]
            exact hinv.old t (fun i hi hSi => htn i hi (hS2 i hSi))
          · intro r ob hrob
            rw [put_l]
            show getA ((res j).2 ++ τ.l) r = some ob
            rw [getA_append]
            cases h : getA (res j).2 r with
            | none => exact hinv.lold r ob hrob
            | some ob' => have := F.notl j hjn r (by rw [h]; simp); rw [this] at hrob; cases hrob
          · intro i hi hSi r ob hrob hal
            rw [put_l]
            show getA ((res j).2 ++ τ.l) r = some ob
            rw [getA_append]
            by_cases e : i = j
            · subst e; rw [hrob]
            · have := F.nots j i hjn hi (fun h => e h.symm) r (by rw [hrob]; simp)
              rw [this]
              exact hinv.lnew i hi (hS' i hSi e) r ob hrob (fun j' hj' hS => hal j' hj' (hS2 j' hS))
          · intro r ob hrob
            rw [put_l] at hrob
            change getA ((res j).2 ++ τ.l) r = some ob at hrob
            rw [getA_append] at hrob
            cases h : getA (res j).2 r with
            | some ob' =>
              rw [h] at hrob; cases hrob
              refine .inr ⟨j, hjn, by simp, h, fun j' hj' hSj t hk e => ?_⟩
              obtain ⟨N, hN, q, hq, hr2⟩ := F.root j hjn _ _ h
              have : N = t := root64 (e.symm.trans hr2) hq
              exact hdk j' hj' (.inl (hsn j' hSj t hk)) t hk (by rw [hN, this])
            | none =>
              rw [h] at hrob
              rcases hinv.lback r ob hrob with h1 | ⟨i, hi, hSi, h1, h2⟩
              · exact .inl h1
              · exact .inr ⟨i, hi, hS2 i hSi, h1, fun j' hj' hSj t hk => h2 j' hj' (hsn j' hSj t hk) t hk⟩
        unfold wpOp
        simp only [ho]
        rcases hstp with ⟨hg, hE⟩ | ⟨hg, hv, hl⟩
        · rw [← hgd] at hg
          rw [if_pos (gd_spec hr hg)]
          have hmore2 : ∀ f as ats, o.op = .call { callee := .value (.func f), args := as, argTypes := ats } → ∀ r ob, getA (selA as.toList (LL j) ++ (pre j).o) r = some ob → getA τ.o r = some ob := fun f as ats hop2 => hsel as.toList fun t k3 => by
            unfold Oper.looksAt
            exact List.mem_append_left _ (List.mem_filterMap.2 ⟨.tmp t, Array.mem_toList_iff.2 (by rw [hop2]; simp [Op.operands, Call.operands]; exact Array.mem_toList_iff.1 k3), rfl⟩)
          refine .inl (OpE_sound (σ := τ) (OpE_local hev (by rw [hinv.d, p1]) hmore hmore2 hE) ?_ hr fun g' a' w' hr' => hnext _ g' a' w' rfl hr')
          refine freshR_of fun r hrr => ?_
          cases hτ : getA τ.l r with
          | none => rfl
          | some ob =>
            rcases hinv.lback r ob hτ with h1 | ⟨i, hi, hSi, h1, _⟩
            · rw [F.notl j hjn r hrr] at h1; cases h1
            · have hne : i ≠ j := fun e => by
                have hSi' : listed.getD i true = true := hSi
                rw [e, hlj] at hSi'; cases hSi'
              rw [F.nots i j hi hjn hne r hrr] at h1; cases h1
        · rw [← hgd] at hg
          rw [if_neg (by rw [gd_spec hr hg]; simp)]
          refine hnext (put { τ with l := (res j).2 ++ τ.l } o.dst (res j).1) g _ _ rfl ?_
          rw [hl, hv]
          exact hr.put o.dst (v := .x (.one (.v (.tuple #[])))) (y := undef) rfl
      | some t0 =>
        have hkn : klF ops j = some t0 := by rw [hks]; exact hkj
        have hout := hkl0 t0 hkj
        unfold Stp2 at hstp
        rw [hkj] at hstp
        obtain ⟨hg, N, tt, tx, y, e, i, z, R, X, hN, hop2, c1, c2, c3, c4, c5, hx, hL, hsrc, c6, c7, c8, hv, hl⟩ := hstp
        rw [p1] at hx hL hv hl
        have hdj : dstF ops j = some N := by rw [hds]; exact hN
        have htl0 : t0 ∈ Oper.looksAt ops o := kill_looks hkj
        have hx' : ev τ (.tmp t0) = .x (.one (.rs (σ.d, t0 * 64) [] i.size 0 R.length)) := by
          rw [← hx]
          exact hlook t0 htl0
        have hob : getA τ.l (σ.d, t0 * 64) = some ⟨.sl, i.size, R⟩ := by
          obtain ⟨i0, hij, k6, _⟩ := LL2_from ht.l0 F.lls j (Nat.le_of_lt hjn) hL
          obtain ⟨N', hN', q, hq, hr2⟩ := F.root i0 (by omega) _ _ k6
          have hNt : N' = t0 := root64 hr2 hq
          have hdt : dstF ops i0 = some t0 := by rw [hN', hNt]
          have hi0 : i0 < m := Nat.lt_trans hij hjn
          rcases hc.look i0 j o _ hjn hi0 ho (hop i0 hi0) (by omega) t0 htl0 (by simpa [dstF, hop i0 hi0] using hdt) with ⟨_, he⟩ | ⟨hlt, _⟩
          · obtain ⟨e', he1, he2, he3⟩ := hasEdge_spec he
            have hSi : listed.getD i0 true = true := hin i0 (he2 ▸ hpred e' he1 he3)
            exact hinv.lnew i0 hi0 hSi _ _ k6 (fun j' hj' hS t' hk e' => by
              have : t0 = t' := mul64 e'
              subst this
              exact hnotS j' t0 hj' hS hk htl0)
          · omega
        have hyl : ∀ t, Operand.tmp t ∈ [y] → t ∈ Oper.looksAt ops o := fun t hm => by
          unfold Oper.looksAt
          refine List.mem_append_left _ (List.mem_filterMap.2 ⟨.tmp t, ?_, rfl⟩)
          rw [hop2]
          rw [List.mem_singleton] at hm
          subst hm
          simp [Op.operands, Call.operands]
        have hevy : ev τ y = ev (pre j) y := hev y (by rw [hop2]; simp [Op.operands, Call.operands])
        have hsrc' : srcRows P τ.o tx (ev τ y) = some (i.size, X) := by rw [hevy]; exact srcRows_more (hsel [y] hyl) hsrc
        have hbox : ∀ r' ob, getA τ.o r' = some ob → ob.kind = .box → hasRows (τ.d, t0 * 64) ob.rows = false := fun r' ob h1 hb => by
          rw [hinv.d]
          have h2 : getA (τ.l ++ τ.g) r' = some ob := h1
          rw [getA_append] at h2
          cases h3 : getA τ.l r' with
          | some ob' =>
            rw [h3] at h2; cases h2
            rcases hinv.lback r' ob h3 with h4 | ⟨i', hi', _, h4, _⟩
            · exact ht.noL _ _ _ hout h4 hb
            · exact F.boxr i' hi' _ _ h4 hb _
          | none =>
            rw [h3, hinv.g] at h2
            exact ht.noG _ _ _ hout h2 hb
        have hlroot : getA (res j).2 (σ.d, N * 64) = some ⟨.sl, i.size, R ++ X⟩ := by rw [hl]; simp [getA]
        have hNl : getA τ.l (σ.d, N * 64) = none := by
          cases hτ : getA τ.l (σ.d, N * 64) with
          | none => rfl
          | some ob =>
            rcases hinv.lback _ ob hτ with h1 | ⟨i', hi', hSi, h1, _⟩
            · rw [F.notl j hjn _ (by rw [hlroot]; simp)] at h1; cases h1
            · have hne : i' ≠ j := fun e' => by
                have hSi' : listed.getD i' true = true := hSi
                rw [e', hlj] at hSi'; cases hSi'
              rw [F.nots i' j hi' hjn hne _ (by rw [hlroot]; simp)] at h1; cases h1
        have hf : getA (delA τ.l (τ.d, t0 * 64)) (τ.d, N * 64) = none := by
          rw [getA_delA, hinv.d]
          split
          · rfl
          · exact hNl
        unfold wpOp
        simp only [ho]
        rw [← hgd] at hg
        rw [if_pos (gd_spec hr hg)]
        refine .inl (append_kill (τ := τ) (N := N) (R := R) (X := X) hr hop2 c1 c2 c3 c4 c5 (by rw [hinv.d]; exact hx') (by rw [hinv.d]; exact hob) hsrc' c6 c7 c8 hf hbox fun g' a' w' hr' => hgo _ g' a' w' ?_ hr')
        rw [hinv.d]
        rw [← hv]
        refine ⟨by rw [put_d], by rw [put_g]; exact hinv.g, by rw [put_len]; simpa using hinv.len, ?_, ?_, ?_, ?_, ?_, ?_⟩
        · intro i' hi' hSi t hdt hlt hal
          rw [getD_put]
          by_cases e' : i' = j
          · subst e'
            rw [if_pos ⟨by rw [← hds]; exact hdt, by show t < (τ.t.map _).length; rw [List.length_map, hinv.len]; exact hlt⟩]
          · rw [if_neg (fun h => F.dis i' j hi' hjn e' (by rw [hdt]; simp) (by rw [hdt, hds, h.1]))]
            show (τ.t.map (killV (σ.d, t0 * 64))).getD t badV = _
            rw [killV_getD, hinv.set i' hi' (hS' i' hSi e') t hdt hlt (fun j' hj' hS => hal j' hj' (hS2 j' hS))]
            refine killV_of (F.clean i' j hi' hjn t0 hkn fun h => ?_)
            rw [hdt] at h
            cases h
            exact hal j hjn (by simp) hkn
        · intro j' hj' hSj t hk hlt
          have hd' : dstF ops j ≠ some t := hdk j' hj' (by by_cases e' : j' = j; exact .inr e'; exact .inl (hS' j' hSj e')) t hk
          rw [getD_put, if_neg (fun h => hd' (by rw [hds]; exact h.1))]
          show (τ.t.map (killV (σ.d, t0 * 64))).getD t badV = badV
          rw [killV_getD]
          by_cases e' : j' = j
          · subst e'
            rw [hkn] at hk
            cases hk
            rw [show τ.t.getD t0 badV = ev τ (.tmp t0) from rfl, hx']
            unfold killV
            rw [if_pos (by simp [hasV, hasX, hasC])]
          · rw [hinv.off j' hj' (hS' j' hSj e') t hk hlt]; rfl
        · intro t htn
          rw [getD_put, if_neg (fun h => htn j hjn (by simp) (by rw [hds]; exact h.1))]
          show (τ.t.map (killV (σ.d, t0 * 64))).getD t badV = _
          rw [killV_getD, hinv.old t (fun i' hi' hSi => htn i' hi' (hS2 i' hSi))]
          exact killV_of (ht.noT _ hout t)
        · intro r ob hrob
          rw [put_l]
          show (if (σ.d, N * 64) = r then _ else _) = some ob
          rw [if_neg (fun e' => by
            subst e'
            rw [F.notl j hjn _ (by rw [hlroot]; simp)] at hrob; cases hrob)]
          rw [getA_delA, if_neg (fun e' => by
            subst e'
            have : getA (σ.l ++ σ.g) (σ.d, t0 * 64) = none := hout
            rw [getA_append, hrob] at this; cases this)]
          exact hinv.lold r ob hrob
        · intro i' hi' hSi r ob hrob hal
          rw [put_l]
          show (if (σ.d, N * 64) = r then _ else _) = some ob
          by_cases e' : i' = j
          · subst e'
            have hrr : (σ.d, N * 64) = r := by
              rw [hl] at hrob
              simp only [getA] at hrob
              split at hrob
              · assumption
              · cases hrob
            rw [if_pos hrr]
            rw [← hrr, hlroot] at hrob
            exact hrob
          · rw [if_neg (fun h => by
              subst h
              rw [F.nots i' j hi' hjn e' _ (by rw [hlroot]; simp)] at hrob; cases hrob)]
            rw [getA_delA, if_neg (fun h => hal j hjn (by simp) t0 hkn h.symm)]
            exact hinv.lnew i' hi' (hS' i' hSi e') r ob hrob (fun j' hj' hS => hal j' hj' (hS2 j' hS))
        · intro r ob hrob
          rw [put_l] at hrob
          change (if (σ.d, N * 64) = r then some (⟨.sl, i.size, R ++ X⟩ : Obj') else getA (delA τ.l (σ.d, t0 * 64)) r) = some ob at hrob
          split at hrob
          · rename_i hrr
            subst hrr
            cases hrob
            refine .inr ⟨j, hjn, by simp, hlroot, fun j' hj' hSj t hk e' => ?_⟩
            have hNt : N = t := mul64 e'
            exact hdk j' hj' (by by_cases e' : j' = j; exact .inr e'; exact .inl (hS' j' hSj e')) t hk (by rw [hdj, hNt])
          · rw [getA_delA] at hrob
            split at hrob
            · cases hrob
            · rename_i hne
              rcases hinv.lback r ob hrob with h1 | ⟨i', hi', hSi, h1, h2⟩
              · exact .inl h1
              · refine .inr ⟨i', hi', hS2 i' hSi, h1, fun j' hj' hSj t hk => ?_⟩
                by_cases e' : j' = j
                · subst e'
                  rw [hkn] at hk
                  cases hk
                  exact fun h => hne h.symm
                · exact h2 j' hj' (hS' j' hSj e') t hk
    by_cases hA : ∃ i, i < m ∧ listed.getD i true = false ∧ floatB ops m i = false
    · refine ⟨fun hnil => ?_, fun j hj => step j hj ?_⟩
      · obtain ⟨j, _, _, h⟩ := least
        rw [hnil] at h; cases h
      · obtain ⟨o, ho, hlj, hpred⟩ := ready_spec hj
        rcases Nat.lt_or_ge j m with h | h
        · exact h
        · exfalso
          obtain ⟨i, hi1, hi2, hi3⟩ := hA
          rcases hc.last j o h ho i (Nat.lt_of_lt_of_le hi1 h) with h4 | h4
          · have h3 := reach_listed (listed := listed) (fun j o hjo hl => hcl j o hjo (hin j hl)) 8 j o ho hpred h4
            rw [hin i h3] at hi2; cases hi2
          · rw [hi3] at h4; cases h4
    · obtain ⟨i, hi1, hi2, hready⟩ := least
      have hall2 : ∀ i, i < m → listed.getD i true = false → floatB ops m i = true := fun i h1 h2 => by
        cases h3 : floatB ops m i with
        | true => rfl
        | false => exact absurd ⟨i, h1, h2, h3⟩ hA
      obtain ⟨_, oi, hoi, hfk, hap⟩ := floatB_spec (hall2 i hi1 hi2)
      obtain ⟨v, hy, hK⟩ := flK_step hoi hfk hL (step i hready hi1)
      refine wpAny_first hoi (Region.noSelect_spec hc.nsel) (fun c a w h => absurd h (hP _ _ _)) fuel listed a w (fun j oj hoj hne hun hno => ?_) hready hy hK
      rcases hap j oj hne hoj with ⟨h1, h2⟩ | h1 | h1 | h1
      · obtain ⟨_, oj', hoj', h3, _⟩ := floatB_spec (hall2 j h1 hun)
        rw [hoj] at hoj'; cases hoj'
        rw [h2] at h3; cases h3
      · obtain ⟨e, he1, he2, he3⟩ := hasEdge_spec h1
        exact absurd he2 (hno e he1 he3)
      · obtain ⟨_, oi', hoi', hpr⟩ := mem_ready.1 hready
        rw [hoi] at hoi'; cases hoi'
        obtain ⟨e, he1, he2, he3⟩ := hasEdge_spec h1
        have := hin j (he2 ▸ hpr e he1 he3)
        rw [hun] at this; cases this
      · exact h1

/-! ### the rest, in the order of the text -/
theorem tail2_main [Tb P g0 w0] {m : Nat} (hc : Chk2 ops m) {K : St → Prop} {Q : Exit → Act → World → Prop} (hfin : ∀ σ' g' a' w', K σ' → Rel g0 w0 σ' g' a' w' → Q .normal a' w') :
    ∀ (fuel : Nat) (k : Nat) (listed : Array Bool) (τ : St) (g : Gh) (a : Act) (w : World), m ≤ k → k + fuel = ops.size → listed.size = ops.size → (∀ i, i < k → listed.getD i true = true) → (∀ i, k ≤ i → i < ops.size → listed.getD i true = false) →
      Wlist wop P ops (ops.toList.drop k) τ K → Rel g0 w0 τ g a w → wpAny P .any ops Q fuel listed a w := by
  intro fuel
  have inl : ∀ (listed : Array Bool) i, listed.size = ops.size → i < ops.size → listed.getD i true = true → listed.getD i false = true := fun listed i hsz hi h => by
    have : i < listed.size := by omega
    simpa [Array.getD, this] using h
  induction fuel with
  | zero =>
    intro k listed τ g a w hmk hk hsz hdone htodo hw hr
    have hd : ops.toList.drop k = [] := List.drop_eq_nil_of_le (by simp; omega)
    rw [hd] at hw
    refine ⟨?_, hfin τ g a w hw hr⟩
    unfold Region.ready
    rw [List.filter_eq_nil_iff]
    intro i hi
    have : i < ops.size := List.mem_range.1 hi
    simp [hdone i (by omega)]
  | succ fuel ih =>
    intro k listed τ g a w hmk hk hsz hdone htodo hw hr
    have hkl : k < ops.size := by omega
    have hok : ops[k]? = some ops[k] := by simp [hkl]
    have hready : k ∈ Region.ready .any ops listed := ready_of hok (htodo k (Nat.le_refl _) hkl) fun e he hb => by
      have := hc.edge k _ hok e he hb
      exact inl listed _ hsz (by omega) (hdone e.on this)
    refine ⟨fun h => (by rw [h] at hready; cases hready), fun j hj => ?_⟩
    obtain ⟨o, ho, hlj, hpred⟩ := ready_spec hj
    have hjs : j < ops.size := by
      rcases Nat.lt_or_ge j ops.size with h | h
      · exact h
      · rw [Array.getElem?_eq_none h] at ho; cases ho
    have hjk : j = k := by
      rcases Nat.lt_trichotomy j k with h | h | h
      · rw [hdone j h] at hlj; cases hlj
      · exact h
      · exfalso
        have hlt : ∀ j', j' < ops.size → listed.getD j' false = true → j' < k := fun j' hj' hl => by
          rcases Nat.lt_or_ge j' k with h' | h'
          · exact h'
          · have h4 := htodo j' h' hj'
            have hil : j' < listed.size := by omega
            simp [Array.getD, hil] at h4 hl
            rw [h4] at hl; cases hl
        have h3 := reach_listed (listed := listed) (fun j' o' hjo hl e he hb => by
          have hj's : j' < ops.size := by
            rcases Nat.lt_or_ge j' ops.size with h' | h'
            · exact h'
            · rw [Array.getElem?_eq_none h'] at hjo; cases hjo
          have h5 := hlt j' hj's hl
          have h6 := hc.edge j' o' hjo e he hb
          exact inl listed e.on hsz (by omega) (hdone e.on (by omega))) 8 j o ho hpred ((hc.last j o (by omega) ho k h).resolve_right fun hf => by have := (floatB_spec hf).1; omega)
        have := hlt k hkl h3
        omega
    subst hjk
    rw [hok] at ho
    cases ho
    have hdrop : ops.toList.drop j = ops[j] :: ops.toList.drop (j + 1) := by
      rw [List.drop_eq_getElem_cons (by simpa using hkl)]; simp
    rw [hdrop] at hw
    unfold Wlist at hw
    have hnext : ∀ τ' g' a' w', Wlist wop P ops (ops.toList.drop (j + 1)) τ' K → Rel g0 w0 τ' g' a' w' → wpAny P .any ops Q fuel (listed.setIfInBounds j true) a' w' := fun τ' g' a' w' hw' hr' => by
      refine ih (j + 1) _ τ' g' a' w' (by omega) (by omega) (by simp [hsz]) (fun i hi => ?_) (fun i hi1 hi2 => ?_) hw' hr'
      · simp only [Array.getD_eq_getD_getElem?]
        by_cases e : i = j
        · subst e; have : i < listed.size := by omega
          simp [this]
        · rw [Array.getElem?_setIfInBounds_ne (fun h => e h.symm)]
          have := hdone i (by omega)
          simpa [Array.getD_eq_getD_getElem?] using this
      · simp only [Array.getD_eq_getD_getElem?]
        rw [Array.getElem?_setIfInBounds_ne (by omega)]
        have := htodo i (by omega) hi2
        simpa [Array.getD_eq_getD_getElem?] using this
    unfold wpOp
    simp only [hok]
    split at hw
    · rename_i hg
      rw [if_pos (gd_spec hr hg)]
      exact .inl (wop_sound g0 w0 _ τ g a w _ _ _ hw hr fun σ' g' a' w' hk' hr' => hnext σ' g' a' w' hk' hr')
    · rename_i hg
      rw [if_neg (by rw [gd_spec hr hg]; simp)]
      exact hnext _ g _ _ hw (hr.put _ (v := .x (.one (.v (.tuple #[])))) (y := undef) rfl)
    · exact hw.elim


theorem wdraw2_sound : DrawSound wdraw2 P := by
  intro g0 w0 _ id ops σ g a w K hw hr
  obtain ⟨hm, hok, hrun⟩ := hw
  have hc := drawOk2_chk hok
  obtain ⟨res, pre, LL, e1, e2, e3, e4⟩ := DRun2_spec _ _ _ hrun
  generalize hmm : headLen2 ops ops.toList = m at *
  have ht : Text2 P ops σ m res pre LL := ⟨hc, e1, e2, fun j o hjm hj => e3 j o hjm (by simpa using hj), fun r hn k => hr.noRefT hn k,
    fun r r' ob hn h1 hb => hr.noRefO hn (by show getA (σ.l ++ σ.g) r' = _; rw [getA_append, h1]) hb,
    fun r r' ob hn h1 hb => hr.noRefO hn (by
      show getA (σ.l ++ σ.g) r' = some ob
      rw [getA_append]
      cases e : getA σ.l r' with
      | none => exact h1
      | some ob' => have q1 := hr.loc r' ob' e; have q2 := hr.out r' ob h1; omega) hb, hr.out⟩
  have F := ht.facts
  refine wp_region_any hm (draw2_main ht ?_ ?_ ?_ ops.size _ (by simp) (by simp [unlisted, List.countP_replicate]) ?_ (fun i _ hi => by simp [Array.getD, hi]) σ g a _ ?_ hr.drew)
  · rintro ⟨a, w, e, he, _⟩; cases he
  · rintro c a w ⟨e, he, _⟩; cases he
  · intro fuel listed τ g' a' w' hsz hun hall hB hinv hr'
    have hpre := pre2_spec (σ := σ) (dst := dstF ops) (kl := klF ops) (res := res) (pre := pre) m e1 F.pres F.dis (fun j hj t hk => by obtain ⟨i, h1, h2, _⟩ := F.maker j hj t hk; exact ⟨i, h1, h2⟩) m (Nat.le_refl _)
    obtain ⟨p1, p2, p3, p4, p5, p5D, p6⟩ := hpre
    have hlab : ∀ i, i < m → ∀ r ob, getA (res i).2 r = some ob → ∀ j, j < m → ∀ t, klF ops j = some t → r = (σ.d, t * 64) → i < j := fun i hi r ob hri j hj t hk he => by
      obtain ⟨i0, hi0, hd0, _⟩ := F.maker j hj t hk
      obtain ⟨N, hN, q, hq, hr2⟩ := F.root i hi r ob hri
      have hNt : N = t := root64 (he.symm.trans hr2) hq
      by_cases e : i = i0
      · rw [e]; exact hi0
      · exact absurd (by rw [hN, hd0, hNt]) (F.dis i i0 hi (by omega) e (by rw [hN]; simp))
    have hrel : Rel g0 w0 { pre m with l := LL m ++ σ.l } g' a' w' := by
      refine Rel.ext (τ := τ) ?_ (by rw [hinv.d]; exact p1) (by rw [hinv.g]; exact p2) ?_ hr'
      · show (pre m).t = τ.t
        apply List.ext_getElem (by rw [p4, hinv.len])
        intro t h1 h2
        have hlt : t < σ.t.length := by rw [← p4]; exact h1
        have : (pre m).t.getD t badV = τ.t.getD t badV := by
          by_cases hkx : ∃ j, j < m ∧ klF ops j = some t
          · obtain ⟨j, hj, hk⟩ := hkx
            rw [p5D j hj t hk hlt, hinv.off j hj rfl t hk hlt]
          · by_cases hex : ∃ i, i < m ∧ dstF ops i = some t
            · obtain ⟨i, hi, hd⟩ := hex
              rw [p5 i hi t hd hlt (fun k hk h => hkx ⟨k, hk, h⟩), hinv.set i hi rfl t hd hlt (fun k hk _ h => hkx ⟨k, hk, h⟩)]
            · rw [p6 t (fun i hi hd => hex ⟨i, hi, hd⟩), hinv.old t (fun i hi _ hd => hex ⟨i, hi, hd⟩)]
        simpa [List.getD_eq_getElem?_getD, List.getElem?_eq_getElem h1, List.getElem?_eq_getElem h2] using this
      · intro r
        show getA (LL m ++ σ.l) r = getA τ.l r
        rw [getA_append]
        cases h : getA (LL m) r with
        | some ob =>
          obtain ⟨i, hi, h1, h2⟩ := LL2_from e2 F.lls m (Nat.le_refl _) h
          exact (hinv.lnew i hi rfl r ob h1 (fun j hj _ t hk he => h2 j (hlab i hi r ob h1 j hj t hk he) hj t hk he)).symm
        | none =>
          simp only []
          cases hl : getA σ.l r with
          | some ob => exact (hinv.lold r ob hl).symm
          | none =>
            cases hτ : getA τ.l r with
            | none => rfl
            | some ob =>
              rcases hinv.lback r ob hτ with h1 | ⟨i, hi, _, h1, h2⟩
              · rw [hl] at h1; cases h1
              · exact absurd h (LL2_has F.lls (by rw [h1]; simp) (fun j hj t hk => h2 j hj rfl t hk) m hi (Nat.le_refl _))
    have hfuel : m + fuel = ops.size := by
      have hcount : ∀ (l : List Bool) (m : Nat), m ≤ l.length → (∀ i, i < m → l.getD i true = true) → (∀ i, m ≤ i → i < l.length → l.getD i true = false) → m + l.countP (fun b => !b) = l.length := by
        intro l
        induction l with
        | nil => intro m hm _ _; simp at hm ⊢; exact hm
        | cons b l ih =>
          intro m hm h1 h2
          cases m with
          | zero =>
            have hb : b = false := by simpa using h2 0 (Nat.le_refl _) (by simp)
            have := ih 0 (Nat.zero_le _) (fun i hi => absurd hi (Nat.not_lt_zero _)) (fun i _ hi => by simpa using h2 (i + 1) (by omega) (by simpa using hi))
            subst hb; simp at this ⊢; exact this
          | succ m =>
            have hb : b = true := by simpa using h1 0 (by omega)
            have := ih m (by simpa using hm) (fun i hi => by simpa using h1 (i + 1) (by omega)) (fun i hi hi2 => by simpa using h2 (i + 1) (by omega) (by simpa using hi2))
            subst hb; simp; omega
      have h := hcount listed.toList m (by simp [hsz]; exact hc.le) (fun i hi => by have := hall i hi; simpa [Array.getD_eq_getD_getElem?, List.getD_eq_getElem?_getD] using this)
        (fun i hi hi2 => by have := hB i hi (by simpa [hsz] using hi2); simpa [Array.getD_eq_getD_getElem?, List.getD_eq_getElem?_getD] using this)
      unfold unlisted at hun
      rw [hun] at h
      simpa [hsz] using h
    exact tail2_main hc (fun σ' g' a' w' hk' hr' => ⟨.normal, rfl, σ', g', ⟨rfl, hk'⟩, hr'⟩) fuel m listed _ g' a' w' (Nat.le_refl _) hfuel hsz hall hB e4 hrel
  · intro j o hj hl e he hb
    exfalso
    have hlt : j < ops.size := by
      rcases Nat.lt_or_ge j ops.size with h | h
      · exact h
      · rw [Array.getElem?_eq_none h] at hj; cases hj
    simp [Array.getD, hlt] at hl
  · have hlt : ∀ i, i < m → i < ops.size := fun i hi => Nat.lt_of_lt_of_le hi hc.le
    refine ⟨rfl, rfl, rfl, fun i hi hS => ?_, fun i hi hS => ?_, fun _ _ => rfl, fun _ _ h => h, fun i hi hS => ?_, fun _ _ h => .inl h⟩ <;>
    · exfalso; simp [Array.getD, hlt i hi] at hS
/-- A region in which no slice of its own is appended to. -/
theorem DRun_DRun2 (hk : ∀ o ∈ ops.toList, killT ops o = none) {K : St → Prop} : ∀ (l : List Oper) (σ : St) (L : Store), (∀ o ∈ l, o ∈ ops.toList) → DRun P ops l σ L K → DRun2 P ops l σ L K
  | [], σ, L, _, h => h
  | o :: l, σ, L, hm, h => by
    have hko := hk o (hm o (List.mem_cons_self ..))
    have hks : killsOf (opsL ops) = [] := by
      unfold killsOf opsL
      rw [List.filterMap_eq_nil_iff]
      intro p hp
      obtain ⟨o', ho', rfl⟩ := List.mem_map.1 hp
      exact hk o' ho'
    have hcl : ∀ v, cleanV σ.d (killsOf (opsL ops)) o.dst v = true := fun v => by rw [hks]; rfl
    have ih := fun σ' L' h' => DRun_DRun2 hk (K := K) l σ' L' (fun o' ho' => hm o' (List.mem_cons_of_mem _ ho')) h'
    unfold DRun at h
    unfold DRun2
    have heff : isEff2 ops o = isEff o.op := by unfold isEff2; rw [hko]; simp
    rw [heff]
    split at h
    · rename_i he; rw [if_pos he]; exact h
    · rename_i he
      rw [if_neg he]
      split at h
      · rename_i hg
        obtain ⟨v, s, h1, h2, h3⟩ := h
        refine ⟨v, s, ?_, h2, hcl v, ?_⟩
        · unfold Stp2; rw [hko]; exact .inl ⟨hg, h1⟩
        · rw [hko]; exact ih _ _ h3
      · rename_i hg
        refine ⟨.x (.one (.v (.tuple #[]))), [], ?_, rfl, hcl _, ?_⟩
        · unfold Stp2; rw [hko]; exact .inr ⟨hg, rfl, rfl⟩
        · rw [hko]; exact ih _ _ h
      · exact h.elim
end
end Go.Rx

/- Regions of open order, explored: every order is run. -/
namespace Go.Rx
open Go.RowKit
section
variable {P : Program} {w0 : World} {g0 : Gh} {ops : Array Oper} {K : St → Prop} {Q : Exit → Act → World → Prop}
def WAny (P : Program) (ops : Array Oper) (K : St → Prop) : Nat → Array Bool → St → Prop
  | 0, listed, σ => Region.ready .any ops listed = [] ∧ K σ
  | f + 1, listed, σ => (Region.ready .any ops listed = [] → K σ) ∧ ∀ i ∈ Region.ready .any ops listed, match ops[i]? with
    | none => False
    | some o => match gd σ ops o with
      | some true => wop P o σ (WAny P ops K f (listed.setIfInBounds i true))
      | some false => WAny P ops K f (listed.setIfInBounds i true) (put σ o.dst (.x (.one (.v (.tuple #[])))))
      | none => False
theorem WAny_sound [Tb P g0 w0] (hk : ∀ σ' g' a' w', K σ' → Rel g0 w0 σ' g' a' w' → Q .normal a' w') : ∀ (f : Nat) (listed : Array Bool) (σ : St) (g : Gh) (a : Act) (w : World),
    WAny P ops K f listed σ → Rel g0 w0 σ g a w → wpAny P .any ops Q f listed a w
  | 0, listed, σ, g, a, w, h, hr => ⟨h.1, hk _ _ _ _ h.2 hr⟩
  | f + 1, listed, σ, g, a, w, h, hr => by
    refine ⟨fun hn => hk _ _ _ _ (h.1 hn) hr, fun i hi => ?_⟩
    have h1 := h.2 i hi
    unfold wpOp
    cases ho : ops[i]? with
    | none => rw [ho] at h1; exact h1.elim
    | some o =>
      rw [ho] at h1
      simp only at h1 ⊢
      split at h1
      · rename_i hg
        rw [if_pos (gd_spec hr hg)]
        exact .inl (wop_sound g0 w0 _ σ g a w _ _ _ h1 hr fun σ' g' a' w' hk' hr' => WAny_sound hk f _ σ' g' a' w' hk' hr')
      · rename_i hg
        rw [if_neg (by rw [gd_spec hr hg]; simp)]
        exact WAny_sound hk f _ _ g _ w h1 (hr.put _ (v := .x (.one (.v (.tuple #[])))) (y := undef) rfl)
      · exact h1.elim
def wdraw : DrawW := fun P ops σ K => wdraw2 P ops σ K ∨ (P.follows .mixedOrders = true ∧ WAny P ops K ops.size (Array.replicate ops.size false) σ)
theorem wdraw_sound : DrawSound wdraw P := by
  intro g0 w0 _ id ops σ g a w K hw hr
  rcases hw with hw | ⟨hm, h⟩
  · exact wdraw2_sound g0 w0 id ops σ g a w K hw hr
  · exact wp_region_any hm (WAny_sound (fun σ' g' a' w' hk hr' => ⟨.normal, rfl, σ', g', ⟨rfl, hk⟩, hr'⟩) ops.size _ σ g a _ h hr.drew)

/-! ### with the edges as lists of numbers -/
def rdy (deps : List (List Nat)) (done : List Nat) : List Nat := (List.range deps.length).filter fun j => !done.contains j && (deps.getD j []).all done.contains
def depsO (o : Oper) : List Nat := (o.after.toList.filter (Region.binds .any)).map (·.on)
def depsL (ops : Array Oper) : List (List Nat) := ops.toList.map depsO
theorem rdy_ready {ops : Array Oper} {listed : Array Bool} {done : List Nat} (hl : listed.size = ops.size) (hd : ∀ j, listed.getD j false = done.contains j) (j : Nat) : j ∈ Region.ready .any ops listed ↔ j ∈ rdy (depsL ops) done := by
  rw [mem_ready]
  unfold rdy
  rw [List.mem_filter, List.mem_range]
  simp only [depsL, List.length_map, Array.length_toList, Bool.and_eq_true, Bool.not_eq_true']
  have hlt : ∀ o, ops[j]? = some o → j < ops.size := fun o h => (Array.getElem?_eq_some_iff.1 h).1
  have h2 : j < ops.size → (listed.getD j true = false ↔ done.contains j = false) := fun h => by
    rw [← hd j]
    have : j < listed.size := by omega
    simp [Array.getD, this]
  constructor
  · rintro ⟨h1, o, ho, h3⟩
    have hj := hlt o ho
    refine ⟨hj, (h2 hj).1 h1, ?_⟩
    have hg : (ops.toList.map depsO).getD j [] = depsO o := by
      rw [List.getD_eq_getElem?_getD, List.getElem?_map, Array.getElem?_toList, ho]; rfl
    rw [hg, List.all_eq_true]
    intro k hk
    obtain ⟨e, he, rfl⟩ := List.mem_map.1 hk
    obtain ⟨he1, he2⟩ := List.mem_filter.1 he
    rw [← hd e.on]
    exact h3 e (Array.mem_toList_iff.1 he1) he2
  · rintro ⟨hj, h1, h3⟩
    refine ⟨(h2 hj).2 h1, ops[j], by simp [hj], fun e he hb => ?_⟩
    have hg : (ops.toList.map depsO).getD j [] = depsO ops[j] := by
      rw [List.getD_eq_getElem?_getD, List.getElem?_map, Array.getElem?_toList]; simp [hj]
    rw [hg, List.all_eq_true] at h3
    have := h3 e.on (List.mem_map.2 ⟨e, List.mem_filter.2 ⟨Array.mem_toList_iff.2 he, hb⟩, rfl⟩)
    rw [hd e.on]; exact this
end
end Go.Rx

/- The weakest precondition over slim code, in a form that simp can run. -/
namespace Go.Rx
open Go.RowKit

/-- An operation without its place and its edges; the guard by its temporary. -/
structure SOp where
  dst : Option Tmp
  op : Op
  type : TypeId
  gd : Option (Tmp × Bool)

inductive SC where
  | skip
  | reg (draw : Bool) (ops : List SOp)
  | seq (a b : SC)
  | cond (c : Operand) (a b : SC)
  | block (id : Nat) (c : SC)
  | loop (c : SC)
  | exit (id : Nat)
  | ret
  | no
  | any (ops : List SOp) (deps : List (List Nat))

def slimG (ops : Array Oper) (o : Oper) : Option (Option (Tmp × Bool)) :=
  match o.guard with
  | none => some none
  | some (j, b) => ((ops[j]?).bind (·.dst)).map fun d => some (d, b)
def slimO (ops : Array Oper) (o : Oper) : Option SOp := (slimG ops o).map fun g => ⟨o.dst, o.op, o.type, g⟩
def slimL (ops : Array Oper) : List Oper → Option (List SOp)
  | [] => some []
  | o :: l => match slimO ops o, slimL ops l with
    | some s, some ss => some (s :: ss)
    | _, _ => none
def slim : Code → SC
  | .skip => .skip
  | .region _ ops d => match slimL ops ops.toList with
    | some l => .reg d l
    | none => .no
  | .seq a b => .seq (slim a) (slim b)
  | .cond c a b => .cond c (slim a) (slim b)
  | .block id c => .block id (slim c)
  | .loop c => .loop (slim c)
  | .exit id => .exit id
  | .ret => .ret
  | _ => .no

/-- The same, but the regions X of open order are explored. -/
def slimX (X : List Nat) : Code → SC
  | .skip => .skip
  | .region id ops d => match slimL ops ops.toList with
    | some l => if d && X.contains id then .any l (depsL ops) else .reg d l
    | none => .no
  | .seq a b => .seq (slimX X a) (slimX X b)
  | .cond c a b => .cond c (slimX X a) (slimX X b)
  | .block id c => .block id (slimX X c)
  | .loop c => .loop (slimX X c)
  | .exit id => .exit id
  | .ret => .ret
  | _ => .no
def drawsOkX (X : List Nat) : Code → Bool
  | .region id ops d => !d || X.contains id || drawOk2 ops
  | .seq a b => drawsOkX X a && drawsOkX X b
  | .cond _ a b => drawsOkX X a && drawsOkX X b
  | .block _ c => drawsOkX X c
  | .loop c => drawsOkX X c
  | _ => true
/-- Every region whose order is open is one that Rx takes. -/
def drawsOk : Code → Bool
  | .region _ ops d => !d || drawOk2 ops
  | .seq a b => drawsOk a && drawsOk b
  | .cond _ a b => drawsOk a && drawsOk b
  | .block _ c => drawsOk c
  | .loop c => drawsOk c
  | _ => true

def SOp.oper (s : SOp) : Oper := { dst := s.dst, op := s.op, type := s.type, pos := "", after := #[], guard := none }

def gdS (t : List V) (s : SOp) : Option Bool :=
  match s.gd with
  | none => some true
  | some (d, b) => match plain (t.getD d (.x (.one .bad))) with
    | some (.bool x) => some (x == b)
    | some (.tuple _) => some false
    | _ => none

inductive Fr where
  | sq (c : SC)
  | bl (id : Nat)
  | lp (X : St → Prop)

/-- The operations that are shown in the model itself. -/
def semOp : Op → Bool
  | .call { callee := .value (.func _), args := _, argTypes := _ } => true
  | .makeMap _ _ => true
  | .lookup _ _ _ _ => true
  | .mapUpdate _ _ _ _ => true
  | .alloc _ => true
  | _ => false

/-- The rest of a list of operations, then the code behind. -/
def stepL (P : Program) : List SOp → St → (St → Prop) → Prop
  | [], σ, K => K σ
  | s :: l, σ, K => match gdS σ.t s with
    | some true => wop P s.oper σ fun σ' => stepL P l σ' K
    | some false => stepL P l (put σ s.dst (.x (.one (.v (.tuple #[]))))) K
    | none => False

def AnyL (P : Program) (ops : List SOp) (deps : List (List Nat)) (K : St → Prop) : Nat → List Nat → St → Prop
  | 0, done, σ => rdy deps done = [] ∧ K σ
  | f + 1, done, σ => (rdy deps done = [] → K σ) ∧ ∀ j ∈ rdy deps done, match ops[j]? with
    | none => False
    | some s => match gdS σ.t s with
      | some true => wop P s.oper σ (AnyL P ops deps K f (j :: done))
      | some false => AnyL P ops deps K f (j :: done) (put σ s.dst (.x (.one (.v (.tuple #[])))))
      | none => False

def drawL (P : Program) : List SOp → St → Store → (St → Prop) → Prop
  | [], σ, L, K => K { σ with l := L ++ σ.l }
  | s :: l, σ, L, K => if isEff s.op then stepL P (s :: l) { σ with l := L ++ σ.l } K else match gdS σ.t s with
    | some true => ∃ v m, OpE P σ L s.oper v m ∧ freshR (L ++ σ.l) m = true ∧ drawL P l (put σ s.dst v) (m ++ L) K
    | some false => drawL P l (put σ s.dst (.x (.one (.v (.tuple #[]))))) L K
    | none => False

/-- The temporaries that are appended to, and those among them that the region itself made. -/
def appTs : List SOp → List Tmp
  | [] => []
  | s :: l => match s.op with
    | .call { callee := .builtin .append, args := as, argTypes := _ } => match as.toList with
      | .tmp t :: _ => t :: appTs l
      | _ => appTs l
    | _ => appTs l
def slB (l : List SOp) : List (Option Tmp × Op) := l.map fun s => (s.dst, s.op)
def ksOf (l : List SOp) : List Tmp := (appTs l).filter (madeB (slB l))
def killK (ks : List Tmp) (op : Op) : Option Tmp := match op with
  | .call { callee := .builtin .append, args := as, argTypes := _ } => match as.toList with
    | .tmp t :: _ => if ks.contains t = true then some t else none
    | _ => none
  | _ => none
def drawK (P : Program) (ks : List Tmp) : List SOp → St → Store → (St → Prop) → Prop
  | [], σ, L, K => K { σ with l := L ++ σ.l }
  | s :: l, σ, L, K => match killK ks s.op with
    | some t => gdS σ.t s = some true ∧ ∃ v m, AppE P σ L t s.dst s.op v m ∧ freshR (L ++ σ.l) m = true ∧ cleanV σ.d ks s.dst v = true ∧ drawK P ks l (put (offT (some t) σ) s.dst v) (m ++ offL σ.d (some t) L) K
    | none => if isEff s.op then stepL P (s :: l) { σ with l := L ++ σ.l } K else match gdS σ.t s with
      | some true => ∃ v m, OpE P σ L s.oper v m ∧ freshR (L ++ σ.l) m = true ∧ cleanV σ.d ks s.dst v = true ∧ drawK P ks l (put σ s.dst v) (m ++ L) K
      | some false => drawK P ks l (put σ s.dst (.x (.one (.v (.tuple #[]))))) L K
      | none => False

def WS (P : Program) : SC → St → (Ex → St → Prop) → Prop
  | .skip, σ, Q => Q .normal σ
  | .reg false ops, σ, Q => stepL P ops σ (Q .normal)
  | .reg true ops, σ, Q => match ksOf ops with
    | [] => drawL P ops σ [] (Q .normal)
    | k :: ks => drawK P (k :: ks) ops σ [] (Q .normal)
  | .seq x y, σ, Q => WS P x σ fun e σ' => match e with | .normal => WS P y σ' Q | e => Q e σ'
  | .cond c x y, σ, Q => ∃ t, plain (ev σ c) = some (.bool t) ∧ (t = true → WS P x σ Q) ∧ (t = false → WS P y σ Q)
  | .block id c, σ, Q => WS P c σ fun e σ' => match e with | .exit id' => if id' = id then Q .normal σ' else Q (.exit id') σ' | e => Q e σ'
  | .loop c, σ, Q => ∀ X : St → Prop, (∀ s, WS P c s (fun e s' => match e with | .normal => ∃ s'', Weak s' s'' ∧ X s'' | e => Q e s') → X s) → ∃ s0, Weak σ s0 ∧ X s0
  | .exit id, σ, Q => Q (.exit id) σ
  | .ret, σ, Q => Q .ret σ
  | .no, _, _ => False
  | .any ops deps, σ, Q => AnyL P ops deps (Q .normal) ops.length [] σ

section
variable {P : Program}

theorem slimO_spec {ops : Array Oper} {o : Oper} {s : SOp} (h : slimO ops o = some s) : s.dst = o.dst ∧ s.op = o.op ∧ s.type = o.type ∧ ∀ σ : St, gdS σ.t s = gd σ ops o := by
  unfold slimO slimG at h
  cases hg : o.guard with
  | none =>
    simp only [hg, Option.map_some, Option.some.injEq] at h
    subst h
    exact ⟨rfl, rfl, rfl, fun σ => by simp [gdS, gd, hg]⟩
  | some p =>
    obtain ⟨j, b⟩ := p
    simp only [hg, Option.map_map, Option.map_eq_some_iff, Function.comp_apply] at h
    obtain ⟨d, hd, rfl⟩ := h
    refine ⟨rfl, rfl, rfl, fun σ => ?_⟩
    unfold gdS gd
    rw [hg]
    simp only [hd]
    rfl

theorem wop_congr {o o' : Oper} (h1 : o'.dst = o.dst) (h2 : o'.op = o.op) (h3 : o'.type = o.type) (σ : St) (K : St → Prop) : wop P o' σ K = wop P o σ K := by
  obtain ⟨d, op, t, p, a, g⟩ := o
  obtain ⟨d', op', t', p', a', g'⟩ := o'
  simp only at h1 h2 h3
  subst h1 h2 h3
  unfold wop stepO opV callW SemStep Oper.wp Oper.upon execOp
  rfl

theorem OpE_congr {o o' : Oper} (h1 : o'.dst = o.dst) (h2 : o'.op = o.op) (h3 : o'.type = o.type) (σ : St) (L : Store) (v : V) (l : Store) : OpE P σ L o' v l = OpE P σ L o v l := by
  obtain ⟨d, op, t, p, a, g⟩ := o
  obtain ⟨d', op', t', p', a', g'⟩ := o'
  simp only at h1 h2 h3
  subst h1 h2 h3
  unfold OpE opW opV
  rfl

theorem wop_mono {o : Oper} {σ : St} {K K' : St → Prop} (hk : ∀ σ, K σ → K' σ) (h : wop P o σ K) : wop P o σ K' := by
  have sem : SemStep P o σ K → SemStep P o σ K' := fun h g0 w0 _ g a w N Q hr hn => h g0 w0 g a w N Q hr fun σ' g' a' w' h' => hn σ' g' a' w' (hk σ' h')
  unfold wop at *
  split at h
  · rcases h with h | h
    · refine .inl ?_
      unfold callW at *
      split at h
      · obtain ⟨xs, ret, h1, h2, h3, h4, h5⟩ := h
        exact ⟨xs, ret, h1, h2, h3, h4, hk _ h5⟩
      · exact h.elim
    · exact .inr (sem h)
  · exact sem h
  · exact sem h
  · exact sem h
  · split at h
    · rename_i hb; rw [if_pos hb]; exact sem h
    · rename_i hb
      rw [if_neg hb]
      obtain ⟨σ', h1, h2⟩ := h
      exact ⟨σ', h1, hk _ h2⟩
  · obtain ⟨σ', h1, h2⟩ := h
    exact ⟨σ', h1, hk _ h2⟩

theorem stepL_sound {ops : Array Oper} : ∀ (l : List Oper) (ss : List SOp) (σ : St) (K : St → Prop), slimL ops l = some ss → stepL P ss σ K → Wlist wop P ops l σ K
  | [], ss, σ, K, h, hs => by
    simp only [slimL, Option.some.injEq] at h
    subst h
    exact hs
  | o :: l, ss, σ, K, h, hs => by
    simp only [slimL] at h
    split at h
    · rename_i s ss' h1 h2
      cases h
      obtain ⟨e1, e2, e3, e4⟩ := slimO_spec h1
      unfold Wlist
      simp only [stepL, e4] at hs
      split at hs
      · rename_i hg
        try simp only [hg]
        rw [wop_congr (o := o) e1 e2 e3] at hs
        exact wop_mono (fun σ' h' => stepL_sound l ss' σ' K h2 h') hs
      · rename_i hg
        try simp only [hg]
        rw [e1] at hs
        exact stepL_sound l ss' _ K h2 hs
      · exact hs.elim
    · cases h

theorem drawL_sound {ops : Array Oper} : ∀ (l : List Oper) (ss : List SOp) (σ : St) (L : Store) (K : St → Prop), slimL ops l = some ss → drawL P ss σ L K → DRun P ops l σ L K
  | [], ss, σ, L, K, h, hs => by
    simp only [slimL, Option.some.injEq] at h
    subst h
    exact hs
  | o :: l, ss, σ, L, K, h, hs => by
    simp only [slimL] at h
    split at h
    · rename_i s ss' h1 h2
      cases h
      obtain ⟨e1, e2, e3, e4⟩ := slimO_spec h1
      unfold DRun
      simp only [drawL] at hs
      by_cases he : isEff s.op = true
      · rw [if_pos he] at hs
        rw [if_pos (by rw [← e2]; exact he)]
        exact stepL_sound (o :: l) (s :: ss') _ K (by simp only [slimL, h1, h2]) hs
      rw [if_neg he] at hs
      rw [if_neg (by rw [← e2]; exact he)]
      simp only [e4] at hs
      split at hs
      · rename_i hg
        try simp only [hg]
        obtain ⟨v, m, k1, k2, k3⟩ := hs
        rw [OpE_congr (o := o) e1 e2 e3] at k1
        rw [e1] at k3
        exact ⟨v, m, k1, k2, drawL_sound l ss' _ _ K h2 k3⟩
      · rename_i hg
        try simp only [hg]
        rw [e1] at hs
        exact drawL_sound l ss' _ _ K h2 hs
      · exact hs.elim
    · cases h

theorem W_mono {wo : OpW} {wd : DrawW} (hwo : ∀ o σ K K', (∀ σ, K σ → K' σ) → wo P o σ K → wo P o σ K') (hwd : ∀ ops σ K K', (∀ σ, K σ → K' σ) → wd P ops σ K → wd P ops σ K') (c : Code) :
    ∀ (σ : St) (Q Q' : Ex → St → Prop), (∀ e σ, Q e σ → Q' e σ) → W wo wd P c σ Q → W wo wd P c σ Q' := by
  have hl : ∀ (ops : Array Oper) (l : List Oper) (σ : St) (K K' : St → Prop), (∀ σ, K σ → K' σ) → Wlist wo P ops l σ K → Wlist wo P ops l σ K' := by
    intro ops l
    induction l with
    | nil => intro σ K K' hk h; exact hk σ h
    | cons o l ih =>
      intro σ K K' hk h
      unfold Wlist at h ⊢
      split at h
      · exact hwo _ _ _ _ (fun σ' h' => ih σ' K K' hk h') h
      · exact ih _ K K' hk h
      · exact h
  induction c with
  | skip => intro σ Q Q' hq h; exact hq _ _ h
  | region id ops d =>
    intro σ Q Q' hq h
    cases d with
    | false => exact hl ops _ σ _ _ (hq .normal) h
    | true => exact hwd _ _ _ _ (hq .normal) h
  | seq x y ihx ihy =>
    intro σ Q Q' hq h
    refine ihx σ _ _ (fun e σ' h' => ?_) h
    cases e with
    | normal => exact ihy σ' Q Q' hq h'
    | _ => exact hq _ _ h'
  | cond c x y ihx ihy =>
    intro σ Q Q' hq h
    obtain ⟨t, h1, h2, h3⟩ := h
    exact ⟨t, h1, fun e => ihx σ Q Q' hq (h2 e), fun e => ihy σ Q Q' hq (h3 e)⟩
  | block id c ih =>
    intro σ Q Q' hq h
    refine ih σ _ _ (fun e σ' h' => ?_) h
    cases e with
    | exit id' => simp only at h' ⊢; split <;> simp_all
    | _ => exact hq _ _ h'
  | loop c ih =>
    intro σ Q Q' hq h X hX
    refine h X fun s hs => hX s (ih s _ _ (fun e σ' h' => ?_) hs)
    cases e with
    | normal => exact h'
    | _ => exact hq _ _ h'
  | exit id => intro σ Q Q' hq h; exact hq _ _ h
  | ret => intro σ Q Q' hq h; exact hq _ _ h
  | rangeFunc f ps x y _ _ => intro σ Q Q' hq h; exact h
  | scope c ih => intro σ Q Q' hq h; exact h
  | label l => intro σ Q Q' hq h; exact h
  | goto l => intro σ Q Q' hq h; exact h
  | refuse why => intro σ Q Q' hq h; exact h

theorem Wlist_mono {ops : Array Oper} : ∀ (l : List Oper) (σ : St) (K K' : St → Prop), (∀ σ, K σ → K' σ) → Wlist wop P ops l σ K → Wlist wop P ops l σ K'
  | [], σ, K, K', hk, h => hk σ h
  | o :: l, σ, K, K', hk, h => by
    unfold Wlist at h ⊢
    split at h
    · exact wop_mono (fun σ' h' => Wlist_mono l σ' K K' hk h') h
    · exact Wlist_mono l _ K K' hk h
    · exact h
theorem DRun_mono {ops : Array Oper} : ∀ (l : List Oper) (σ : St) (L : Store) (K K' : St → Prop), (∀ σ, K σ → K' σ) → DRun P ops l σ L K → DRun P ops l σ L K'
  | [], σ, L, K, K', hk, h => hk _ h
  | o :: l, σ, L, K, K', hk, h => by
    unfold DRun at *
    split at h
    · rename_i he
      rw [if_pos he]
      exact Wlist_mono _ _ K K' hk h
    · rename_i he
      rw [if_neg he]
      split at h
      · obtain ⟨v, m, h1, h2, h3⟩ := h
        exact ⟨v, m, h1, h2, DRun_mono l _ _ K K' hk h3⟩
      · exact DRun_mono l _ _ K K' hk h
      · exact h

theorem DRun2_mono {ops : Array Oper} : ∀ (l : List Oper) (σ : St) (L : Store) (K K' : St → Prop), (∀ σ, K σ → K' σ) → DRun2 P ops l σ L K → DRun2 P ops l σ L K'
  | [], σ, L, K, K', hk, h => hk _ h
  | o :: l, σ, L, K, K', hk, h => by
    unfold DRun2 at *
    split at h
    · rename_i he
      rw [if_pos he]
      exact Wlist_mono _ _ K K' hk h
    · rename_i he
      rw [if_neg he]
      obtain ⟨v, m, h1, h2, h3, h4⟩ := h
      exact ⟨v, m, h1, h2, h3, DRun2_mono l _ _ K K' hk h4⟩
theorem slimL_B {ops : Array Oper} : ∀ (l : List Oper) (ss : List SOp), slimL ops l = some ss → slB ss = l.map fun o => (o.dst, o.op)
  | [], ss, h => by cases h; rfl
  | o :: l, ss, h => by
    simp only [slimL] at h
    split at h
    · rename_i s ss' h1 h2
      cases h
      obtain ⟨e1, e2, _, _⟩ := slimO_spec h1
      show (s.dst, s.op) :: slB ss' = _
      rw [e1, e2, slimL_B l ss' h2]; rfl
    · cases h
theorem appTs_mem {t : Tmp} {as : Array Operand} {ats : Array TypeId} {rest : List Operand} (has : as.toList = .tmp t :: rest) : ∀ (l : List SOp) (s : SOp), s ∈ l → s.op = .call { callee := .builtin .append, args := as, argTypes := ats } → t ∈ appTs l
  | [], s, h, _ => by cases h
  | s' :: l, s, h, ho => by
    rcases List.mem_cons.1 h with rfl | h
    · unfold appTs
      rw [ho]
      simp only [has]
      exact List.mem_cons_self ..
    · have ih := appTs_mem has l s h ho
      unfold appTs
      split
      · split
        · exact List.mem_cons_of_mem _ ih
        · exact ih
      · exact ih
theorem killK_spec {ks : List Tmp} {op : Op} {t : Tmp} (h : killK ks op = some t) : t ∈ ks ∧ ∃ as ats rest, op = .call { callee := .builtin .append, args := as, argTypes := ats } ∧ as.toList = .tmp t :: rest := by
  unfold killK at h
  split at h
  · rename_i as ats
    split at h
    · rename_i t' rest he
      split at h
      · rename_i hc; cases h; exact ⟨List.contains_iff_mem.1 hc, as, ats, rest, rfl, he⟩
      · cases h
    · cases h
  · cases h
theorem killK_of {ks : List Tmp} {t : Tmp} {as : Array Operand} {ats : Array TypeId} {rest : List Operand} (has : as.toList = .tmp t :: rest) (h : t ∈ ks) : killK ks (.call { callee := .builtin .append, args := as, argTypes := ats }) = some t := by
  unfold killK
  simp only [has]
  rw [if_pos (List.contains_iff_mem.2 h)]
theorem killB_of {B : List (Option Tmp × Op)} {t : Tmp} {as : Array Operand} {ats : Array TypeId} {rest : List Operand} (has : as.toList = .tmp t :: rest) (h : madeB B t = true) : killB B (.call { callee := .builtin .append, args := as, argTypes := ats }) = some t := by
  unfold killB
  simp only [has]
  rw [if_pos h]
theorem killB_made {B : List (Option Tmp × Op)} {op : Op} {t : Tmp} (h : killB B op = some t) : madeB B t = true := by
  unfold killB at h
  split at h
  · split at h
    · split at h
      · rename_i hm; cases h; exact hm
      · cases h
    · cases h
  · cases h
theorem killK_eq {ss : List SOp} {s : SOp} (hs : s ∈ ss) : killK (ksOf ss) s.op = killB (slB ss) s.op := by
  cases hB : killB (slB ss) s.op with
  | some t =>
    obtain ⟨as, ats, rest, ho, has⟩ := killB_spec hB
    rw [ho]
    exact killK_of has (List.mem_filter.2 ⟨appTs_mem has ss s hs ho, killB_made hB⟩)
  | none =>
    cases hK : killK (ksOf ss) s.op with
    | none => rfl
    | some t =>
      obtain ⟨hm, as, ats, rest, ho, has⟩ := killK_spec hK
      rw [ho, killB_of has (List.mem_filter.1 hm).2] at hB
      cases hB
theorem killsOf_mem {ss : List SOp} {t : Tmp} (h : t ∈ killsOf (slB ss)) : t ∈ ksOf ss := by
  unfold killsOf slB at h
  rw [List.mem_filterMap] at h
  obtain ⟨p, hp, hk⟩ := h
  obtain ⟨s, hs, rfl⟩ := List.mem_map.1 hp
  have h2 : killK (ksOf ss) s.op = some t := by rw [killK_eq hs]; exact hk
  unfold killK at h2
  split at h2
  · split at h2
    · split at h2
      · rename_i hc; cases h2; exact List.contains_iff_mem.1 hc
      · cases h2
    · cases h2
  · cases h2
theorem cleanV_sub {d : Nat} {ks ks' : List Tmp} {dst : Option Tmp} {v : V} (h : ∀ t ∈ ks', t ∈ ks) (hc : cleanV d ks dst v = true) : cleanV d ks' dst v = true := by
  unfold cleanV at *
  rw [List.all_eq_true] at *
  exact fun t ht => hc t (h t ht)
theorem drawK_sound {ops : Array Oper} {ks : List Tmp} (hkl : ∀ o, o ∈ ops.toList → killK ks o.op = killT ops o) (hks : ∀ t ∈ killsOf (opsL ops), t ∈ ks) :
    ∀ (l : List Oper) (ss : List SOp) (σ : St) (L : Store) (K : St → Prop), (∀ o ∈ l, o ∈ ops.toList) → slimL ops l = some ss → drawK P ks ss σ L K → DRun2 P ops l σ L K
  | [], ss, σ, L, K, _, h, hs => by cases h; exact hs
  | o :: l, ss, σ, L, K, hm, h, hs => by
    have h0 := h
    simp only [slimL] at h
    split at h
    · rename_i s ss' h1 h2
      cases h
      obtain ⟨e1, e2, e3, e4⟩ := slimO_spec h1
      have hko := hkl o (hm o (List.mem_cons_self ..))
      have ih := fun σ' L' h' => drawK_sound hkl hks l ss' σ' L' K (fun o' ho' => hm o' (List.mem_cons_of_mem _ ho')) h2 h'
      unfold drawK at hs
      rw [e2, hko] at hs
      unfold DRun2
      cases hk : killT ops o with
      | some t =>
        rw [hk] at hs
        obtain ⟨hg, v, m, k1, k2, k3, k4⟩ := hs
        rw [if_neg (by unfold isEff2; rw [hk]; simp)]
        rw [e1] at k1 k3 k4
        refine ⟨v, m, ?_, k2, cleanV_sub hks k3, ih _ _ k4⟩
        unfold Stp2
        rw [hk]
        exact ⟨by rw [← e4]; exact hg, k1⟩
      | none =>
        rw [hk] at hs
        simp only at hs
        have heff : isEff2 ops o = isEff o.op := by unfold isEff2; rw [hk]; simp
        rw [heff]
        split at hs
        · rename_i he
          rw [if_pos he]
          exact stepL_sound (o :: l) (s :: ss') _ K h0 hs
        · rename_i he
          rw [if_neg he]
          split at hs
          · rename_i hg
            obtain ⟨v, m, k1, k2, k3, k4⟩ := hs
            rw [OpE_congr (o := o) e1 e2 e3] at k1
            rw [e1] at k3 k4
            refine ⟨v, m, ?_, k2, cleanV_sub hks k3, ih _ _ k4⟩
            unfold Stp2; rw [hk]
            exact .inl ⟨by rw [← e4]; exact hg, k1⟩
          · rename_i hg
            rw [e1] at hs
            refine ⟨.x (.one (.v (.tuple #[]))), [], ?_, rfl, ?_, ih _ _ hs⟩
            · unfold Stp2; rw [hk]
              exact .inr ⟨by rw [← e4]; exact hg, rfl, rfl⟩
            · unfold cleanV; rw [List.all_eq_true]; intro t _; simp [hasV, hasX, hasC]
          · exact hs.elim
    · cases h
theorem draw_sound2 {ops : Array Oper} {ss : List SOp} {σ : St} {K : St → Prop} (hl : slimL ops ops.toList = some ss) (h : match ksOf ss with | [] => drawL P ss σ [] K | k :: ks => drawK P (k :: ks) ss σ [] K) : DRun2 P ops ops.toList σ [] K := by
  have hB : slB ss = opsL ops := slimL_B _ _ hl
  have hmem : ∀ o ∈ ops.toList, ∃ s ∈ ss, s.op = o.op := fun o ho => by
    have : (o.dst, o.op) ∈ slB ss := by rw [hB]; exact List.mem_map.2 ⟨o, ho, rfl⟩
    obtain ⟨s, hs, he⟩ := List.mem_map.1 this
    exact ⟨s, hs, (Prod.mk.inj he).2⟩
  have hkl : ∀ o, o ∈ ops.toList → killK (ksOf ss) o.op = killT ops o := fun o ho => by
    obtain ⟨s, hs, he⟩ := hmem o ho
    rw [← he, killK_eq hs, hB, he]; rfl
  have hks : ∀ t ∈ killsOf (opsL ops), t ∈ ksOf ss := fun t ht => killsOf_mem (by rw [hB]; exact ht)
  split at h
  · rename_i he
    refine DRun_DRun2 (fun o ho => ?_) _ _ _ (fun o ho => ho) (drawL_sound _ _ σ [] _ hl h)
    rw [← hkl o ho, he]
    unfold killK
    split
    · split
      · simp
      · rfl
    · rfl
  · rename_i k ks he
    rw [← he] at h
    exact drawK_sound hkl hks _ _ _ _ _ (fun o ho => ho) hl h
theorem WAny_mono {ops : Array Oper} {K K' : St → Prop} (hk : ∀ σ, K σ → K' σ) : ∀ (f : Nat) (listed : Array Bool) (σ : St), WAny P ops K f listed σ → WAny P ops K' f listed σ
  | 0, _, _, h => ⟨h.1, hk _ h.2⟩
  | f + 1, listed, σ, h => by
    refine ⟨fun hn => hk _ (h.1 hn), fun i hi => ?_⟩
    have h1 := h.2 i hi
    cases ho : ops[i]? with
    | none => rw [ho] at h1; exact h1.elim
    | some o =>
      rw [ho] at h1
      simp only at h1 ⊢
      split at h1
      · rename_i e; exact wop_mono (fun σ' h' => WAny_mono hk f _ σ' h') h1
      · rename_i e; exact WAny_mono hk f _ _ h1
      · exact h1.elim
theorem slimL_get {ops : Array Oper} : ∀ (l : List Oper) (ss : List SOp), slimL ops l = some ss → ss.length = l.length ∧ ∀ (j : Nat) (o : Oper), l[j]? = some o → ∃ s, ss[j]? = some s ∧ slimO ops o = some s
  | [], ss, h => by simp only [slimL, Option.some.injEq] at h; subst h; exact ⟨rfl, fun j o h => by simp at h⟩
  | o :: l, ss, h => by
    simp only [slimL] at h
    split at h
    · rename_i s ss' h1 h2
      cases h
      obtain ⟨e1, e2⟩ := slimL_get l ss' h2
      refine ⟨by simp [e1], fun j o' hj => ?_⟩
      cases j with
      | zero => simp only [List.getElem?_cons_zero, Option.some.injEq] at hj; subst hj; exact ⟨s, rfl, h1⟩
      | succ j => exact e2 j o' (by simpa using hj)
    · cases h
theorem AnyL_sound {ops : Array Oper} {ss : List SOp} {K : St → Prop} (hs : slimL ops ops.toList = some ss) : ∀ (f : Nat) (done : List Nat) (listed : Array Bool) (σ : St),
    listed.size = ops.size → (∀ j, listed.getD j false = done.contains j) → AnyL P ss (depsL ops) K f done σ → WAny P ops K f listed σ
  | 0, done, listed, σ, hl, hd, h => by
    refine ⟨?_, h.2⟩
    rw [List.eq_nil_iff_forall_not_mem]
    intro j hj
    have := (rdy_ready hl hd j).1 hj
    rw [h.1] at this; cases this
  | f + 1, done, listed, σ, hl, hd, h => by
    refine ⟨fun hn => h.1 ?_, fun j hj => ?_⟩
    · rw [List.eq_nil_iff_forall_not_mem]
      intro j hj
      have := (rdy_ready hl hd j).2 hj
      rw [hn] at this; cases this
    · have h1 := h.2 j ((rdy_ready hl hd j).1 hj)
      obtain ⟨_, o, ho, _⟩ := mem_ready.1 hj
      obtain ⟨s, e1, e2⟩ := (slimL_get _ _ hs).2 j o (by rw [Array.getElem?_toList]; exact ho)
      obtain ⟨q1, q2, q3, q4⟩ := slimO_spec e2
      have hj2 : j < listed.size := by rw [hl]; exact (Array.getElem?_eq_some_iff.1 ho).1
      have hd' : ∀ i, (listed.setIfInBounds j true).getD i false = (j :: done).contains i := fun i => by
        rw [List.contains_cons]
        by_cases e : i = j
        · subst e; simp [Array.getD, hj2]
        · have : (listed.setIfInBounds j true).getD i false = listed.getD i false := by
            simp only [Array.getD_eq_getD_getElem?]
            rw [Array.getElem?_setIfInBounds_ne (fun h => e h.symm)]
          rw [this, hd i]
          simp [e]
      rw [e1] at h1
      simp only [ho]
      simp only [q4] at h1
      split at h1
      · rename_i hg
        try simp only [hg]
        rw [wop_congr (o := o) q1 q2 q3] at h1
        exact wop_mono (fun σ' h' => AnyL_sound hs f _ _ σ' (by simpa using hl) hd' h') h1
      · rename_i hg
        try simp only [hg]
        rw [q1] at h1
        exact AnyL_sound hs f _ _ _ (by simpa using hl) hd' h1
      · exact h1.elim
theorem Wmono (c : Code) (σ : St) (Q Q' : Ex → St → Prop) (hq : ∀ e σ, Q e σ → Q' e σ) (h : W wop wdraw P c σ Q) : W wop wdraw P c σ Q' :=
  W_mono (fun _ _ _ _ hk h => wop_mono hk h) (fun _ _ _ _ hk h => h.imp (fun h => ⟨h.1, h.2.1, DRun2_mono _ _ _ _ _ hk h.2.2⟩) fun h => ⟨h.1, WAny_mono hk _ _ _ h.2⟩) c σ Q Q' hq h

theorem WS_sound (hm : P.follows .mixedOrders = true) (c : Code) : drawsOk c = true → ∀ (σ : St) (Q : Ex → St → Prop), WS P (slim c) σ Q → W wop wdraw P c σ Q := by
  induction c with
  | skip => intro _ σ Q h; exact h
  | region id ops d =>
    intro hok σ Q h
    simp only [slim] at h
    split at h
    · rename_i l hl
      cases d with
      | false => exact stepL_sound _ _ σ _ hl h
      | true => exact .inl ⟨hm, by simpa [drawsOk] using hok, draw_sound2 hl h⟩
    · exact h.elim
  | seq x y ihx ihy =>
    intro hok σ Q h
    simp only [drawsOk, Bool.and_eq_true] at hok
    refine Wmono x σ _ _ (fun e σ' h' => ?_) (ihx hok.1 σ _ h)
    cases e with
    | normal => exact ihy hok.2 σ' Q h'
    | _ => exact h'
  | cond c x y ihx ihy =>
    intro hok σ Q h
    simp only [drawsOk, Bool.and_eq_true] at hok
    obtain ⟨t, h1, h2, h3⟩ := h
    exact ⟨t, h1, fun e => ihx hok.1 σ Q (h2 e), fun e => ihy hok.2 σ Q (h3 e)⟩
  | block id c ih => intro hok σ Q h; exact ih hok σ _ h
  | loop c ih => intro hok σ Q h X hX; exact h X fun s hs => hX s (ih hok s _ hs)
  | exit id => intro _ σ Q h; exact h
  | ret => intro _ σ Q h; exact h
  | _ => intros; rename_i h; exact h.elim

theorem WS_soundX (X : List Nat) (hm : P.follows .mixedOrders = true) (c : Code) : drawsOkX X c = true → ∀ (σ : St) (Q : Ex → St → Prop), WS P (slimX X c) σ Q → W wop wdraw P c σ Q := by
  induction c with
  | skip => intro _ σ Q h; exact h
  | region id ops d =>
    intro hok σ Q h
    simp only [slimX] at h
    split at h
    · rename_i l hl
      cases d with
      | false => exact stepL_sound _ _ σ _ hl h
      | true =>
        cases hx : X.contains id with
        | true =>
          simp only [hx, Bool.and_self, if_true] at h
          have hlen : l.length = ops.size := by rw [(slimL_get _ _ hl).1, Array.length_toList]
          refine .inr ⟨hm, ?_⟩
          have h' : AnyL P l (depsL ops) (Q .normal) l.length [] σ := h
          rw [hlen] at h'
          exact AnyL_sound hl ops.size [] _ σ (by simp) (fun j => by simp [Array.getD]) h'
        | false =>
          simp only [hx, Bool.and_false, Bool.false_eq_true, if_false] at h
          exact .inl ⟨hm, by simp only [drawsOkX, Bool.not_true, Bool.false_or, hx] at hok; exact hok, draw_sound2 hl h⟩
    · exact h.elim
  | seq x y ihx ihy =>
    intro hok σ Q h
    simp only [drawsOkX, Bool.and_eq_true] at hok
    refine Wmono x σ _ _ (fun e σ' h' => ?_) (ihx hok.1 σ _ h)
    cases e with
    | normal => exact ihy hok.2 σ' Q h'
    | _ => exact h'
  | cond c x y ihx ihy =>
    intro hok σ Q h
    simp only [drawsOkX, Bool.and_eq_true] at hok
    obtain ⟨t, h1, h2, h3⟩ := h
    exact ⟨t, h1, fun e => ihx hok.1 σ Q (h2 e), fun e => ihy hok.2 σ Q (h3 e)⟩
  | block id c ih => intro hok σ Q h; exact ih hok σ _ h
  | loop c ih => intro hok σ Q h X' hX; exact h X' fun s hs => hX s (ih hok s _ hs)
  | exit id => intro _ σ Q h; exact h
  | ret => intro _ σ Q h; exact h
  | _ => intros; rename_i h; exact h.elim

/-! ### with the code that is left on a stack -/

/-- What is left to do, with an exit. -/
def un (P : Program) : List Fr → (Ex → St → Prop) → Ex → St → Prop
  | [], Q => Q
  | .sq c :: k, Q => fun e σ => match e with | .normal => WS P c σ (un P k Q) | e => un P k Q e σ
  | .bl id :: k, Q => fun e σ => match e with | .exit id' => if id' = id then un P k Q .normal σ else un P k Q (.exit id') σ | e => un P k Q e σ
  | .lp X :: k, Q => fun e σ => match e with | .normal => ∃ s, Weak σ s ∧ X s | e => un P k Q e σ

def Go (P : Program) (c : SC) (k : List Fr) (σ : St) (Q : Ex → St → Prop) : Prop := WS P c σ (un P k Q)
def Re (P : Program) (k : List Fr) (e : Ex) (σ : St) (Q : Ex → St → Prop) : Prop := un P k Q e σ
def GoL (P : Program) (l : List SOp) (k : List Fr) (σ : St) (Q : Ex → St → Prop) : Prop := stepL P l σ (un P k Q .normal)
def GoK (P : Program) (ks : List Tmp) (l : List SOp) (L : Store) (k : List Fr) (σ : St) (Q : Ex → St → Prop) : Prop := drawK P ks l σ L (un P k Q .normal)
def GoD (P : Program) (l : List SOp) (L : Store) (k : List Fr) (σ : St) (Q : Ex → St → Prop) : Prop := drawL P l σ L (un P k Q .normal)

variable {k : List Fr} {σ : St} {Q : Ex → St → Prop}
theorem Go_skip : Go P .skip k σ Q = Re P k .normal σ Q := propext Iff.rfl
theorem Go_reg {l : List SOp} : Go P (.reg false l) k σ Q = GoL P l k σ Q := propext Iff.rfl
def GoX (P : Program) (ks : List Tmp) (l : List SOp) (k : List Fr) (σ : St) (Q : Ex → St → Prop) : Prop := match ks with
  | [] => GoD P l [] k σ Q
  | k0 :: ks => GoK P (k0 :: ks) l [] k σ Q
theorem Go_draw {l : List SOp} : Go P (.reg true l) k σ Q = GoX P (ksOf l) l k σ Q := rfl
theorem GoX_nil {l : List SOp} : GoX P [] l k σ Q = GoD P l [] k σ Q := rfl
theorem GoX_cons {k0 : Tmp} {ks : List Tmp} {l : List SOp} : GoX P (k0 :: ks) l k σ Q = GoK P (k0 :: ks) l [] k σ Q := rfl
theorem Go_seq {x y : SC} : Go P (.seq x y) k σ Q = Go P x (.sq y :: k) σ Q := propext Iff.rfl
theorem Go_block {id : Nat} {c : SC} : Go P (.block id c) k σ Q = Go P c (.bl id :: k) σ Q := propext Iff.rfl
theorem Go_exit {id : Nat} : Go P (.exit id) k σ Q = Re P k (.exit id) σ Q := propext Iff.rfl
theorem Go_ret : Go P .ret k σ Q = Re P k .ret σ Q := propext Iff.rfl
theorem Go_cond {c : Operand} {x y : SC} {t : Bool} (h : plain (ev σ c) = some (.bool t)) (hx : t = true → Go P x k σ Q) (hy : t = false → Go P y k σ Q) : Go P (.cond c x y) k σ Q := ⟨t, h, hx, hy⟩
theorem Go_cond_eq {c : Operand} {x y : SC} : Go P (.cond c x y) k σ Q = ∃ t, plain (ev σ c) = some (.bool t) ∧ (t = true → Go P x k σ Q) ∧ (t = false → Go P y k σ Q) := rfl
theorem Re_nil {e : Ex} : Re P [] e σ Q = Q e σ := propext Iff.rfl
theorem Re_sq_normal {c : SC} : Re P (.sq c :: k) .normal σ Q = Go P c k σ Q := propext Iff.rfl
theorem Re_sq_exit {c : SC} {id : Nat} : Re P (.sq c :: k) (.exit id) σ Q = Re P k (.exit id) σ Q := propext Iff.rfl
theorem Re_sq_ret {c : SC} : Re P (.sq c :: k) .ret σ Q = Re P k .ret σ Q := propext Iff.rfl
theorem Re_bl_normal {id : Nat} : Re P (.bl id :: k) .normal σ Q = Re P k .normal σ Q := propext Iff.rfl
theorem Re_bl_ret {id : Nat} : Re P (.bl id :: k) .ret σ Q = Re P k .ret σ Q := propext Iff.rfl
theorem Re_bl_exit {id id' : Nat} : Re P (.bl id :: k) (.exit id') σ Q = if id' = id then Re P k .normal σ Q else Re P k (.exit id') σ Q := propext Iff.rfl
theorem Re_lp_normal {X : St → Prop} : Re P (.lp X :: k) .normal σ Q = ∃ s, Weak σ s ∧ X s := propext Iff.rfl
theorem Re_lp_exit {X : St → Prop} {id : Nat} : Re P (.lp X :: k) (.exit id) σ Q = Re P k (.exit id) σ Q := propext Iff.rfl
theorem Re_lp_ret {X : St → Prop} : Re P (.lp X :: k) .ret σ Q = Re P k .ret σ Q := propext Iff.rfl

/-- A loop, by a family of states and a measure. -/
theorem Go_loop {α : Type} {c : SC} (S : α → St) (μ : α → Nat) (a0 : α) (h0 : Weak σ (S a0))
    (step : ∀ a (X : St → Prop), (∀ a', μ a' < μ a → X (S a')) → Go P c (.lp X :: k) (S a) Q) : Go P (.loop c) k σ Q := by
  intro X hX
  refine ⟨S a0, h0, ?_⟩
  have key : ∀ n a, μ a < n → X (S a) := by
    intro n
    induction n with
    | zero => intro a h; omega
    | succ n ih =>
      intro a ha
      exact hX _ (step a X fun a' ha' => ih a' (by omega))
  exact key _ a0 (Nat.lt_succ_self _)

theorem GoL_nil : GoL P [] k σ Q = Re P k .normal σ Q := propext Iff.rfl
theorem GoL_step {s : SOp} {l : List SOp} {σ' : St} (hg : gdS σ.t s = some true) (hs : semOp s.op = false)
    (h : stepO P σ s.oper = some σ') (hk : GoL P l k σ' Q) : GoL P (s :: l) k σ Q := by
  unfold GoL stepL
  rw [hg]
  simp only [wop]
  split
  · rename_i ho; rw [show s.op = _ from ho] at hs; cases hs
  · rename_i ho; rw [show s.op = _ from ho] at hs; cases hs
  · rename_i ho; rw [show s.op = _ from ho] at hs; cases hs
  · rename_i ho; rw [show s.op = _ from ho] at hs; cases hs
  · rename_i ho; rw [show s.op = _ from ho] at hs; cases hs
  · exact ⟨σ', h, hk⟩
theorem GoL_skip {s : SOp} {l : List SOp} (hg : gdS σ.t s = some false) (hk : GoL P l k (put σ s.dst (.x (.one (.v (.tuple #[]))))) Q) : GoL P (s :: l) k σ Q := by
  unfold GoL stepL
  rw [hg]; exact hk
theorem GoL_call {N : Tmp} {f : FuncId} {as : Array Operand} {ats : Array TypeId} {ty : TypeId} {g : Option (Tmp × Bool)} {l : List SOp} {xs ret : List X}
    (hg : gdS σ.t ⟨some N, .call { callee := .value (.func f), args := as, argTypes := ats }, ty, g⟩ = some true) (hv : viewVs σ.o (as.toList.map (ev σ)) = some xs) (hf : PureFn P f xs ret)
    (hp : poR (retRow ret) = true) (hr : freshR σ.l (newRoots σ.d N 0 (retRow ret)) = true) (hk : GoL P l k (put (impSt σ N ret) (some N) (packT (impXs σ.d N 0 ret))) Q) :
    GoL P (⟨some N, .call { callee := .value (.func f), args := as, argTypes := ats }, ty, g⟩ :: l) k σ Q := by
  unfold GoL stepL
  rw [hg]
  exact .inl ⟨xs, ret, hv, hf, hp, hr, hk⟩
theorem GoL_sem {s : SOp} {l : List SOp} (hg : gdS σ.t s = some true) (hs : semOp s.op = true) (h : SemStep P s.oper σ fun σ' => GoL P l k σ' Q) (hal : ∀ t, s.op ≠ .alloc t ∨ bldT P t = true := by exact fun _ => .inl fun h => nomatch h) : GoL P (s :: l) k σ Q := by
  unfold GoL stepL
  rw [hg]
  simp only [wop]
  split
  · exact .inr h
  · exact h
  · exact h
  · exact h
  · rename_i t ho
    rw [if_pos ((hal t).resolve_left fun h => h ho)]; exact h
  · rename_i n1 n2 n3 n4 n5
    exfalso
    revert hs
    unfold semOp
    split
    · rename_i ho; exact fun _ => n1 _ _ _ ho
    · rename_i ho; exact fun _ => n2 _ _ ho
    · rename_i ho; exact fun _ => n3 _ _ _ _ ho
    · rename_i ho; exact fun _ => n4 _ _ _ _ ho
    · rename_i ho; exact fun _ => n5 _ ho
    · exact fun h => nomatch h

theorem GoD_nil {L : Store} : GoD P [] L k σ Q = Re P k .normal { σ with l := L ++ σ.l } Q := propext Iff.rfl
theorem GoD_step {s : SOp} {l : List SOp} {v : V} {L : Store} (he : isEff s.op = false) (hg : gdS σ.t s = some true) (hs : ∀ f as ats, s.op ≠ .call { callee := .value (.func f), args := as, argTypes := ats }) (ha : ∀ t, s.op ≠ .alloc t) (hb : ∀ t n ps, s.op ≠ .buildSlice t n ps)
    (h : opW P σ s.oper = some v) (hk : GoD P l L k (put σ s.dst v) Q) : GoD P (s :: l) L k σ Q := by
  unfold GoD drawL
  rw [if_neg (by rw [he]; simp), hg]
  refine ⟨v, [], ?_, rfl, hk⟩
  unfold OpE
  split
  · rename_i f as ats ho; exact absurd ho (hs f as ats)
  · rename_i t ho; exact absurd ho (ha t)
  · rename_i t ps ho; exact absurd ho (hb t 0 ps)
  · rename_i t n ps ho; exact absurd ho (hb t (n + 1) ps)
  · exact ⟨h, rfl⟩
theorem GoD_skip {s : SOp} {l : List SOp} {L : Store} (he : isEff s.op = false) (hg : gdS σ.t s = some false) (hk : GoD P l L k (put σ s.dst (.x (.one (.v (.tuple #[]))))) Q) : GoD P (s :: l) L k σ Q := by
  unfold GoD drawL
  rw [if_neg (by rw [he]; simp), hg]; exact hk
theorem GoD_call {N : Tmp} {f : FuncId} {as : Array Operand} {ats : Array TypeId} {ty : TypeId} {g : Option (Tmp × Bool)} {l : List SOp} {L : Store} {xs ret : List X}
    (hg : gdS σ.t ⟨some N, .call { callee := .value (.func f), args := as, argTypes := ats }, ty, g⟩ = some true) (hv : viewVs (selA as.toList L ++ σ.o) (as.toList.map (ev σ)) = some xs) (hf : PureFn P f xs ret)
    (hp : (poR (retRow ret) && short (retRow ret)) = true) (hr : freshR (L ++ σ.l) (newRoots σ.d N 0 (retRow ret)) = true)
    (hk : GoD P l (newRoots σ.d N 0 (retRow ret) ++ L) k (put σ (some N) (packT (impXs σ.d N 0 ret))) Q) :
    GoD P (⟨some N, .call { callee := .value (.func f), args := as, argTypes := ats }, ty, g⟩ :: l) L k σ Q := by
  unfold GoD drawL
  rw [if_neg (by simp [isEff]), hg]
  exact ⟨_, _, ⟨xs, ret, hv, hf, hp, rfl, rfl⟩, hr, hk⟩

/-- From the first operation on that makes or turns memory, the order is the text's. -/
theorem GoD_eff {s : SOp} {l : List SOp} {L : Store} (he : isEff s.op = true) : GoD P (s :: l) L k σ Q = GoL P (s :: l) k { σ with l := L ++ σ.l } Q := by
  unfold GoD GoL drawL
  rw [if_pos he]

/-- What the body ends with may be forgotten in part (or seen otherwise) ahead of the results. -/
theorem PureFn_of_GoW {f : FuncId} {fn : Func} {c : Code} (hf : P.funcs[f]? = some fn) (hb : fn.body = some c) (hn : fn.name ≠ "runtime.NumGoroutine") (hm : P.follows .mixedOrders = true) (hd : drawsOk c = true) {args ret : List X}
    (h : Go P (slim c) [] (enterSt fn args) fun e σ => (e = .normal ∨ e = .ret) ∧ ∃ σ', Weak σ σ' ∧ resOk P fn σ' ret) : PureFn P f args ret :=
  PureFn_of_WW hf hb hn wdraw_sound (WS_sound hm c hd _ _ h)
theorem PureFn_of_Go {f : FuncId} {fn : Func} {c : Code} (hf : P.funcs[f]? = some fn) (hb : fn.body = some c) (hn : fn.name ≠ "runtime.NumGoroutine") (hm : P.follows .mixedOrders = true) (hd : drawsOk c = true) {args ret : List X}
    (h : Go P (slim c) [] (enterSt fn args) fun e σ => (e = .normal ∨ e = .ret) ∧ resOk P fn σ ret) : PureFn P f args ret :=
  PureFn_of_WW hf hb hn wdraw_sound (Wmono c _ _ _ (fun _ _ hq => ⟨hq.1, _, Weak.refl _, hq.2⟩) (WS_sound hm c hd _ _ h))

/-- The same, the regions X being explored. -/
theorem PureFn_of_GoWX (ids : List Nat) {f : FuncId} {fn : Func} {c : Code} (hf : P.funcs[f]? = some fn) (hb : fn.body = some c) (hn : fn.name ≠ "runtime.NumGoroutine") (hm : P.follows .mixedOrders = true) (hd : drawsOkX ids c = true) {args ret : List X}
    (h : Go P (slimX ids c) [] (enterSt fn args) fun e σ => (e = .normal ∨ e = .ret) ∧ ∃ σ', Weak σ σ' ∧ resOk P fn σ' ret) : PureFn P f args ret :=
  PureFn_of_WW hf hb hn wdraw_sound (WS_soundX ids hm c hd _ _ h)
theorem Go_any {ops : List SOp} {deps : List (List Nat)} {k : List Fr} {σ : St} {Q : Ex → St → Prop} (h : AnyL P ops deps (fun σ' => Re P k .normal σ' Q) ops.length [] σ) : Go P (.any ops deps) k σ Q := h
/-- One operation of an explored region. -/
theorem AnyL_op {ops : List SOp} {deps : List (List Nat)} {K : St → Prop} {f : Nat} {done : List Nat} {σ : St} {j : Nat} {s : SOp} (hj : ops[j]? = some s)
    (h : GoL P [s] [] σ fun e σ' => e = .normal ∧ AnyL P ops deps K f (j :: done) σ') : (match ops[j]? with
    | none => False
    | some s => match gdS σ.t s with
      | some true => wop P s.oper σ (AnyL P ops deps K f (j :: done))
      | some false => AnyL P ops deps K f (j :: done) (put σ s.dst (.x (.one (.v (.tuple #[])))))
      | none => False) := by
  rw [hj]
  unfold GoL stepL at h
  simp only
  split at h
  · rename_i hg
    try simp only [hg]
    exact wop_mono (fun σ' h' => h'.2) h
  · rename_i hg
    try simp only [hg]
    exact h.2
  · exact h.elim
theorem AnyL_succ {ops : List SOp} {deps : List (List Nat)} {K : St → Prop} {f : Nat} {done : List Nat} {σ : St} {js : List Nat} (hr : rdy deps done = js) (hne : js ≠ [])
    (h : ∀ j ∈ js, ∃ s, ops[j]? = some s ∧ GoL P [s] [] σ fun e σ' => e = .normal ∧ AnyL P ops deps K f (j :: done) σ') : AnyL P ops deps K (f + 1) done σ := by
  refine ⟨fun hn => absurd (hr.symm.trans hn) hne, fun j hj => ?_⟩
  obtain ⟨s, h1, h2⟩ := h j (hr ▸ hj)
  exact AnyL_op h1 h2
section
variable {ops : List SOp} {deps : List (List Nat)} {K : St → Prop} {f : Nat} {done : List Nat} {σ : St}
theorem AnyL_1 (i : Nat) {s : SOp} (hr : rdy deps done = [i]) (hs : ops[i]? = some s) (h : GoL P [s] [] σ fun e σ' => e = .normal ∧ AnyL P ops deps K f (i :: done) σ') : AnyL P ops deps K (f + 1) done σ :=
  AnyL_succ hr (by simp) fun k hk => by
    rcases List.mem_cons.1 hk with rfl | hk
    · exact ⟨_, hs, h⟩
    · cases hk
theorem AnyL_2 (i j : Nat) {s s' : SOp} (hr : rdy deps done = [i, j]) (hs : ops[i]? = some s) (hs' : ops[j]? = some s')
    (h : GoL P [s] [] σ fun e σ' => e = .normal ∧ AnyL P ops deps K f (i :: done) σ') (h' : GoL P [s'] [] σ fun e σ' => e = .normal ∧ AnyL P ops deps K f (j :: done) σ') : AnyL P ops deps K (f + 1) done σ :=
  AnyL_succ hr (by simp) fun k hk => by
    rcases List.mem_cons.1 hk with rfl | hk
    · exact ⟨_, hs, h⟩
    · rcases List.mem_cons.1 hk with rfl | hk
      · exact ⟨_, hs', h'⟩
      · cases hk
theorem AnyL_3 (i j k : Nat) {s s' s'' : SOp} (hr : rdy deps done = [i, j, k]) (hs : ops[i]? = some s) (hs' : ops[j]? = some s') (hs'' : ops[k]? = some s'')
    (h : GoL P [s] [] σ fun e σ' => e = .normal ∧ AnyL P ops deps K f (i :: done) σ') (h' : GoL P [s'] [] σ fun e σ' => e = .normal ∧ AnyL P ops deps K f (j :: done) σ')
    (h'' : GoL P [s''] [] σ fun e σ' => e = .normal ∧ AnyL P ops deps K f (k :: done) σ') : AnyL P ops deps K (f + 1) done σ :=
  AnyL_succ hr (by simp) fun m hm => by
    rcases List.mem_cons.1 hm with rfl | hm
    · exact ⟨_, hs, h⟩
    · rcases List.mem_cons.1 hm with rfl | hm
      · exact ⟨_, hs', h'⟩
      · rcases List.mem_cons.1 hm with rfl | hm
        · exact ⟨_, hs'', h''⟩
        · cases hm
theorem Go_anyK {k : List Fr} {Q : Ex → St → Prop} (h : ∀ K, (∀ σ', Re P k .normal σ' Q → K σ') → AnyL P ops deps K ops.length [] σ) : Go P (.any ops deps) k σ Q := h _ fun _ h => h
end
theorem AnyL_end {ops : List SOp} {deps : List (List Nat)} {K : St → Prop} {done : List Nat} {σ : St} (hr : rdy deps done = []) (h : K σ) : AnyL P ops deps K 0 done σ := ⟨hr, h⟩

end
end Go.Rx

/- What simp runs. -/
namespace Go.Rx
open Go.RowKit

abbrev isCall := semOp

def stepG (P : Program) (σ : St) (s : SOp) : Option St :=
  match gdS σ.t s with
  | some true => stepO P σ s.oper
  | some false => some (put σ s.dst (.x (.one (.v (.tuple #[])))))
  | none => none
def opG (P : Program) (σ : St) (s : SOp) : Option V :=
  match gdS σ.t s with
  | some true => opW P σ s.oper
  | some false => some (.x (.one (.v (.tuple #[]))))
  | none => none

def GoM (P : Program) (s : Option St) (l : List SOp) (k : List Fr) (Q : Ex → St → Prop) : Prop :=
  match s with
  | some σ => GoL P l k σ Q
  | none => False
def GoN (P : Program) (v : Option V) (dst : Option Tmp) (l : List SOp) (L : Store) (k : List Fr) (σ : St) (Q : Ex → St → Prop) : Prop :=
  match v with
  | some v => GoD P l L k (put σ dst v) Q
  | none => False

/-- A test whose outcome is this value. -/
def GoC (P : Program) (v : Option Value) (x y : SC) (k : List Fr) (σ : St) (Q : Ex → St → Prop) : Prop :=
  match v with
  | some (.bool t) => (t = true → Go P x k σ Q) ∧ (t = false → Go P y k σ Q)
  | _ => False

section
variable {P : Program} {k : List Fr} {σ : St} {Q : Ex → St → Prop} {l : List SOp} {s : SOp} {L : Store}

theorem Go_test {c : Operand} {x y : SC} : Go P (.cond c x y) k σ Q = GoC P (plain (ev σ c)) x y k σ Q := by
  rw [Go_cond_eq]
  unfold GoC
  apply propext
  constructor
  · rintro ⟨t, h1, h2⟩
    rw [h1]; exact h2
  · intro h
    split at h
    · rename_i t ht; exact ⟨t, ht, h⟩
    · exact h.elim
theorem GoC_true {x y : SC} : GoC P (some (.bool true)) x y k σ Q = Go P x k σ Q := by simp [GoC]
theorem GoC_false {x y : SC} : GoC P (some (.bool false)) x y k σ Q = Go P y k σ Q := by simp [GoC]
theorem GoC_split {x y : SC} {t : Bool} (hx : t = true → Go P x k σ Q) (hy : t = false → Go P y k σ Q) : GoC P (some (.bool t)) x y k σ Q := ⟨hx, hy⟩

theorem isCall_spec {op : Op} (h : isCall op = false) : ∀ f as ats, op ≠ .call { callee := .value (.func f), args := as, argTypes := ats } := by
  intro f as ats e; subst e; cases h
theorem isCall_map {op : Op} (h : isCall op = false) : (∀ t r, op ≠ .makeMap t r) ∧ (∀ a b c d, op ≠ .lookup a b c d) ∧ (∀ a b c d, op ≠ .mapUpdate a b c d) ∧ ∀ t, op ≠ .alloc t :=
  ⟨fun _ _ e => (by subst e; cases h), fun _ _ _ _ e => (by subst e; cases h), fun _ _ _ _ e => (by subst e; cases h), fun _ e => (by subst e; cases h)⟩

theorem GoL_eq0 (h : isCall s.op = false) : GoL P (s :: l) k σ Q = GoM P (stepG P σ s) l k Q := by
  have hs := isCall_spec h
  unfold GoL stepL stepG GoM
  cases hg : gdS σ.t s with
  | none => rfl
  | some b =>
    cases b with
    | false => rfl
    | true =>
      simp only
      apply propext
      constructor
      · intro hw
        unfold wop at hw
        split at hw
        · rename_i f as ats ho; exact absurd ho (hs f as ats)
        · rename_i ho; exact absurd ho ((isCall_map h).1 _ _)
        · rename_i ho; exact absurd ho ((isCall_map h).2.1 _ _ _ _)
        · rename_i ho; exact absurd ho ((isCall_map h).2.2.1 _ _ _ _)
        · rename_i ho; exact absurd ho ((isCall_map h).2.2.2 _)
        · obtain ⟨σ', h1, h2⟩ := hw
          rw [h1]; exact h2
      · intro hw
        split at hw
        · rename_i σ' h1
          unfold wop
          split
          · rename_i f as ats ho; exact absurd ho (hs f as ats)
          · rename_i ho; exact absurd ho ((isCall_map h).1 _ _)
          · rename_i ho; exact absurd ho ((isCall_map h).2.1 _ _ _ _)
          · rename_i ho; exact absurd ho ((isCall_map h).2.2.1 _ _ _ _)
          · rename_i ho; exact absurd ho ((isCall_map h).2.2.2 _)
          · exact ⟨σ', h1, hw⟩
        · exact hw.elim

theorem GoM_some {σ' : St} : GoM P (some σ') l k Q = GoL P l k σ' Q := propext Iff.rfl

def isAl : Op → Bool
  | .alloc _ => true
  | .buildSlice _ _ _ => true
  | _ => false
theorem GoD_eq0 (h : isCall s.op = false) (he : isEff s.op = false) (hA : isAl s.op = false) : GoD P (s :: l) L k σ Q = GoN P (opG P σ s) s.dst l L k σ Q := by
  have hs := isCall_spec h
  unfold GoD drawL opG GoN
  rw [if_neg (by rw [he]; simp)]
  cases hg : gdS σ.t s with
  | none => rfl
  | some b =>
    cases b with
    | false => rfl
    | true =>
      simp only
      apply propext
      constructor
      · rintro ⟨v, m, h1, h2, h3⟩
        unfold OpE at h1
        split at h1
        · rename_i f as ats ho; exact absurd ho (hs f as ats)
        · rename_i t ho; rw [SOp.oper] at ho; simp only at ho; rw [ho] at hA; cases hA
        · rename_i t ps ho; rw [SOp.oper] at ho; simp only at ho; rw [ho] at hA; cases hA
        · rename_i t n ps ho; rw [SOp.oper] at ho; simp only at ho; rw [ho] at hA; cases hA
        · obtain ⟨e1, rfl⟩ := h1
          rw [e1]; exact h3
      · intro hw
        split at hw
        · rename_i v h1
          refine ⟨v, [], ?_, rfl, hw⟩
          unfold OpE
          split
          · rename_i f as ats ho; exact absurd ho (hs f as ats)
          · rename_i t ho; rw [SOp.oper] at ho; simp only at ho; rw [ho] at hA; cases hA
          · rename_i t ps ho; rw [SOp.oper] at ho; simp only at ho; rw [ho] at hA; cases hA
          · rename_i t n ps ho; rw [SOp.oper] at ho; simp only at ho; rw [ho] at hA; cases hA
          · exact ⟨h1, rfl⟩
        · exact hw.elim

theorem GoL_eq {d : Option Tmp} {op : Op} {ty : TypeId} {g : Option (Tmp × Bool)} (h : isCall op = false) : GoL P (⟨d, op, ty, g⟩ :: l) k σ Q = GoM P (stepG P σ ⟨d, op, ty, g⟩) l k Q := GoL_eq0 h
theorem GoD_eq {d : Option Tmp} {op : Op} {ty : TypeId} {g : Option (Tmp × Bool)} (h : isCall op = false) (he : isEff op = false) (hA : isAl op = false) : GoD P (⟨d, op, ty, g⟩ :: l) L k σ Q = GoN P (opG P σ ⟨d, op, ty, g⟩) d l L k σ Q := GoD_eq0 h he hA
theorem nc_box {e : TypeId} {x : Operand} : isCall (.box e x) = false := rfl
theorem GoL_eqA {d : Option Tmp} {t ty : TypeId} {g : Option (Tmp × Bool)} (h : bldT P t = false) : GoL P (⟨d, .alloc t, ty, g⟩ :: l) k σ Q = GoM P (stepG P σ ⟨d, .alloc t, ty, g⟩) l k Q := by
  unfold GoL stepL stepG GoM
  cases hg : gdS σ.t ⟨d, .alloc t, ty, g⟩ with
  | none => rfl
  | some b =>
    cases b with
    | false => rfl
    | true =>
      simp only
      apply propext
      have hw : ∀ K, wop P (SOp.oper ⟨d, .alloc t, ty, g⟩) σ K = ∃ σ', stepO P σ (SOp.oper ⟨d, .alloc t, ty, g⟩) = some σ' ∧ K σ' := fun K => by
        show (if bldT P t = true then _ else _) = _
        rw [if_neg (by rw [h]; simp)]
      rw [hw]
      constructor
      · rintro ⟨σ', h1, h2⟩
        rw [h1]; exact h2
      · intro hw
        split at hw
        · rename_i σ' h1
          exact ⟨σ', h1, hw⟩
        · exact hw.elim
theorem bldZ_nil : bldZ [] = false := rfl
theorem bldZ_one {x : Value} : bldZ [x] = false := rfl
theorem bldZ_two {x y : Value} : bldZ [x, y] = (isNilP x && isNilS y) := rfl
theorem bldZ_more {x y z : Value} {vs : List Value} : bldZ (x :: y :: z :: vs) = false := rfl
theorem isNilP_int {k : IntKind} {n : Int} : isNilP (.int k n) = false := rfl
theorem isNilP_str {s : ByteArray} : isNilP (.string s) = false := rfl
theorem isNilP_bool {b : Bool} : isNilP (.bool b) = false := rfl
theorem isNilP_slice {a : Option Addr} {n m : Nat} : isNilP (.slice a n m) = false := rfl
theorem isNilS_int {k : IntKind} {n : Int} : isNilS (.int k n) = false := rfl
theorem isNilS_str {s : ByteArray} : isNilS (.string s) = false := rfl
theorem isNilS_bool {b : Bool} : isNilS (.bool b) = false := rfl
theorem isNilS_ptr {a : Option Addr} : isNilS (.pointer a) = false := rfl
theorem bldT_eq {t : TypeId} : bldT P t = match tyZero P t with
  | some zs => bldZ zs
  | none => false := rfl
theorem isNilP_map {a : Option Nat} : isNilP (.map a) = false := rfl
theorem isNilP_func : isNilP .nilFunc = false := rfl
theorem isNilP_iface : isNilP .nilIface = false := rfl
theorem isNilP_ptr : isNilP (.pointer none) = true := rfl
theorem isNilS_map {a : Option Nat} : isNilS (.map a) = false := rfl
theorem isNilS_func : isNilS .nilFunc = false := rfl
theorem isNilS_iface : isNilS .nilIface = false := rfl
theorem isNilS_slice {n m : Nat} : isNilS (.slice none n m) = true := rfl
attribute [push_cast] bldT_eq bldZ_nil bldZ_one bldZ_two bldZ_more isNilP_int isNilP_str isNilP_bool isNilP_slice isNilP_map isNilP_func isNilP_iface isNilP_ptr isNilS_int isNilS_str isNilS_bool isNilS_ptr isNilS_map isNilS_func isNilS_iface isNilS_slice
theorem nc_makeSlice {t : TypeId} {x y : Operand} : isCall (.makeSlice t x y) = false := rfl
theorem nc_store {t : TypeId} {x y : Operand} : isCall (.store t x y) = false := rfl
theorem nc_move {x : Operand} : isCall (.move x) = false := rfl
theorem nc_assign {x : Operand} : isCall (.assign x) = false := rfl
theorem nc_pick {c x y : Operand} : isCall (.pick c x y) = false := rfl
theorem nc_nilCheck {x : Operand} : isCall (.nilCheck x) = false := rfl
theorem nc_binOp {o : BinOp} {t u : TypeId} {x y : Operand} : isCall (.binOp o t x y u) = false := rfl
theorem nc_unOp {o : UnOp} {t : TypeId} {x : Operand} : isCall (.unOp o t x) = false := rfl
theorem nc_convert {t u : TypeId} {x : Operand} : isCall (.convert t u x) = false := rfl
theorem nc_field {t : TypeId} {x : Operand} {f : Nat} : isCall (.field t x f) = false := rfl
theorem nc_extract {x : Operand} {i : Nat} : isCall (.extract x i) = false := rfl
theorem nc_index {t : TypeId} {x i : Operand} : isCall (.index t x i) = false := rfl
theorem nc_fieldAddr {t : TypeId} {x : Operand} {f : Nat} : isCall (.fieldAddr t x f) = false := rfl
theorem nc_indexAddr {t : TypeId} {x i : Operand} : isCall (.indexAddr t x i) = false := rfl
theorem nc_slice {t : TypeId} {x : Operand} {lo hi mx : Option Operand} : isCall (.slice t x lo hi mx) = false := rfl
theorem nc_load {t : TypeId} {x : Operand} : isCall (.load t x) = false := rfl
theorem nc_build {t : TypeId} {ps : Array (Nat × Operand)} : isCall (.build t ps) = false := rfl
theorem nc_buildSlice {t n : Nat} {ps : Array (Nat × Operand)} : isCall (.buildSlice t n ps) = false := rfl
theorem nc_built {b : Builtin} {as : Array Operand} {ats : Array TypeId} : isCall (.call { callee := .builtin b, args := as, argTypes := ats }) = false := rfl
theorem gL_box {d : Option Tmp} {ty : TypeId} {gg : Option (Tmp × Bool)} {e : TypeId} {x : Operand} : GoL P (⟨d, .box e x, ty, gg⟩ :: l) k σ Q = GoM P (stepG P σ ⟨d, .box e x, ty, gg⟩) l k Q := GoL_eq nc_box
theorem gD_box {d : Option Tmp} {ty : TypeId} {gg : Option (Tmp × Bool)} {e : TypeId} {x : Operand} : GoD P (⟨d, .box e x, ty, gg⟩ :: l) L k σ Q = GoL P (⟨d, .box e x, ty, gg⟩ :: l) k ⟨σ.t, σ.d, L ++ σ.l, σ.g⟩ Q := GoD_eff rfl
theorem gL_alloc {d : Option Tmp} {ty : TypeId} {gg : Option (Tmp × Bool)} {e : TypeId} (h : bldT P e = false) : GoL P (⟨d, .alloc e, ty, gg⟩ :: l) k σ Q = GoM P (stepG P σ ⟨d, .alloc e, ty, gg⟩) l k Q := GoL_eqA h
theorem gD_alloc {d : Option Tmp} {ty : TypeId} {e : TypeId} : GoD P (⟨d, .alloc e, ty, none⟩ :: l) L k σ Q = match d, tyZero P e with
    | some N, some zs => if (getA (L ++ σ.l) (σ.d, N * 64)).isNone = true then GoD P l (((σ.d, N * 64), ⟨.box, zs.length, [zs.map .v]⟩) :: L) k (put σ (some N) (ptV σ N zs.length)) Q else False
    | _, _ => False := by
  apply propext
  show (∃ v m, OpE P σ L (SOp.oper ⟨d, .alloc e, ty, none⟩) v m ∧ freshR (L ++ σ.l) m = true ∧ GoD P l (m ++ L) k (put σ d v) Q) ↔ _
  constructor
  · rintro ⟨v, m, h1, h2, h3⟩
    unfold OpE at h1
    simp only [SOp.oper] at h1
    split at h1
    · rename_i N zs hz
      obtain ⟨rfl, rfl⟩ := h1
      simp only [freshR, Bool.and_true] at h2
      try simp only [hz]
      rw [if_pos h2]; exact h3
    · exact h1.elim
  · intro h
    split at h
    · rename_i N zs hz
      split at h
      · rename_i hf
        refine ⟨ptV σ N zs.length, [((σ.d, N * 64), ⟨.box, zs.length, [zs.map .v]⟩)], ?_, ?_, h⟩
        · unfold OpE
          simp [SOp.oper, hz]
        · simp only [freshR, Bool.and_true]; exact hf
      · exact h.elim
    · exact h.elim
theorem gL_makeSlice {d : Option Tmp} {ty : TypeId} {gg : Option (Tmp × Bool)} {t : TypeId} {x y : Operand} : GoL P (⟨d, .makeSlice t x y, ty, gg⟩ :: l) k σ Q = GoM P (stepG P σ ⟨d, .makeSlice t x y, ty, gg⟩) l k Q := GoL_eq nc_makeSlice
theorem gD_makeSlice {d : Option Tmp} {ty : TypeId} {gg : Option (Tmp × Bool)} {t : TypeId} {x y : Operand} : GoD P (⟨d, .makeSlice t x y, ty, gg⟩ :: l) L k σ Q = GoL P (⟨d, .makeSlice t x y, ty, gg⟩ :: l) k ⟨σ.t, σ.d, L ++ σ.l, σ.g⟩ Q := GoD_eff rfl
theorem gL_store {d : Option Tmp} {ty : TypeId} {gg : Option (Tmp × Bool)} {t : TypeId} {x y : Operand} : GoL P (⟨d, .store t x y, ty, gg⟩ :: l) k σ Q = GoM P (stepG P σ ⟨d, .store t x y, ty, gg⟩) l k Q := GoL_eq nc_store
theorem gD_store {d : Option Tmp} {ty : TypeId} {gg : Option (Tmp × Bool)} {t : TypeId} {x y : Operand} : GoD P (⟨d, .store t x y, ty, gg⟩ :: l) L k σ Q = GoL P (⟨d, .store t x y, ty, gg⟩ :: l) k ⟨σ.t, σ.d, L ++ σ.l, σ.g⟩ Q := GoD_eff rfl
theorem gL_move {d : Option Tmp} {ty : TypeId} {gg : Option (Tmp × Bool)} {x : Operand} : GoL P (⟨d, .move x, ty, gg⟩ :: l) k σ Q = GoM P (stepG P σ ⟨d, .move x, ty, gg⟩) l k Q := GoL_eq nc_move
theorem gD_move {d : Option Tmp} {ty : TypeId} {gg : Option (Tmp × Bool)} {x : Operand} : GoD P (⟨d, .move x, ty, gg⟩ :: l) L k σ Q = GoN P (opG P σ ⟨d, .move x, ty, gg⟩) d l L k σ Q := GoD_eq nc_move rfl rfl
theorem gL_assign {d : Option Tmp} {ty : TypeId} {gg : Option (Tmp × Bool)} {x : Operand} : GoL P (⟨d, .assign x, ty, gg⟩ :: l) k σ Q = GoM P (stepG P σ ⟨d, .assign x, ty, gg⟩) l k Q := GoL_eq nc_assign
theorem gD_assign {d : Option Tmp} {ty : TypeId} {gg : Option (Tmp × Bool)} {x : Operand} : GoD P (⟨d, .assign x, ty, gg⟩ :: l) L k σ Q = GoN P (opG P σ ⟨d, .assign x, ty, gg⟩) d l L k σ Q := GoD_eq nc_assign rfl rfl
theorem gL_pick {d : Option Tmp} {ty : TypeId} {gg : Option (Tmp × Bool)} {c x y : Operand} : GoL P (⟨d, .pick c x y, ty, gg⟩ :: l) k σ Q = GoM P (stepG P σ ⟨d, .pick c x y, ty, gg⟩) l k Q := GoL_eq nc_pick
theorem gD_pick {d : Option Tmp} {ty : TypeId} {gg : Option (Tmp × Bool)} {c x y : Operand} : GoD P (⟨d, .pick c x y, ty, gg⟩ :: l) L k σ Q = GoN P (opG P σ ⟨d, .pick c x y, ty, gg⟩) d l L k σ Q := GoD_eq nc_pick rfl rfl
theorem gL_nilCheck {d : Option Tmp} {ty : TypeId} {gg : Option (Tmp × Bool)} {x : Operand} : GoL P (⟨d, .nilCheck x, ty, gg⟩ :: l) k σ Q = GoM P (stepG P σ ⟨d, .nilCheck x, ty, gg⟩) l k Q := GoL_eq nc_nilCheck
theorem gD_nilCheck {d : Option Tmp} {ty : TypeId} {gg : Option (Tmp × Bool)} {x : Operand} : GoD P (⟨d, .nilCheck x, ty, gg⟩ :: l) L k σ Q = GoN P (opG P σ ⟨d, .nilCheck x, ty, gg⟩) d l L k σ Q := GoD_eq nc_nilCheck rfl rfl
theorem gL_binOp {d : Option Tmp} {ty : TypeId} {gg : Option (Tmp × Bool)} {o : BinOp} {t u : TypeId} {x y : Operand} : GoL P (⟨d, .binOp o t x y u, ty, gg⟩ :: l) k σ Q = GoM P (stepG P σ ⟨d, .binOp o t x y u, ty, gg⟩) l k Q := GoL_eq nc_binOp
theorem gD_binOp {d : Option Tmp} {ty : TypeId} {gg : Option (Tmp × Bool)} {o : BinOp} {t u : TypeId} {x y : Operand} : GoD P (⟨d, .binOp o t x y u, ty, gg⟩ :: l) L k σ Q = GoN P (opG P σ ⟨d, .binOp o t x y u, ty, gg⟩) d l L k σ Q := GoD_eq nc_binOp rfl rfl
theorem gL_unOp {d : Option Tmp} {ty : TypeId} {gg : Option (Tmp × Bool)} {o : UnOp} {t : TypeId} {x : Operand} : GoL P (⟨d, .unOp o t x, ty, gg⟩ :: l) k σ Q = GoM P (stepG P σ ⟨d, .unOp o t x, ty, gg⟩) l k Q := GoL_eq nc_unOp
theorem gD_unOp {d : Option Tmp} {ty : TypeId} {gg : Option (Tmp × Bool)} {o : UnOp} {t : TypeId} {x : Operand} : GoD P (⟨d, .unOp o t x, ty, gg⟩ :: l) L k σ Q = GoN P (opG P σ ⟨d, .unOp o t x, ty, gg⟩) d l L k σ Q := GoD_eq nc_unOp rfl rfl
theorem gL_convert {d : Option Tmp} {ty : TypeId} {gg : Option (Tmp × Bool)} {t u : TypeId} {x : Operand} : GoL P (⟨d, .convert t u x, ty, gg⟩ :: l) k σ Q = GoM P (stepG P σ ⟨d, .convert t u x, ty, gg⟩) l k Q := GoL_eq nc_convert
theorem gD_convert {d : Option Tmp} {ty : TypeId} {gg : Option (Tmp × Bool)} {t u : TypeId} {x : Operand} : GoD P (⟨d, .convert t u x, ty, gg⟩ :: l) L k σ Q = GoN P (opG P σ ⟨d, .convert t u x, ty, gg⟩) d l L k σ Q := GoD_eq nc_convert rfl rfl
theorem gL_field {d : Option Tmp} {ty : TypeId} {gg : Option (Tmp × Bool)} {t : TypeId} {x : Operand} {f : Nat} : GoL P (⟨d, .field t x f, ty, gg⟩ :: l) k σ Q = GoM P (stepG P σ ⟨d, .field t x f, ty, gg⟩) l k Q := GoL_eq nc_field
theorem gD_field {d : Option Tmp} {ty : TypeId} {gg : Option (Tmp × Bool)} {t : TypeId} {x : Operand} {f : Nat} : GoD P (⟨d, .field t x f, ty, gg⟩ :: l) L k σ Q = GoN P (opG P σ ⟨d, .field t x f, ty, gg⟩) d l L k σ Q := GoD_eq nc_field rfl rfl
theorem gL_extract {d : Option Tmp} {ty : TypeId} {gg : Option (Tmp × Bool)} {x : Operand} {i : Nat} : GoL P (⟨d, .extract x i, ty, gg⟩ :: l) k σ Q = GoM P (stepG P σ ⟨d, .extract x i, ty, gg⟩) l k Q := GoL_eq nc_extract
theorem gD_extract {d : Option Tmp} {ty : TypeId} {gg : Option (Tmp × Bool)} {x : Operand} {i : Nat} : GoD P (⟨d, .extract x i, ty, gg⟩ :: l) L k σ Q = GoN P (opG P σ ⟨d, .extract x i, ty, gg⟩) d l L k σ Q := GoD_eq nc_extract rfl rfl
theorem gL_index {d : Option Tmp} {ty : TypeId} {gg : Option (Tmp × Bool)} {t : TypeId} {x i : Operand} : GoL P (⟨d, .index t x i, ty, gg⟩ :: l) k σ Q = GoM P (stepG P σ ⟨d, .index t x i, ty, gg⟩) l k Q := GoL_eq nc_index
theorem gD_index {d : Option Tmp} {ty : TypeId} {gg : Option (Tmp × Bool)} {t : TypeId} {x i : Operand} : GoD P (⟨d, .index t x i, ty, gg⟩ :: l) L k σ Q = GoN P (opG P σ ⟨d, .index t x i, ty, gg⟩) d l L k σ Q := GoD_eq nc_index rfl rfl
theorem gL_fieldAddr {d : Option Tmp} {ty : TypeId} {gg : Option (Tmp × Bool)} {t : TypeId} {x : Operand} {f : Nat} : GoL P (⟨d, .fieldAddr t x f, ty, gg⟩ :: l) k σ Q = GoM P (stepG P σ ⟨d, .fieldAddr t x f, ty, gg⟩) l k Q := GoL_eq nc_fieldAddr
theorem gD_fieldAddr {d : Option Tmp} {ty : TypeId} {gg : Option (Tmp × Bool)} {t : TypeId} {x : Operand} {f : Nat} : GoD P (⟨d, .fieldAddr t x f, ty, gg⟩ :: l) L k σ Q = GoN P (opG P σ ⟨d, .fieldAddr t x f, ty, gg⟩) d l L k σ Q := GoD_eq nc_fieldAddr rfl rfl
theorem gL_indexAddr {d : Option Tmp} {ty : TypeId} {gg : Option (Tmp × Bool)} {t : TypeId} {x i : Operand} : GoL P (⟨d, .indexAddr t x i, ty, gg⟩ :: l) k σ Q = GoM P (stepG P σ ⟨d, .indexAddr t x i, ty, gg⟩) l k Q := GoL_eq nc_indexAddr
theorem gD_indexAddr {d : Option Tmp} {ty : TypeId} {gg : Option (Tmp × Bool)} {t : TypeId} {x i : Operand} : GoD P (⟨d, .indexAddr t x i, ty, gg⟩ :: l) L k σ Q = GoN P (opG P σ ⟨d, .indexAddr t x i, ty, gg⟩) d l L k σ Q := GoD_eq nc_indexAddr rfl rfl
theorem gL_slice {d : Option Tmp} {ty : TypeId} {gg : Option (Tmp × Bool)} {t : TypeId} {x : Operand} {lo hi mx : Option Operand} : GoL P (⟨d, .slice t x lo hi mx, ty, gg⟩ :: l) k σ Q = GoM P (stepG P σ ⟨d, .slice t x lo hi mx, ty, gg⟩) l k Q := GoL_eq nc_slice
theorem gD_slice {d : Option Tmp} {ty : TypeId} {gg : Option (Tmp × Bool)} {t : TypeId} {x : Operand} {lo hi mx : Option Operand} : GoD P (⟨d, .slice t x lo hi mx, ty, gg⟩ :: l) L k σ Q = GoN P (opG P σ ⟨d, .slice t x lo hi mx, ty, gg⟩) d l L k σ Q := GoD_eq nc_slice rfl rfl
theorem gL_load {d : Option Tmp} {ty : TypeId} {gg : Option (Tmp × Bool)} {t : TypeId} {x : Operand} : GoL P (⟨d, .load t x, ty, gg⟩ :: l) k σ Q = GoM P (stepG P σ ⟨d, .load t x, ty, gg⟩) l k Q := GoL_eq nc_load
theorem gD_load {d : Option Tmp} {ty : TypeId} {gg : Option (Tmp × Bool)} {t : TypeId} {x : Operand} : GoD P (⟨d, .load t x, ty, gg⟩ :: l) L k σ Q = GoN P (opG P σ ⟨d, .load t x, ty, gg⟩) d l L k σ Q := GoD_eq nc_load rfl rfl
theorem gL_build {d : Option Tmp} {ty : TypeId} {gg : Option (Tmp × Bool)} {t : TypeId} {ps : Array (Nat × Operand)} : GoL P (⟨d, .build t ps, ty, gg⟩ :: l) k σ Q = GoM P (stepG P σ ⟨d, .build t ps, ty, gg⟩) l k Q := GoL_eq nc_build
theorem gD_build {d : Option Tmp} {ty : TypeId} {gg : Option (Tmp × Bool)} {t : TypeId} {ps : Array (Nat × Operand)} : GoD P (⟨d, .build t ps, ty, gg⟩ :: l) L k σ Q = GoN P (opG P σ ⟨d, .build t ps, ty, gg⟩) d l L k σ Q := GoD_eq nc_build rfl rfl
theorem gL_buildSlice {d : Option Tmp} {ty : TypeId} {gg : Option (Tmp × Bool)} {t n : Nat} {ps : Array (Nat × Operand)} : GoL P (⟨d, .buildSlice t n ps, ty, gg⟩ :: l) k σ Q = GoM P (stepG P σ ⟨d, .buildSlice t n ps, ty, gg⟩) l k Q := GoL_eq nc_buildSlice
theorem gD_lits {d : Option Tmp} {ty : TypeId} {t n : Nat} {ps : Array (Nat × Operand)} (hn : n ≠ 0) : GoD P (⟨d, .buildSlice t n ps, ty, none⟩ :: l) L k σ Q =
    match d, litR P t n (ps.toList.map fun p => (p.1, ev σ p.2)) with
    | some N, some p => if (getA (L ++ σ.l) (σ.d, N * 64)).isNone = true then GoD P l (((σ.d, N * 64), ⟨.sl, p.1, p.2⟩) :: L) k (put σ (some N) (slV σ N p.1 n)) Q else False
    | _, _ => GoN P (buildW P t n (ps.toList.map fun p => (p.1, ev σ p.2))) d l L k σ Q := by
  obtain ⟨n, rfl⟩ : ∃ m, n = m + 1 := ⟨n - 1, by omega⟩
  apply propext
  show (∃ v m, OpE P σ L (SOp.oper ⟨d, .buildSlice t (n + 1) ps, ty, none⟩) v m ∧ freshR (L ++ σ.l) m = true ∧ GoD P l (m ++ L) k (put σ d v) Q) ↔ _
  constructor
  · rintro ⟨v, m, h1, h2, h3⟩
    unfold OpE at h1
    simp only [SOp.oper] at h1
    split at h1
    · rename_i N p hz
      obtain ⟨rfl, rfl⟩ := h1
      simp only [freshR, Bool.and_true] at h2
      try simp only [hz]
      rw [if_pos h2]; exact h3
    · rename_i hz
      obtain ⟨h4, rfl⟩ := h1
      have h5 : buildW P t (n + 1) (ps.toList.map fun p => (p.1, ev σ p.2)) = some v := h4
      first
        | (rw [h5]; exact h3)
        | (split <;> first | (rename_i N p hp; exact absurd hp (fun h => hz N p rfl h)) | (rw [h5]; exact h3))
  · intro h
    split at h
    · rename_i N p hz
      split at h
      · rename_i hf
        refine ⟨slV σ N p.1 (n + 1), [((σ.d, N * 64), ⟨.sl, p.1, p.2⟩)], ?_, ?_, h⟩
        · unfold OpE
          simp [SOp.oper, hz]
        · simp only [freshR, Bool.and_true]; exact hf
      · exact h.elim
    · rename_i hz
      unfold GoN at h
      split at h
      · rename_i v hv
        refine ⟨v, [], ?_, rfl, h⟩
        unfold OpE
        simp only [SOp.oper]
        exact ⟨hv, trivial⟩
      · exact h.elim
theorem gD_lit0 {d : Option Tmp} {ty : TypeId} {t : Nat} : GoD P (⟨d, .buildSlice t 0 #[], ty, none⟩ :: l) L k σ Q = match d, lit0 P t with
    | some N, some sz => if (getA (L ++ σ.l) (σ.d, N * 64)).isNone = true then GoD P l (((σ.d, N * 64), ⟨.sl, sz, []⟩) :: L) k (put σ (some N) (slV σ N sz 0)) Q else False
    | _, _ => False := by
  apply propext
  show (∃ v m, OpE P σ L (SOp.oper ⟨d, .buildSlice t 0 #[], ty, none⟩) v m ∧ freshR (L ++ σ.l) m = true ∧ GoD P l (m ++ L) k (put σ d v) Q) ↔ _
  constructor
  · rintro ⟨v, m, h1, h2, h3⟩
    unfold OpE at h1
    simp only [SOp.oper] at h1
    split at h1
    · rename_i N sz hz
      obtain ⟨_, rfl, rfl⟩ := h1
      simp only [freshR, Bool.and_true] at h2
      try simp only [hz]
      rw [if_pos h2]; exact h3
    · exact h1.elim
  · intro h
    split at h
    · rename_i N sz hz
      split at h
      · rename_i hf
        refine ⟨slV σ N sz 0, [((σ.d, N * 64), ⟨.sl, sz, []⟩)], ?_, ?_, h⟩
        · unfold OpE
          simp [SOp.oper, hz]
        · simp only [freshR, Bool.and_true]; exact hf
      · exact h.elim
    · exact h.elim
theorem gL_built {d : Option Tmp} {ty : TypeId} {gg : Option (Tmp × Bool)} {b : Builtin} {as : Array Operand} {ats : Array TypeId} : GoL P (⟨d, .call { callee := .builtin b, args := as, argTypes := ats }, ty, gg⟩ :: l) k σ Q = GoM P (stepG P σ ⟨d, .call { callee := .builtin b, args := as, argTypes := ats }, ty, gg⟩) l k Q := GoL_eq nc_built
theorem gD_built {d : Option Tmp} {ty : TypeId} {gg : Option (Tmp × Bool)} {b : Builtin} {as : Array Operand} {ats : Array TypeId} (he : isEff (.call { callee := .builtin b, args := as, argTypes := ats }) = false) : GoD P (⟨d, .call { callee := .builtin b, args := as, argTypes := ats }, ty, gg⟩ :: l) L k σ Q = GoN P (opG P σ ⟨d, .call { callee := .builtin b, args := as, argTypes := ats }, ty, gg⟩) d l L k σ Q := GoD_eq nc_built he rfl

theorem GoN_some {v : V} {dst : Option Tmp} : GoN P (some v) dst l L k σ Q = GoD P l L k (put σ dst v) Q := propext Iff.rfl


/-! ### regions in which slices of their own are appended to -/
def GoNK (P : Program) (ks : List Tmp) (v : Option V) (dst : Option Tmp) (l : List SOp) (L : Store) (k : List Fr) (σ : St) (Q : Ex → St → Prop) : Prop :=
  match v with
  | some v => cleanV σ.d ks dst v = true ∧ GoK P ks l L k (put σ dst v) Q
  | none => False
section
variable {ks : List Tmp}
def mkOp : Op → Bool
  | .buildSlice _ 0 _ => true
  | .call { callee := .builtin .append, args := _, argTypes := _ } => true
  | _ => false
def madeS : List SOp → Tmp → Bool
  | [], _ => false
  | s :: l, t => (decide (s.dst = some t) && mkOp s.op) || madeS l t
theorem madeS_eq : ∀ (l : List SOp) (t : Tmp), madeB (slB l) t = madeS l t
  | [], _ => rfl
  | s :: l, t => by
    have ih := madeS_eq l t
    unfold madeB slB at *
    rw [List.map_cons, List.any_cons, ih, madeS]
    congr 1
    by_cases h : s.dst = some t
    · rw [decide_eq_true h]; simp only [h, beq_self_eq_true, Bool.true_and]; rfl
    · rw [decide_eq_false h]; simp [h]
def ksF : List Tmp → List SOp → List Tmp
  | [], _ => []
  | t :: ts, l => if madeS l t = true then t :: ksF ts l else ksF ts l
theorem ksOf_eq (l : List SOp) : ksOf l = ksF (appTs l) l := by
  unfold ksOf
  generalize appTs l = ts
  induction ts with
  | nil => rfl
  | cons t ts ih =>
    rw [List.filter_cons, madeS_eq, ih, ksF]
theorem appTs_nil : appTs [] = [] := rfl
theorem appTs_cons (s : SOp) (l : List SOp) : appTs (s :: l) = match s.op with
    | .call { callee := .builtin .append, args := as, argTypes := _ } => match as.toList with
      | .tmp t :: _ => t :: appTs l
      | _ => appTs l
    | _ => appTs l := rfl
theorem cleanV_tuple (dst : Option Tmp) (d : Nat) : cleanV d ks dst (.x (.one (.v (.tuple #[])))) = true := by
  unfold cleanV; rw [List.all_eq_true]; intro t _; simp [hasV, hasX, hasC]
theorem cleanV_nil {d : Nat} {dst : Option Tmp} {v : V} : cleanV d [] dst v = true := rfl
theorem cleanV_cons {d : Nat} {t : Tmp} {dst : Option Tmp} {v : V} : cleanV d (t :: ks) dst v = ((decide (dst = some t) || !hasV (d, t * 64) v) && cleanV d ks dst v) := by
  unfold cleanV
  rw [List.all_cons]
  congr 2
  by_cases h : dst = some t
  · rw [decide_eq_true h, h]; simp
  · rw [decide_eq_false h]; simpa using h
theorem none_ne_some {t : Tmp} : ((none : Option Tmp) = some t) = False := by simp
theorem GoNK_some {v : V} {dst : Option Tmp} : GoNK P ks (some v) dst l L k σ Q = (cleanV σ.d ks dst v = true ∧ GoK P ks l L k (put σ dst v) Q) := rfl
theorem GoK_nil : GoK P ks [] L k σ Q = Re P k .normal { σ with l := L ++ σ.l } Q := rfl
theorem GoK_eq0 (hk : killK ks s.op = none) (h : isCall s.op = false) (he : isEff s.op = false) (hA : isAl s.op = false) : GoK P ks (s :: l) L k σ Q = GoNK P ks (opG P σ s) s.dst l L k σ Q := by
  have hs := isCall_spec h
  unfold GoK drawK opG GoNK
  rw [hk]
  simp only
  rw [if_neg (by rw [he]; simp)]
  cases hg : gdS σ.t s with
  | none => rfl
  | some b =>
    cases b with
    | false =>
      apply propext
      constructor
      · intro h; exact ⟨cleanV_tuple _ _, h⟩
      · intro h; exact h.2
    | true =>
      simp only
      apply propext
      constructor
      · rintro ⟨v, m, h1, h2, h3, h4⟩
        unfold OpE at h1
        split at h1
        · rename_i f as ats ho; exact absurd ho (hs f as ats)
        · rename_i t ho; rw [SOp.oper] at ho; simp only at ho; rw [ho] at hA; cases hA
        · rename_i t ps ho; rw [SOp.oper] at ho; simp only at ho; rw [ho] at hA; cases hA
        · rename_i t n ps ho; rw [SOp.oper] at ho; simp only at ho; rw [ho] at hA; cases hA
        · obtain ⟨e1, rfl⟩ := h1
          rw [e1]; exact ⟨h3, h4⟩
      · intro hw
        split at hw
        · rename_i v h1
          refine ⟨v, [], ?_, rfl, hw.1, hw.2⟩
          unfold OpE
          split
          · rename_i f as ats ho; exact absurd ho (hs f as ats)
          · rename_i t ho; rw [SOp.oper] at ho; simp only at ho; rw [ho] at hA; cases hA
          · rename_i t ps ho; rw [SOp.oper] at ho; simp only at ho; rw [ho] at hA; cases hA
          · rename_i t n ps ho; rw [SOp.oper] at ho; simp only at ho; rw [ho] at hA; cases hA
          · exact ⟨h1, rfl⟩
        · exact hw.elim
theorem GoK_eq {d : Option Tmp} {op : Op} {ty : TypeId} {g : Option (Tmp × Bool)} (hk : killK ks op = none) (h : isCall op = false) (he : isEff op = false) (hA : isAl op = false) : GoK P ks (⟨d, op, ty, g⟩ :: l) L k σ Q = GoNK P ks (opG P σ ⟨d, op, ty, g⟩) d l L k σ Q := GoK_eq0 hk h he hA
theorem GoK_eff {s : SOp} (hk : killK ks s.op = none) (he : isEff s.op = true) : GoK P ks (s :: l) L k σ Q = GoL P (s :: l) k { σ with l := L ++ σ.l } Q := by
  unfold GoK GoL drawK
  rw [hk]
  simp only
  rw [if_pos he]
theorem gK_alloc {d : Option Tmp} {ty : TypeId} {e : TypeId} : GoK P ks (⟨d, .alloc e, ty, none⟩ :: l) L k σ Q = match d, tyZero P e with
    | some N, some zs => if (getA (L ++ σ.l) (σ.d, N * 64)).isNone = true ∧ cleanV σ.d ks (some N) (ptV σ N zs.length) = true then GoK P ks l (((σ.d, N * 64), ⟨.box, zs.length, [zs.map .v]⟩) :: L) k (put σ (some N) (ptV σ N zs.length)) Q else False
    | _, _ => False := by
  apply propext
  show (∃ v m, OpE P σ L (SOp.oper ⟨d, .alloc e, ty, none⟩) v m ∧ freshR (L ++ σ.l) m = true ∧ cleanV σ.d ks d v = true ∧ GoK P ks l (m ++ L) k (put σ d v) Q) ↔ _
  constructor
  · rintro ⟨v, m, h1, h2, hc, h3⟩
    unfold OpE at h1
    simp only [SOp.oper] at h1
    split at h1
    · rename_i N zs hz
      obtain ⟨rfl, rfl⟩ := h1
      simp only [freshR, Bool.and_true] at h2
      try simp only [hz]
      rw [if_pos ⟨h2, hc⟩]; exact h3
    · exact h1.elim
  · intro h
    split at h
    · rename_i N zs hz
      split at h
      · rename_i hf
        refine ⟨ptV σ N zs.length, [((σ.d, N * 64), ⟨.box, zs.length, [zs.map .v]⟩)], ?_, ?_, hf.2, h⟩
        · unfold OpE
          simp [SOp.oper, hz]
        · simp only [freshR, Bool.and_true]; exact hf.1
      · exact h.elim
    · exact h.elim
theorem gK_lit0 {d : Option Tmp} {ty : TypeId} {t : Nat} : GoK P ks (⟨d, .buildSlice t 0 #[], ty, none⟩ :: l) L k σ Q = match d, lit0 P t with
    | some N, some sz => if (getA (L ++ σ.l) (σ.d, N * 64)).isNone = true ∧ cleanV σ.d ks (some N) (slV σ N sz 0) = true then GoK P ks l (((σ.d, N * 64), ⟨.sl, sz, []⟩) :: L) k (put σ (some N) (slV σ N sz 0)) Q else False
    | _, _ => False := by
  apply propext
  show (∃ v m, OpE P σ L (SOp.oper ⟨d, .buildSlice t 0 #[], ty, none⟩) v m ∧ freshR (L ++ σ.l) m = true ∧ cleanV σ.d ks d v = true ∧ GoK P ks l (m ++ L) k (put σ d v) Q) ↔ _
  constructor
  · rintro ⟨v, m, h1, h2, hc, h3⟩
    unfold OpE at h1
    simp only [SOp.oper] at h1
    split at h1
    · rename_i N sz hz
      obtain ⟨_, rfl, rfl⟩ := h1
      simp only [freshR, Bool.and_true] at h2
      try simp only [hz]
      rw [if_pos ⟨h2, hc⟩]; exact h3
    · exact h1.elim
  · intro h
    split at h
    · rename_i N sz hz
      split at h
      · rename_i hf
        refine ⟨slV σ N sz 0, [((σ.d, N * 64), ⟨.sl, sz, []⟩)], ?_, ?_, hf.2, h⟩
        · unfold OpE
          simp [SOp.oper, hz]
        · simp only [freshR, Bool.and_true]; exact hf.1
      · exact h.elim
    · exact h.elim
theorem gK_box {d : Option Tmp} {ty : TypeId} {gg : Option (Tmp × Bool)} {e : TypeId} {x : Operand} : GoK P ks (⟨d, .box e x, ty, gg⟩ :: l) L k σ Q = GoL P (⟨d, .box e x, ty, gg⟩ :: l) k ⟨σ.t, σ.d, L ++ σ.l, σ.g⟩ Q := GoK_eff rfl rfl
theorem gK_makeSlice {d : Option Tmp} {ty : TypeId} {gg : Option (Tmp × Bool)} {t : TypeId} {x y : Operand} : GoK P ks (⟨d, .makeSlice t x y, ty, gg⟩ :: l) L k σ Q = GoL P (⟨d, .makeSlice t x y, ty, gg⟩ :: l) k ⟨σ.t, σ.d, L ++ σ.l, σ.g⟩ Q := GoK_eff rfl rfl
theorem gK_store {d : Option Tmp} {ty : TypeId} {gg : Option (Tmp × Bool)} {t : TypeId} {x y : Operand} : GoK P ks (⟨d, .store t x y, ty, gg⟩ :: l) L k σ Q = GoL P (⟨d, .store t x y, ty, gg⟩ :: l) k ⟨σ.t, σ.d, L ++ σ.l, σ.g⟩ Q := GoK_eff rfl rfl
theorem gK_move {d : Option Tmp} {ty : TypeId} {gg : Option (Tmp × Bool)} {x : Operand} : GoK P ks (⟨d, .move x, ty, gg⟩ :: l) L k σ Q = GoNK P ks (opG P σ ⟨d, .move x, ty, gg⟩) d l L k σ Q := GoK_eq rfl nc_move rfl rfl
theorem gK_assign {d : Option Tmp} {ty : TypeId} {gg : Option (Tmp × Bool)} {x : Operand} : GoK P ks (⟨d, .assign x, ty, gg⟩ :: l) L k σ Q = GoNK P ks (opG P σ ⟨d, .assign x, ty, gg⟩) d l L k σ Q := GoK_eq rfl nc_assign rfl rfl
theorem gK_pick {d : Option Tmp} {ty : TypeId} {gg : Option (Tmp × Bool)} {c x y : Operand} : GoK P ks (⟨d, .pick c x y, ty, gg⟩ :: l) L k σ Q = GoNK P ks (opG P σ ⟨d, .pick c x y, ty, gg⟩) d l L k σ Q := GoK_eq rfl nc_pick rfl rfl
theorem gK_nilCheck {d : Option Tmp} {ty : TypeId} {gg : Option (Tmp × Bool)} {x : Operand} : GoK P ks (⟨d, .nilCheck x, ty, gg⟩ :: l) L k σ Q = GoNK P ks (opG P σ ⟨d, .nilCheck x, ty, gg⟩) d l L k σ Q := GoK_eq rfl nc_nilCheck rfl rfl
theorem gK_binOp {d : Option Tmp} {ty : TypeId} {gg : Option (Tmp × Bool)} {o : BinOp} {t u : TypeId} {x y : Operand} : GoK P ks (⟨d, .binOp o t x y u, ty, gg⟩ :: l) L k σ Q = GoNK P ks (opG P σ ⟨d, .binOp o t x y u, ty, gg⟩) d l L k σ Q := GoK_eq rfl nc_binOp rfl rfl
theorem gK_unOp {d : Option Tmp} {ty : TypeId} {gg : Option (Tmp × Bool)} {o : UnOp} {t : TypeId} {x : Operand} : GoK P ks (⟨d, .unOp o t x, ty, gg⟩ :: l) L k σ Q = GoNK P ks (opG P σ ⟨d, .unOp o t x, ty, gg⟩) d l L k σ Q := GoK_eq rfl nc_unOp rfl rfl
theorem gK_convert {d : Option Tmp} {ty : TypeId} {gg : Option (Tmp × Bool)} {t u : TypeId} {x : Operand} : GoK P ks (⟨d, .convert t u x, ty, gg⟩ :: l) L k σ Q = GoNK P ks (opG P σ ⟨d, .convert t u x, ty, gg⟩) d l L k σ Q := GoK_eq rfl nc_convert rfl rfl
theorem gK_field {d : Option Tmp} {ty : TypeId} {gg : Option (Tmp × Bool)} {t : TypeId} {x : Operand} {f : Nat} : GoK P ks (⟨d, .field t x f, ty, gg⟩ :: l) L k σ Q = GoNK P ks (opG P σ ⟨d, .field t x f, ty, gg⟩) d l L k σ Q := GoK_eq rfl nc_field rfl rfl
theorem gK_extract {d : Option Tmp} {ty : TypeId} {gg : Option (Tmp × Bool)} {x : Operand} {i : Nat} : GoK P ks (⟨d, .extract x i, ty, gg⟩ :: l) L k σ Q = GoNK P ks (opG P σ ⟨d, .extract x i, ty, gg⟩) d l L k σ Q := GoK_eq rfl nc_extract rfl rfl
theorem gK_index {d : Option Tmp} {ty : TypeId} {gg : Option (Tmp × Bool)} {t : TypeId} {x i : Operand} : GoK P ks (⟨d, .index t x i, ty, gg⟩ :: l) L k σ Q = GoNK P ks (opG P σ ⟨d, .index t x i, ty, gg⟩) d l L k σ Q := GoK_eq rfl nc_index rfl rfl
theorem gK_fieldAddr {d : Option Tmp} {ty : TypeId} {gg : Option (Tmp × Bool)} {t : TypeId} {x : Operand} {f : Nat} : GoK P ks (⟨d, .fieldAddr t x f, ty, gg⟩ :: l) L k σ Q = GoNK P ks (opG P σ ⟨d, .fieldAddr t x f, ty, gg⟩) d l L k σ Q := GoK_eq rfl nc_fieldAddr rfl rfl
theorem gK_indexAddr {d : Option Tmp} {ty : TypeId} {gg : Option (Tmp × Bool)} {t : TypeId} {x i : Operand} : GoK P ks (⟨d, .indexAddr t x i, ty, gg⟩ :: l) L k σ Q = GoNK P ks (opG P σ ⟨d, .indexAddr t x i, ty, gg⟩) d l L k σ Q := GoK_eq rfl nc_indexAddr rfl rfl
theorem gK_slice {d : Option Tmp} {ty : TypeId} {gg : Option (Tmp × Bool)} {t : TypeId} {x : Operand} {lo hi mx : Option Operand} : GoK P ks (⟨d, .slice t x lo hi mx, ty, gg⟩ :: l) L k σ Q = GoNK P ks (opG P σ ⟨d, .slice t x lo hi mx, ty, gg⟩) d l L k σ Q := GoK_eq rfl nc_slice rfl rfl
theorem gK_load {d : Option Tmp} {ty : TypeId} {gg : Option (Tmp × Bool)} {t : TypeId} {x : Operand} : GoK P ks (⟨d, .load t x, ty, gg⟩ :: l) L k σ Q = GoNK P ks (opG P σ ⟨d, .load t x, ty, gg⟩) d l L k σ Q := GoK_eq rfl nc_load rfl rfl
theorem gK_build {d : Option Tmp} {ty : TypeId} {gg : Option (Tmp × Bool)} {t : TypeId} {ps : Array (Nat × Operand)} : GoK P ks (⟨d, .build t ps, ty, gg⟩ :: l) L k σ Q = GoNK P ks (opG P σ ⟨d, .build t ps, ty, gg⟩) d l L k σ Q := GoK_eq rfl nc_build rfl rfl
theorem gK_lits {d : Option Tmp} {ty : TypeId} {t n : Nat} {ps : Array (Nat × Operand)} (hn : n ≠ 0) : GoK P ks (⟨d, .buildSlice t n ps, ty, none⟩ :: l) L k σ Q =
    match d, litR P t n (ps.toList.map fun p => (p.1, ev σ p.2)) with
    | some N, some p => if (getA (L ++ σ.l) (σ.d, N * 64)).isNone = true ∧ cleanV σ.d ks (some N) (slV σ N p.1 n) = true then GoK P ks l (((σ.d, N * 64), ⟨.sl, p.1, p.2⟩) :: L) k (put σ (some N) (slV σ N p.1 n)) Q else False
    | _, _ => GoNK P ks (buildW P t n (ps.toList.map fun p => (p.1, ev σ p.2))) d l L k σ Q := by
  obtain ⟨n, rfl⟩ : ∃ m, n = m + 1 := ⟨n - 1, by omega⟩
  apply propext
  show (∃ v m, OpE P σ L (SOp.oper ⟨d, .buildSlice t (n + 1) ps, ty, none⟩) v m ∧ freshR (L ++ σ.l) m = true ∧ cleanV σ.d ks d v = true ∧ GoK P ks l (m ++ L) k (put σ d v) Q) ↔ _
  constructor
  · rintro ⟨v, m, h1, h2, hc, h3⟩
    unfold OpE at h1
    simp only [SOp.oper] at h1
    split at h1
    · rename_i N p hz
      obtain ⟨rfl, rfl⟩ := h1
      simp only [freshR, Bool.and_true] at h2
      try simp only [hz]
      rw [if_pos ⟨h2, hc⟩]; exact h3
    · rename_i hz
      obtain ⟨h4, rfl⟩ := h1
      have h5 : buildW P t (n + 1) (ps.toList.map fun p => (p.1, ev σ p.2)) = some v := h4
      first
        | (rw [h5]; exact ⟨hc, h3⟩)
        | (split <;> first | (rename_i N p hp; exact absurd hp (fun h => hz N p rfl h)) | (rw [h5]; exact ⟨hc, h3⟩))
  · intro h
    split at h
    · rename_i N p hz
      split at h
      · rename_i hf
        refine ⟨slV σ N p.1 (n + 1), [((σ.d, N * 64), ⟨.sl, p.1, p.2⟩)], ?_, ?_, hf.2, h⟩
        · unfold OpE
          simp [SOp.oper, hz]
        · simp only [freshR, Bool.and_true]; exact hf.1
      · exact h.elim
    · rename_i hz
      unfold GoNK at h
      split at h
      · rename_i v hv
        refine ⟨v, [], ?_, rfl, h.1, h.2⟩
        unfold OpE
        simp only [SOp.oper]
        exact ⟨hv, trivial⟩
      · exact h.elim
end

theorem put_some (t : List V) (d : Nat) (l g : Store) (n : Tmp) (v : V) : put ⟨t, d, l, g⟩ (some n) v = ⟨t.set n v, d, l, g⟩ := rfl
theorem put_none (t : List V) (d : Nat) (l g : Store) (v : V) : put ⟨t, d, l, g⟩ none v = ⟨t, d, l, g⟩ := rfl
theorem ev_tmp (t : List V) (d : Nat) (l g : Store) (n : Tmp) : ev ⟨t, d, l, g⟩ (.tmp n) = t.getD n (.x (.one .bad)) := rfl
theorem ev_int (σ : St) (k : IntKind) (n : Int) : ev σ (.const (.int k n)) = .x (.one (.v (.int k n))) := rfl
theorem ev_bool (σ : St) (b : Bool) : ev σ (.const (.bool b)) = .x (.one (.v (.bool b))) := rfl
theorem ev_string (σ : St) (b : ByteArray) : ev σ (.const (.string b)) = .x (.one (.v (.string b))) := rfl
theorem ev_slice (σ : St) (a : Option Addr) (n m : Nat) : ev σ (.const (.slice a n m)) = .x (.one (.v (.slice a n m))) := rfl
theorem set0 {α : Type} (a b : α) (l : List α) : (a :: l).set 0 b = b :: l := rfl
theorem setS {α : Type} (a b : α) (l : List α) (n : Nat) : (a :: l).set (n + 1) b = a :: l.set n b := rfl
theorem get0 {α : Type} (a d : α) (l : List α) : (a :: l).getD 0 d = a := rfl
theorem getS {α : Type} (a d : α) (l : List α) (n : Nat) : (a :: l).getD (n + 1) d = l.getD n d := rfl
theorem getN {α : Type} (d : α) (n : Nat) : ([] : List α).getD n d = d := rfl

/-! ### each operation -/
section ops
variable {d : Option Tmp} {ty : TypeId}
theorem sG_none {op : Op} : stepG P σ ⟨d, op, ty, none⟩ = stepO P σ ⟨d, op, ty, "", #[], none⟩ := rfl
theorem sG_some {op : Op} {n : Tmp} {b : Bool} : stepG P σ ⟨d, op, ty, some (n, b)⟩ = match plain (σ.t.getD n (.x (.one .bad))) with
    | some (.bool x) => if x = b then stepO P σ ⟨d, op, ty, "", #[], none⟩ else some (put σ d (.x (.one (.v (.tuple #[])))))
    | some (.tuple _) => some (put σ d (.x (.one (.v (.tuple #[])))))
    | _ => none := by
  unfold stepG gdS SOp.oper
  simp only
  generalize plain (σ.t.getD n (.x (.one .bad))) = q
  cases q with
  | none => rfl
  | some y =>
    cases y with
    | bool x => cases x <;> cases b <;> rfl
    | _ => rfl
theorem oG_none {op : Op} : opG P σ ⟨d, op, ty, none⟩ = opW P σ ⟨d, op, ty, "", #[], none⟩ := rfl
theorem oG_some {op : Op} {n : Tmp} {b : Bool} : opG P σ ⟨d, op, ty, some (n, b)⟩ = match plain (σ.t.getD n (.x (.one .bad))) with
    | some (.bool x) => if x = b then opW P σ ⟨d, op, ty, "", #[], none⟩ else some (.x (.one (.v (.tuple #[]))))
    | some (.tuple _) => some (.x (.one (.v (.tuple #[]))))
    | _ => none := by
  unfold opG gdS SOp.oper
  simp only
  generalize plain (σ.t.getD n (.x (.one .bad))) = q
  cases q with
  | none => rfl
  | some y =>
    cases y with
    | bool x => cases x <;> cases b <;> rfl
    | _ => rfl

variable {p : String} {af : Array Edge} {gu : Option (Nat × Bool)}
theorem s_box {e : TypeId} {x : Operand} : stepO P σ ⟨d, .box e x, ty, p, af, gu⟩ = boxS σ d (ev σ x) := rfl
theorem s_alloc {e : TypeId} : stepO P σ ⟨d, .alloc e, ty, p, af, gu⟩ = allocS P σ d e := rfl
theorem s_make {t : TypeId} {x y : Operand} : stepO P σ ⟨d, .makeSlice t x y, ty, p, af, gu⟩ = makeS P σ d t (ev σ x) (ev σ y) := rfl
theorem s_store {t : TypeId} {x y : Operand} : stepO P σ ⟨d, .store t x y, ty, p, af, gu⟩ = (storeS P σ t (ev σ x) (ev σ y)).map fun σ' => put σ' d (.x (.one .bad)) := rfl
theorem s_move {x : Operand} : stepO P σ ⟨d, .move x, ty, p, af, gu⟩ = some (put σ d (ev σ x)) := rfl
theorem s_assign {x : Operand} : stepO P σ ⟨d, .assign x, ty, p, af, gu⟩ = some (put σ d (ev σ x)) := rfl
theorem s_pick {c x y : Operand} : stepO P σ ⟨d, .pick c x y, ty, p, af, gu⟩ = (opW P σ ⟨d, .pick c x y, ty, p, af, gu⟩).map (put σ d) := rfl
theorem s_nil {x : Operand} : stepO P σ ⟨d, .nilCheck x, ty, p, af, gu⟩ = (nilV (ev σ x)).map (put σ d) := rfl
theorem s_bin {op : BinOp} {t u : TypeId} {x y : Operand} : stepO P σ ⟨d, .binOp op t x y u, ty, p, af, gu⟩ = (binV P op t x y (ev σ x) (ev σ y)).map (put σ d) := rfl
theorem s_un {op : UnOp} {t : TypeId} {x : Operand} : stepO P σ ⟨d, .unOp op t x, ty, p, af, gu⟩ = (un1 P (Op.unary op) (ev σ x)).map (put σ d) := rfl
theorem s_conv {t u : TypeId} {x : Operand} : stepO P σ ⟨d, .convert t u x, ty, p, af, gu⟩ = convS P σ d t u (ev σ x) := rfl
theorem s_field {t : TypeId} {f : Nat} {x : Operand} : stepO P σ ⟨d, .field t x f, ty, p, af, gu⟩ = (fieldV P t f (ev σ x)).map (put σ d) := rfl
theorem s_extract {i : Nat} {x : Operand} : stepO P σ ⟨d, .extract x i, ty, p, af, gu⟩ = (extractV i (ev σ x)).map (put σ d) := rfl
theorem s_index {t : TypeId} {x i : Operand} : stepO P σ ⟨d, .index t x i, ty, p, af, gu⟩ = (un2 P (Instr.index t) (ev σ x) (ev σ i)).map (put σ d) := rfl
theorem s_fieldAddr {t : TypeId} {f : Nat} {x : Operand} : stepO P σ ⟨d, .fieldAddr t x f, ty, p, af, gu⟩ = (fieldAddrV P t f (ev σ x)).map (put σ d) := rfl
theorem s_indexAddr {t : TypeId} {x i : Operand} : stepO P σ ⟨d, .indexAddr t x i, ty, p, af, gu⟩ = (indexAddrV P t (ev σ x) (ev σ i)).map (put σ d) := rfl
theorem s_slice {t : TypeId} {x : Operand} {lo hi : Option Operand} : stepO P σ ⟨d, .slice t x lo hi none, ty, p, af, gu⟩ = (sliceV P t (ev σ x) (lo.map (ev σ)) (hi.map (ev σ))).map (put σ d) := rfl
theorem s_load {t : TypeId} {x : Operand} : stepO P σ ⟨d, .load t x, ty, p, af, gu⟩ = (loadV P σ.o t (ev σ x)).map (put σ d) := rfl
theorem s_len {as : Array Operand} {ats : Array TypeId} : stepO P σ ⟨d, .call { callee := .builtin .len, args := as, argTypes := ats }, ty, p, af, gu⟩ =
    (builtinV P .len ats ty (as.map isC) (as.toList.map (ev σ))).map (put σ d) := rfl
theorem s_min {as : Array Operand} {ats : Array TypeId} : stepO P σ ⟨d, .call { callee := .builtin .min, args := as, argTypes := ats }, ty, p, af, gu⟩ =
    (builtinV P .min ats ty (as.map isC) (as.toList.map (ev σ))).map (put σ d) := rfl
theorem s_max {as : Array Operand} {ats : Array TypeId} : stepO P σ ⟨d, .call { callee := .builtin .max, args := as, argTypes := ats }, ty, p, af, gu⟩ =
    (builtinV P .max ats ty (as.map isC) (as.toList.map (ev σ))).map (put σ d) := rfl
theorem s_append {x y : Operand} {t tx : TypeId} : stepO P σ ⟨d, .call { callee := .builtin .append, args := #[x, y], argTypes := #[t, tx] }, ty, p, af, gu⟩ = appendO P σ d t tx (ev σ x) (ev σ y) := rfl
theorem s_build {t : TypeId} {ps : Array (Nat × Operand)} : stepO P σ ⟨d, .build t ps, ty, p, af, gu⟩ = (buildV P t (ps.toList.map fun q => (q.1, ev σ q.2))).map (put σ d) := rfl
theorem s_buildSlice {t : TypeId} {n : Nat} {ps : Array (Nat × Operand)} : stepO P σ ⟨d, .buildSlice t n ps, ty, p, af, gu⟩ = buildO P σ d t n (ps.toList.map fun q => (q.1, ev σ q.2)) := rfl
theorem appendL_eq {t tx : TypeId} {s x : V} {dd : Option Tmp} : appendL P σ dd t tx s x = match tyElem P t with
    | some e => match tyZero P e with
      | some zs => if zs.any isNilSl = true then orE (appendM P σ dd t tx s x) (appendS P σ dd t tx s x) else appendS P σ dd t tx s x
      | none => appendS P σ dd t tx s x
    | none => appendS P σ dd t tx s x := by
  unfold appendL slEl
  cases h : tyElem P t with
  | none => rfl
  | some e => cases h2 : tyZero P e <;> simp only [h2, Bool.false_eq_true, if_false]
theorem appendO_rs {t tx : TypeId} {x : V} {dd : Option Tmp} {r : Root} {p' : Path} {sz off len : Nat} : appendO P σ dd t tx (.x (.one (.rs r p' sz off len))) x =
    if (getA σ.l r).isNone = true then appendG P σ dd t tx (.x (.one (.rs r p' sz off len))) x else appendL P σ dd t tx (.x (.one (.rs r p' sz off len))) x := rfl
theorem buildO_eq {t : TypeId} {n : Nat} {ps : List (Nat × V)} {dd : Option Tmp} : buildO P σ dd t n ps = match tyElem P t with
    | some e => match tyZero P e with
      | some zs => if zs.any isNilSl = true then orE (buildM P σ dd t n ps) (buildS P σ dd t n ps) else buildS P σ dd t n ps
      | none => buildS P σ dd t n ps
    | none => buildS P σ dd t n ps := by
  unfold buildO slEl
  cases h : tyElem P t with
  | none => rfl
  | some e => cases h2 : tyZero P e <;> simp only [h2, Bool.false_eq_true, if_false]
theorem orE_some {a : St} {b : Option St} : orE (some a) b = some a := rfl
theorem orE_none {b : Option St} : orE none b = b := rfl
theorem o_move {x : Operand} : opW P σ ⟨d, .move x, ty, p, af, gu⟩ = some (ev σ x) := rfl
theorem o_assign {x : Operand} : opW P σ ⟨d, .assign x, ty, p, af, gu⟩ = some (ev σ x) := rfl
theorem o_pick {c x y : Operand} : opW P σ ⟨d, .pick c x y, ty, p, af, gu⟩ = match plain (ev σ c) with
    | some (.bool t) => some (if t then ev σ x else ev σ y)
    | _ => none := rfl
theorem o_nil {x : Operand} : opW P σ ⟨d, .nilCheck x, ty, p, af, gu⟩ = nilV (ev σ x) := rfl
theorem o_bin {op : BinOp} {t u : TypeId} {x y : Operand} : opW P σ ⟨d, .binOp op t x y u, ty, p, af, gu⟩ = binV P op t x y (ev σ x) (ev σ y) := rfl
theorem o_un {op : UnOp} {t : TypeId} {x : Operand} : opW P σ ⟨d, .unOp op t x, ty, p, af, gu⟩ = un1 P (Op.unary op) (ev σ x) := rfl
theorem o_conv {t u : TypeId} {x : Operand} : opW P σ ⟨d, .convert t u x, ty, p, af, gu⟩ = convV P σ.o t u (ev σ x) := rfl
theorem o_field {t : TypeId} {f : Nat} {x : Operand} : opW P σ ⟨d, .field t x f, ty, p, af, gu⟩ = fieldV P t f (ev σ x) := rfl
theorem o_extract {i : Nat} {x : Operand} : opW P σ ⟨d, .extract x i, ty, p, af, gu⟩ = extractV i (ev σ x) := rfl
theorem o_index {t : TypeId} {x i : Operand} : opW P σ ⟨d, .index t x i, ty, p, af, gu⟩ = un2 P (Instr.index t) (ev σ x) (ev σ i) := rfl
theorem o_fieldAddr {t : TypeId} {f : Nat} {x : Operand} : opW P σ ⟨d, .fieldAddr t x f, ty, p, af, gu⟩ = fieldAddrV P t f (ev σ x) := rfl
theorem o_indexAddr {t : TypeId} {x i : Operand} : opW P σ ⟨d, .indexAddr t x i, ty, p, af, gu⟩ = indexAddrV P t (ev σ x) (ev σ i) := rfl
theorem o_slice {t : TypeId} {x : Operand} {lo hi : Option Operand} : opW P σ ⟨d, .slice t x lo hi none, ty, p, af, gu⟩ = sliceV P t (ev σ x) (lo.map (ev σ)) (hi.map (ev σ)) := rfl
theorem o_load {t : TypeId} {x : Operand} : opW P σ ⟨d, .load t x, ty, p, af, gu⟩ = loadV P σ.o t (ev σ x) := rfl
theorem o_build {t : TypeId} {ps : Array (Nat × Operand)} : opW P σ ⟨d, .build t ps, ty, p, af, gu⟩ = buildV P t (ps.toList.map fun q => (q.1, ev σ q.2)) := rfl
theorem o_buildSlice {t : TypeId} {n : Nat} {ps : Array (Nat × Operand)} : opW P σ ⟨d, .buildSlice t n ps, ty, p, af, gu⟩ = buildW P t n (ps.toList.map fun q => (q.1, ev σ q.2)) := rfl
theorem o_built {b : Builtin} {as : Array Operand} {ats : Array TypeId} : opW P σ ⟨d, .call { callee := .builtin b, args := as, argTypes := ats }, ty, p, af, gu⟩ =
    builtinV P b ats ty (as.map isC) (as.toList.map (ev σ)) := rfl
end ops

/-! ### values -/
abbrev one (c : C) : V := .x (.one c)
abbrev int (n : Int) : V := .x (.one (.v (.int .i64 n)))

theorem plain_v (x : Value) : plain (.x (.one (.v x))) = some x := rfl
theorem bin_add {t : TypeId} {x y : Operand} (k : IntKind) (a b : Int) : binV P .add t x y (one (.v (.int k a))) (one (.v (.int k b))) = some (one (.v (.int k (k.wrap (a + b))))) := by
  simp [binV, plain2, plain, pureIn, eqGuard, binOp, Op.intArith, ofVal, bind, pure, Sem.bind]
theorem bin_sub {t : TypeId} {x y : Operand} (k : IntKind) (a b : Int) : binV P .sub t x y (one (.v (.int k a))) (one (.v (.int k b))) = some (one (.v (.int k (k.wrap (a - b))))) := by
  simp [binV, plain2, plain, pureIn, eqGuard, binOp, Op.intArith, ofVal, bind, pure, Sem.bind]
theorem bin_mul {t : TypeId} {x y : Operand} (k : IntKind) (a b : Int) : binV P .mul t x y (one (.v (.int k a))) (one (.v (.int k b))) = some (one (.v (.int k (k.wrap (a * b))))) := by
  simp [binV, plain2, plain, pureIn, eqGuard, binOp, Op.intArith, ofVal, bind, pure, Sem.bind]
theorem bin_lss {t : TypeId} {x y : Operand} (k : IntKind) (a b : Int) : binV P .lss t x y (one (.v (.int k a))) (one (.v (.int k b))) = some (one (.v (.bool (decide (a < b))))) := by
  simp [binV, plain2, plain, pureIn, eqGuard, binOp, Op.intCmp, ofVal, bind, pure, Sem.bind]
theorem bin_leq {t : TypeId} {x y : Operand} (k : IntKind) (a b : Int) : binV P .leq t x y (one (.v (.int k a))) (one (.v (.int k b))) = some (one (.v (.bool (decide (a ≤ b))))) := by
  simp [binV, plain2, plain, pureIn, eqGuard, binOp, Op.intCmp, ofVal, bind, pure, Sem.bind]
theorem bin_gtr {t : TypeId} {x y : Operand} (k : IntKind) (a b : Int) : binV P .gtr t x y (one (.v (.int k a))) (one (.v (.int k b))) = some (one (.v (.bool (decide (b < a))))) := by
  simp [binV, plain2, plain, pureIn, eqGuard, binOp, Op.intCmp, ofVal, bind, pure, Sem.bind]
theorem bin_geq {t : TypeId} {x y : Operand} (k : IntKind) (a b : Int) : binV P .geq t x y (one (.v (.int k a))) (one (.v (.int k b))) = some (one (.v (.bool (decide (b ≤ a))))) := by
  simp [binV, plain2, plain, pureIn, eqGuard, binOp, Op.intCmp, ofVal, bind, pure, Sem.bind]
theorem bin_eql {t : TypeId} {x y : Operand} (k : IntKind) (a b : Int) : binV P .eql t x y (one (.v (.int k a))) (one (.v (.int k b))) = some (one (.v (.bool (decide (a = b))))) := by
  simp [binV, plain2, plain, pureIn, eqGuard, binOp, Op.intCmp, ofVal, bind, pure, Sem.bind]; rfl
theorem bin_neq {t : TypeId} {x y : Operand} (k : IntKind) (a b : Int) : binV P .neq t x y (one (.v (.int k a))) (one (.v (.int k b))) = some (one (.v (.bool (decide (a ≠ b))))) := by
  simp [binV, plain2, plain, pureIn, eqGuard, binOp, Op.intCmp, ofVal, bind, pure, Sem.bind]; rfl
theorem un_not (b : Bool) : un1 P (Op.unary .not) (one (.v (.bool b))) = some (one (.v (.bool !b))) := by
  simp [un1, plain, pureIn, Op.unary, ofVal, pure]

end
end Go.Rx

/- Forgetting. -/
namespace Go.Rx
open Go.RowKit

theorem Weak.same {t t' : List V} {d : Nat} {l g : Store} (h : T2 t t') : Weak ⟨t, d, l, g⟩ ⟨t', d, l, g⟩ := fun _ _ gh _ _ hr => ⟨gh, Rel.same h hr⟩

theorem T2_nil : T2 [] [] = True := rfl
theorem T2_same {a : V} {t t' : List V} : T2 (a :: t) (a :: t') = T2 t t' := by simp [T2]
theorem T2_bad {a : V} {t t' : List V} : T2 (a :: t) (.x (.one .bad) :: t') = T2 t t' := by simp [T2]

/-! ### rows -/
theorem getD_map {α : Type} [Inhabited α] (f : α → List C) (xs : List α) (i : Nat) (h : i < xs.length) : (xs.map f).getD i [] = f (xs.getD i default) := by
  simp [List.getD_eq_getElem?_getD, h]

theorem enterSt_eq (fn : Func) (args : List X) : enterSt fn args = ⟨args.map .x ++ List.replicate (fn.ntmps - args.length) (.x (.one .bad)), 0, [], []⟩ := rfl
theorem o_eq (t : List V) (d : Nat) (l g : Store) : St.o ⟨t, d, l, g⟩ = l ++ g := rfl

section
variable {P : Program} {t ty : TypeId} {cs : Array Bool}
theorem bl_sh (sz : Nat) (R : List (List C)) : builtinV P .len #[t] ty cs [one (.sh sz R)] = (tyElem P t).map fun _ => int R.length := by
  simp only [builtinV, plains, plain, lenA]
  simp only [List.size_toArray, List.length_cons, List.length_nil, Nat.zero_add, Nat.zero_lt_one, getElem?_pos, List.getElem_toArray, List.getElem_cons_zero, Option.bind_some]
  cases tyElem P t <;> rfl
theorem bl_rs (r : Root) (p : Path) (sz off len : Nat) : builtinV P .len #[t] ty cs [one (.rs r p sz off len)] = (tyElem P t).map fun _ => int len := by
  simp only [builtinV, plains, plain, lenA]
  simp only [List.size_toArray, List.length_cons, List.length_nil, Nat.zero_add, Nat.zero_lt_one, getElem?_pos, List.getElem_toArray, List.getElem_cons_zero, Option.bind_some]
  cases tyElem P t <;> rfl
def builtinV' := @builtinV
theorem bl_str (s : ByteArray) : builtinV P .len #[t] ty cs [one (.v (.string s))] = match P.underlying t with
    | some .string => some (int s.size)
    | _ => builtinV' P .len #[t] ty cs [one (.v (.string s))] := by
  split
  · rename_i h
    simp [builtinV, plains, plain, builtin, Builtin.len_, underlying, program, h, pureIn, goInt, ofVal, bind, pure, Sem.bind]
  · rfl
theorem bl_nil : builtinV P .len #[t] ty cs [one (.v (.slice none 0 0))] = match tyElem P t with
    | some _ => some (int 0)
    | _ => builtinV' P .len #[t] ty cs [one (.v (.slice none 0 0))] := by
  split
  · rename_i e h
    have h' := tyElem_spec h
    simp [builtinV, plains, plain, builtin, Builtin.len_, underlying, program, h', pureIn, goInt, ofVal, bind, pure, Sem.bind]
  · rfl
theorem bl_max (ats : Array TypeId) (a b : Int) : builtinV P .max ats ty cs [int a, int b] = some (int (if a < b then b else a)) := by
  simp [builtinV, plains, plain, builtin, Builtin.max_, Builtin.max2, pureIn, ofVal, bind, pure, Sem.bind]
theorem bl_min (ats : Array TypeId) (a b : Int) : builtinV P .min ats ty cs [int a, int b] = some (int (if b < a then b else a)) := by
  simp [builtinV, plains, plain, builtin, Builtin.min_, Builtin.min2, pureIn, ofVal, bind, pure, Sem.bind]
end

section
variable {P : Program} {k : List Fr} {σ : St} {Q : Ex → St → Prop} {l : List SOp} {L : Store} {d : Option Tmp} {ty : TypeId} {gg : Option (Tmp × Bool)} {as : Array Operand} {ats : Array TypeId}
theorem gD_len : GoD P (⟨d, .call { callee := .builtin .len, args := as, argTypes := ats }, ty, gg⟩ :: l) L k σ Q = GoN P (opG P σ ⟨d, .call { callee := .builtin .len, args := as, argTypes := ats }, ty, gg⟩) d l L k σ Q := gD_built rfl
theorem gD_min : GoD P (⟨d, .call { callee := .builtin .min, args := as, argTypes := ats }, ty, gg⟩ :: l) L k σ Q = GoN P (opG P σ ⟨d, .call { callee := .builtin .min, args := as, argTypes := ats }, ty, gg⟩) d l L k σ Q := gD_built rfl
theorem gD_max : GoD P (⟨d, .call { callee := .builtin .max, args := as, argTypes := ats }, ty, gg⟩ :: l) L k σ Q = GoN P (opG P σ ⟨d, .call { callee := .builtin .max, args := as, argTypes := ats }, ty, gg⟩) d l L k σ Q := gD_built rfl
theorem gK_len {ks : List Tmp} : GoK P ks (⟨d, .call { callee := .builtin .len, args := as, argTypes := ats }, ty, gg⟩ :: l) L k σ Q = GoNK P ks (opG P σ ⟨d, .call { callee := .builtin .len, args := as, argTypes := ats }, ty, gg⟩) d l L k σ Q := GoK_eq rfl rfl rfl rfl
theorem gD_append : GoD P (⟨d, .call { callee := .builtin .append, args := as, argTypes := ats }, ty, gg⟩ :: l) L k σ Q = GoL P (⟨d, .call { callee := .builtin .append, args := as, argTypes := ats }, ty, gg⟩ :: l) k ⟨σ.t, σ.d, L ++ σ.l, σ.g⟩ Q := GoD_eff rfl
end
attribute [push_cast] bl_sh bl_rs bl_str bl_nil bl_max bl_min
attribute [push_cast] appendL_eq appendO_rs buildO_eq orE_some orE_none isNilSl
attribute [push_cast] slim slimL slimO slimG enterSt_eq o_eq
attribute [push_cast] gK_len gK_box gK_makeSlice gK_store gK_move gK_assign gK_pick gK_nilCheck gK_binOp gK_unOp gK_convert gK_field gK_extract gK_index gK_fieldAddr gK_indexAddr gK_slice gK_load gK_build gK_lits gK_alloc gK_lit0 GoX_nil GoX_cons GoNK_some GoK_nil cleanV_nil cleanV_cons none_ne_some ksOf_eq ksF appTs_nil appTs_cons madeS mkOp offT offL
attribute [push_cast] Go_seq Go_reg Go_draw Go_block Go_exit Go_ret Go_skip Go_test GoC_true GoC_false gL_box gL_alloc gL_makeSlice gL_store gL_move gL_assign gL_pick gL_nilCheck gL_binOp gL_unOp gL_convert gL_field gL_extract gL_index gL_fieldAddr gL_indexAddr gL_slice gL_load gL_build gL_buildSlice gL_built gD_box gD_alloc gD_makeSlice gD_store gD_move gD_assign gD_pick gD_nilCheck gD_binOp gD_unOp gD_convert gD_field gD_extract gD_index gD_fieldAddr gD_indexAddr gD_slice gD_load gD_build gD_lit0 lit0 gD_lits litR gD_len gD_min gD_max gD_append sG_none sG_some oG_none oG_some s_move s_assign s_pick s_nil s_bin s_un s_conv s_field s_extract s_index s_fieldAddr s_indexAddr s_slice s_load s_len s_min s_max s_append s_buildSlice s_build s_box s_alloc s_make s_store o_move o_assign o_pick o_nil o_bin o_un o_conv o_field o_extract o_index o_fieldAddr o_indexAddr o_slice o_load o_build o_buildSlice o_built put_some put_none ev_tmp ev_int ev_bool ev_string ev_slice set0 setS get0 getS getN plain_v bin_add bin_sub bin_mul bin_lss bin_leq bin_gtr bin_geq bin_eql bin_neq un_not GoM_some GoN_some GoL_nil GoD_nil Re_nil Re_sq_normal Re_sq_exit Re_sq_ret Re_bl_normal Re_bl_ret Re_bl_exit Re_lp_normal Re_lp_exit Re_lp_ret
attribute [push_cast] Option.map_some Option.bind_some Bool.false_and Bool.true_and Bool.and_true Bool.and_false Bool.not_true Bool.not_false Bool.false_eq_true Bool.true_eq_false List.map_cons List.map_nil List.length_cons List.length_nil
  List.replicate_succ List.replicate_zero List.cons_append List.nil_append List.append_nil List.getElem?_toArray List.getElem?_cons_succ List.getElem?_cons_zero List.drop_succ_cons List.drop_zero List.take_succ_cons List.take_zero List.drop_nil List.take_nil
attribute [push_cast] Kind.isBox blank adoptL storeM setCell buildW allV nilV fieldV extractV fieldAddrV indexAddrV loadV partX delocs deloc boxS allocS storeS cellsX cellOk scalar fresh newSt ptV slV getA setA updAt rowsAt setRows
  T2_nil T2_same T2_bad resXs resV expXs expX expR expC apartAll locC cellsOf retRow Option.some.injEq exists_eq_left'
end Go.Rx
