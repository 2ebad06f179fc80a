/- The weakest precondition over slim code, in a form that simp can run. -/
import Derived.Test.YtbnabpmfdnfigaaRxQ
namespace Go.Rx
open Go.RowKit

/-- An operation without its place and its edges; the guard by its temporary. -/
structure SOp where
  dst : Option Tmp
  op : Op
  type : TypeId
  gd : Option (Tmp × Bool)

inductive SC where
  | skip
  | reg (draw : Bool) (ops : List SOp)
  | seq (a b : SC)
  | cond (c : Operand) (a b : SC)
  | block (id : Nat) (c : SC)
  | loop (c : SC)
  | exit (id : Nat)
  | ret
  | no

def slimG (ops : Array Oper) (o : Oper) : Option (Option (Tmp × Bool)) :=
  match o.guard with
  | none => some none
  | some (j, b) => ((ops[j]?).bind (·.dst)).map fun d => some (d, b)
def slimO (ops : Array Oper) (o : Oper) : Option SOp := (slimG ops o).map fun g => ⟨o.dst, o.op, o.type, g⟩
def slimL (ops : Array Oper) : List Oper → Option (List SOp)
  | [] => some []
  | o :: l => match slimO ops o, slimL ops l with
    | some s, some ss => some (s :: ss)
    | _, _ => none
def slim : Code → SC
  | .skip => .skip
  | .region _ ops d => match slimL ops ops.toList with
    | some l => .reg d l
    | none => .no
  | .seq a b => .seq (slim a) (slim b)
  | .cond c a b => .cond c (slim a) (slim b)
  | .block id c => .block id (slim c)
  | .loop c => .loop (slim c)
  | .exit id => .exit id
  | .ret => .ret
  | _ => .no

/-- Every region whose order is open is one that Rx takes. -/
def drawsOk : Code → Bool
  | .region _ ops d => !d || drawOk ops
  | .seq a b => drawsOk a && drawsOk b
  | .cond _ a b => drawsOk a && drawsOk b
  | .block _ c => drawsOk c
  | .loop c => drawsOk c
  | _ => true

def SOp.oper (s : SOp) : Oper := { dst := s.dst, op := s.op, type := s.type, pos := "", after := #[], guard := none }

def gdS (t : List V) (s : SOp) : Option Bool :=
  match s.gd with
  | none => some true
  | some (d, b) => match plain (t.getD d (.x (.one .bad))) with
    | some (.bool x) => some (x == b)
    | _ => none

inductive Fr where
  | sq (c : SC)
  | bl (id : Nat)
  | lp (X : St → Prop)

/-- The operations that are shown in the model itself. -/
def semOp : Op → Bool
  | .call { callee := .value (.func _), args := _, argTypes := _ } => true
  | .makeMap _ _ => true
  | .lookup _ _ _ _ => true
  | .mapUpdate _ _ _ _ => true
  | _ => false

/-- The rest of a list of operations, then the code behind. -/
def stepL (P : Program) : List SOp → St → (St → Prop) → Prop
  | [], σ, K => K σ
  | s :: l, σ, K => match gdS σ.t s with
    | some true => wop P s.oper σ fun σ' => stepL P l σ' K
    | some false => stepL P l (put σ s.dst (.x (.one .bad))) K
    | none => False

def drawL (P : Program) : List SOp → St → Store → (St → Prop) → Prop
  | [], σ, L, K => K { σ with l := L ++ σ.l }
  | s :: l, σ, L, K => match gdS σ.t s with
    | some true => ∃ v m, OpE P σ s.oper v m ∧ freshR (L ++ σ.l) m = true ∧ drawL P l (put σ s.dst v) (m ++ L) K
    | some false => drawL P l (put σ s.dst (.x (.one .bad))) L K
    | none => False

def WS (P : Program) : SC → St → (Ex → St → Prop) → Prop
  | .skip, σ, Q => Q .normal σ
  | .reg false ops, σ, Q => stepL P ops σ (Q .normal)
  | .reg true ops, σ, Q => drawL P ops σ [] (Q .normal)
  | .seq x y, σ, Q => WS P x σ fun e σ' => match e with | .normal => WS P y σ' Q | e => Q e σ'
  | .cond c x y, σ, Q => ∃ t, plain (ev σ c) = some (.bool t) ∧ (t = true → WS P x σ Q) ∧ (t = false → WS P y σ Q)
  | .block id c, σ, Q => WS P c σ fun e σ' => match e with | .exit id' => if id' = id then Q .normal σ' else Q (.exit id') σ' | e => Q e σ'
  | .loop c, σ, Q => ∀ X : St → Prop, (∀ s, WS P c s (fun e s' => match e with | .normal => ∃ s'', Weak s' s'' ∧ X s'' | e => Q e s') → X s) → ∃ s0, Weak σ s0 ∧ X s0
  | .exit id, σ, Q => Q (.exit id) σ
  | .ret, σ, Q => Q .ret σ
  | .no, _, _ => False

section
variable {P : Program}

theorem slimO_spec {ops : Array Oper} {o : Oper} {s : SOp} (h : slimO ops o = some s) : s.dst = o.dst ∧ s.op = o.op ∧ s.type = o.type ∧ ∀ σ : St, gdS σ.t s = gd σ ops o := by
  unfold slimO slimG at h
  cases hg : o.guard with
  | none =>
    simp only [hg, Option.map_some, Option.some.injEq] at h
    subst h
    exact ⟨rfl, rfl, rfl, fun σ => by simp [gdS, gd, hg]⟩
  | some p =>
    obtain ⟨j, b⟩ := p
    simp only [hg, Option.map_map, Option.map_eq_some_iff, Function.comp_apply] at h
    obtain ⟨d, hd, rfl⟩ := h
    refine ⟨rfl, rfl, rfl, fun σ => ?_⟩
    unfold gdS gd
    rw [hg]
    simp only [hd]
    rfl

theorem wop_congr {o o' : Oper} (h1 : o'.dst = o.dst) (h2 : o'.op = o.op) (h3 : o'.type = o.type) (σ : St) (K : St → Prop) : wop P o' σ K = wop P o σ K := by
  obtain ⟨d, op, t, p, a, g⟩ := o
  obtain ⟨d', op', t', p', a', g'⟩ := o'
  simp only at h1 h2 h3
  subst h1 h2 h3
  unfold wop stepO opV callW SemStep Oper.wp Oper.upon execOp
  rfl

theorem OpE_congr {o o' : Oper} (h1 : o'.dst = o.dst) (h2 : o'.op = o.op) (h3 : o'.type = o.type) (σ : St) (v : V) (l : Store) : OpE P σ o' v l = OpE P σ o v l := by
  obtain ⟨d, op, t, p, a, g⟩ := o
  obtain ⟨d', op', t', p', a', g'⟩ := o'
  simp only at h1 h2 h3
  subst h1 h2 h3
  unfold OpE opV
  rfl

theorem wop_mono {o : Oper} {σ : St} {K K' : St → Prop} (hk : ∀ σ, K σ → K' σ) (h : wop P o σ K) : wop P o σ K' := by
  have sem : SemStep P o σ K → SemStep P o σ K' := fun h g0 w0 g a w N Q hr hn => h g0 w0 g a w N Q hr fun σ' g' a' w' h' => hn σ' g' a' w' (hk σ' h')
  unfold wop at *
  split at h
  · rcases h with h | h
    · refine .inl ?_
      unfold callW at *
      split at h
      · obtain ⟨xs, ret, h1, h2, h3, h4, h5⟩ := h
        exact ⟨xs, ret, h1, h2, h3, h4, hk _ h5⟩
      · exact h.elim
    · exact .inr (sem h)
  · exact sem h
  · exact sem h
  · exact sem h
  · obtain ⟨σ', h1, h2⟩ := h
    exact ⟨σ', h1, hk _ h2⟩

theorem stepL_sound {ops : Array Oper} : ∀ (l : List Oper) (ss : List SOp) (σ : St) (K : St → Prop), slimL ops l = some ss → stepL P ss σ K → Wlist wop P ops l σ K
  | [], ss, σ, K, h, hs => by
    simp only [slimL, Option.some.injEq] at h
    subst h
    exact hs
  | o :: l, ss, σ, K, h, hs => by
    simp only [slimL] at h
    split at h
    · rename_i s ss' h1 h2
      cases h
      obtain ⟨e1, e2, e3, e4⟩ := slimO_spec h1
      unfold Wlist
      simp only [stepL, e4] at hs
      split at hs
      · rename_i hg
        simp only [hg]
        rw [wop_congr (o := o) e1 e2 e3] at hs
        exact wop_mono (fun σ' h' => stepL_sound l ss' σ' K h2 h') hs
      · rename_i hg
        simp only [hg]
        rw [e1] at hs
        exact stepL_sound l ss' _ K h2 hs
      · exact hs.elim
    · cases h

theorem drawL_sound {ops : Array Oper} : ∀ (l : List Oper) (ss : List SOp) (σ : St) (L : Store) (K : St → Prop), slimL ops l = some ss → drawL P ss σ L K → DRun P ops l σ L K
  | [], ss, σ, L, K, h, hs => by
    simp only [slimL, Option.some.injEq] at h
    subst h
    exact hs
  | o :: l, ss, σ, L, K, h, hs => by
    simp only [slimL] at h
    split at h
    · rename_i s ss' h1 h2
      cases h
      obtain ⟨e1, e2, e3, e4⟩ := slimO_spec h1
      unfold DRun
      simp only [drawL, e4] at hs
      split at hs
      · rename_i hg
        simp only [hg]
        obtain ⟨v, m, k1, k2, k3⟩ := hs
        rw [OpE_congr (o := o) e1 e2 e3] at k1
        rw [e1] at k3
        exact ⟨v, m, k1, k2, drawL_sound l ss' _ _ K h2 k3⟩
      · rename_i hg
        simp only [hg]
        rw [e1] at hs
        exact drawL_sound l ss' _ _ K h2 hs
      · exact hs.elim
    · cases h

theorem W_mono {wo : OpW} {wd : DrawW} (hwo : ∀ o σ K K', (∀ σ, K σ → K' σ) → wo P o σ K → wo P o σ K') (hwd : ∀ ops σ K K', (∀ σ, K σ → K' σ) → wd P ops σ K → wd P ops σ K') (c : Code) :
    ∀ (σ : St) (Q Q' : Ex → St → Prop), (∀ e σ, Q e σ → Q' e σ) → W wo wd P c σ Q → W wo wd P c σ Q' := by
  have hl : ∀ (ops : Array Oper) (l : List Oper) (σ : St) (K K' : St → Prop), (∀ σ, K σ → K' σ) → Wlist wo P ops l σ K → Wlist wo P ops l σ K' := by
    intro ops l
    induction l with
    | nil => intro σ K K' hk h; exact hk σ h
    | cons o l ih =>
      intro σ K K' hk h
      unfold Wlist at h ⊢
      split at h
      · exact hwo _ _ _ _ (fun σ' h' => ih σ' K K' hk h') h
      · exact ih _ K K' hk h
      · exact h
  induction c with
  | skip => intro σ Q Q' hq h; exact hq _ _ h
  | region id ops d =>
    intro σ Q Q' hq h
    cases d with
    | false => exact hl ops _ σ _ _ (hq .normal) h
    | true => exact hwd _ _ _ _ (hq .normal) h
  | seq x y ihx ihy =>
    intro σ Q Q' hq h
    refine ihx σ _ _ (fun e σ' h' => ?_) h
    cases e with
    | normal => exact ihy σ' Q Q' hq h'
    | _ => exact hq _ _ h'
  | cond c x y ihx ihy =>
    intro σ Q Q' hq h
    obtain ⟨t, h1, h2, h3⟩ := h
    exact ⟨t, h1, fun e => ihx σ Q Q' hq (h2 e), fun e => ihy σ Q Q' hq (h3 e)⟩
  | block id c ih =>
    intro σ Q Q' hq h
    refine ih σ _ _ (fun e σ' h' => ?_) h
    cases e with
    | exit id' => simp only at h' ⊢; split <;> simp_all
    | _ => exact hq _ _ h'
  | loop c ih =>
    intro σ Q Q' hq h X hX
    refine h X fun s hs => hX s (ih s _ _ (fun e σ' h' => ?_) hs)
    cases e with
    | normal => exact h'
    | _ => exact hq _ _ h'
  | exit id => intro σ Q Q' hq h; exact hq _ _ h
  | ret => intro σ Q Q' hq h; exact hq _ _ h
  | rangeFunc f ps x y _ _ => intro σ Q Q' hq h; exact h
  | scope c ih => intro σ Q Q' hq h; exact h
  | label l => intro σ Q Q' hq h; exact h
  | goto l => intro σ Q Q' hq h; exact h
  | refuse why => intro σ Q Q' hq h; exact h

theorem DRun_mono {ops : Array Oper} : ∀ (l : List Oper) (σ : St) (L : Store) (K K' : St → Prop), (∀ σ, K σ → K' σ) → DRun P ops l σ L K → DRun P ops l σ L K'
  | [], σ, L, K, K', hk, h => hk _ h
  | o :: l, σ, L, K, K', hk, h => by
    unfold DRun at *
    split at h
    · obtain ⟨v, m, h1, h2, h3⟩ := h
      exact ⟨v, m, h1, h2, DRun_mono l _ _ K K' hk h3⟩
    · exact DRun_mono l _ _ K K' hk h
    · exact h

theorem Wmono (c : Code) (σ : St) (Q Q' : Ex → St → Prop) (hq : ∀ e σ, Q e σ → Q' e σ) (h : W wop wdraw P c σ Q) : W wop wdraw P c σ Q' :=
  W_mono (fun _ _ _ _ hk h => wop_mono hk h) (fun _ _ _ _ hk h => ⟨h.1, h.2.1, DRun_mono _ _ _ _ _ hk h.2.2⟩) c σ Q Q' hq h

theorem WS_sound (hm : P.follows .mixedOrders = true) (c : Code) : drawsOk c = true → ∀ (σ : St) (Q : Ex → St → Prop), WS P (slim c) σ Q → W wop wdraw P c σ Q := by
  induction c with
  | skip => intro _ σ Q h; exact h
  | region id ops d =>
    intro hok σ Q h
    simp only [slim] at h
    split at h
    · rename_i l hl
      cases d with
      | false => exact stepL_sound _ _ σ _ hl h
      | true => exact ⟨hm, by simpa [drawsOk] using hok, drawL_sound _ _ σ [] _ hl h⟩
    · exact h.elim
  | seq x y ihx ihy =>
    intro hok σ Q h
    simp only [drawsOk, Bool.and_eq_true] at hok
    refine Wmono x σ _ _ (fun e σ' h' => ?_) (ihx hok.1 σ _ h)
    cases e with
    | normal => exact ihy hok.2 σ' Q h'
    | _ => exact h'
  | cond c x y ihx ihy =>
    intro hok σ Q h
    simp only [drawsOk, Bool.and_eq_true] at hok
    obtain ⟨t, h1, h2, h3⟩ := h
    exact ⟨t, h1, fun e => ihx hok.1 σ Q (h2 e), fun e => ihy hok.2 σ Q (h3 e)⟩
  | block id c ih => intro hok σ Q h; exact ih hok σ _ h
  | loop c ih => intro hok σ Q h X hX; exact h X fun s hs => hX s (ih hok s _ hs)
  | exit id => intro _ σ Q h; exact h
  | ret => intro _ σ Q h; exact h
  | _ => intros; rename_i h; exact h.elim

/-! ### with the code that is left on a stack -/

/-- What is left to do, with an exit. -/
def un (P : Program) : List Fr → (Ex → St → Prop) → Ex → St → Prop
  | [], Q => Q
  | .sq c :: k, Q => fun e σ => match e with | .normal => WS P c σ (un P k Q) | e => un P k Q e σ
  | .bl id :: k, Q => fun e σ => match e with | .exit id' => if id' = id then un P k Q .normal σ else un P k Q (.exit id') σ | e => un P k Q e σ
  | .lp X :: k, Q => fun e σ => match e with | .normal => ∃ s, Weak σ s ∧ X s | e => un P k Q e σ

def Go (P : Program) (c : SC) (k : List Fr) (σ : St) (Q : Ex → St → Prop) : Prop := WS P c σ (un P k Q)
def Re (P : Program) (k : List Fr) (e : Ex) (σ : St) (Q : Ex → St → Prop) : Prop := un P k Q e σ
def GoL (P : Program) (l : List SOp) (k : List Fr) (σ : St) (Q : Ex → St → Prop) : Prop := stepL P l σ (un P k Q .normal)
def GoD (P : Program) (l : List SOp) (L : Store) (k : List Fr) (σ : St) (Q : Ex → St → Prop) : Prop := drawL P l σ L (un P k Q .normal)

variable {k : List Fr} {σ : St} {Q : Ex → St → Prop}
theorem Go_skip : Go P .skip k σ Q = Re P k .normal σ Q := rfl
theorem Go_reg {l : List SOp} : Go P (.reg false l) k σ Q = GoL P l k σ Q := rfl
theorem Go_draw {l : List SOp} : Go P (.reg true l) k σ Q = GoD P l [] k σ Q := rfl
theorem Go_seq {x y : SC} : Go P (.seq x y) k σ Q = Go P x (.sq y :: k) σ Q := rfl
theorem Go_block {id : Nat} {c : SC} : Go P (.block id c) k σ Q = Go P c (.bl id :: k) σ Q := rfl
theorem Go_exit {id : Nat} : Go P (.exit id) k σ Q = Re P k (.exit id) σ Q := rfl
theorem Go_ret : Go P .ret k σ Q = Re P k .ret σ Q := rfl
theorem Go_cond {c : Operand} {x y : SC} {t : Bool} (h : plain (ev σ c) = some (.bool t)) (hx : t = true → Go P x k σ Q) (hy : t = false → Go P y k σ Q) : Go P (.cond c x y) k σ Q := ⟨t, h, hx, hy⟩
theorem Go_cond_eq {c : Operand} {x y : SC} : Go P (.cond c x y) k σ Q = ∃ t, plain (ev σ c) = some (.bool t) ∧ (t = true → Go P x k σ Q) ∧ (t = false → Go P y k σ Q) := rfl
theorem Re_nil {e : Ex} : Re P [] e σ Q = Q e σ := rfl
theorem Re_sq_normal {c : SC} : Re P (.sq c :: k) .normal σ Q = Go P c k σ Q := rfl
theorem Re_sq_exit {c : SC} {id : Nat} : Re P (.sq c :: k) (.exit id) σ Q = Re P k (.exit id) σ Q := rfl
theorem Re_sq_ret {c : SC} : Re P (.sq c :: k) .ret σ Q = Re P k .ret σ Q := rfl
theorem Re_bl_normal {id : Nat} : Re P (.bl id :: k) .normal σ Q = Re P k .normal σ Q := rfl
theorem Re_bl_ret {id : Nat} : Re P (.bl id :: k) .ret σ Q = Re P k .ret σ Q := rfl
theorem Re_bl_exit {id id' : Nat} : Re P (.bl id :: k) (.exit id') σ Q = if id' = id then Re P k .normal σ Q else Re P k (.exit id') σ Q := rfl
theorem Re_lp_normal {X : St → Prop} : Re P (.lp X :: k) .normal σ Q = ∃ s, Weak σ s ∧ X s := rfl
theorem Re_lp_exit {X : St → Prop} {id : Nat} : Re P (.lp X :: k) (.exit id) σ Q = Re P k (.exit id) σ Q := rfl
theorem Re_lp_ret {X : St → Prop} : Re P (.lp X :: k) .ret σ Q = Re P k .ret σ Q := rfl

/-- A loop, by a family of states and a measure. -/
theorem Go_loop {α : Type} {c : SC} (S : α → St) (μ : α → Nat) (a0 : α) (h0 : Weak σ (S a0))
    (step : ∀ a (X : St → Prop), (∀ a', μ a' < μ a → X (S a')) → Go P c (.lp X :: k) (S a) Q) : Go P (.loop c) k σ Q := by
  intro X hX
  refine ⟨S a0, h0, ?_⟩
  have key : ∀ n a, μ a < n → X (S a) := by
    intro n
    induction n with
    | zero => intro a h; omega
    | succ n ih =>
      intro a ha
      exact hX _ (step a X fun a' ha' => ih a' (by omega))
  exact key _ a0 (Nat.lt_succ_self _)

theorem GoL_nil : GoL P [] k σ Q = Re P k .normal σ Q := rfl
theorem GoL_step {s : SOp} {l : List SOp} {σ' : St} (hg : gdS σ.t s = some true) (hs : semOp s.op = false)
    (h : stepO P σ s.oper = some σ') (hk : GoL P l k σ' Q) : GoL P (s :: l) k σ Q := by
  unfold GoL stepL
  rw [hg]
  simp only [wop]
  split
  · rename_i ho; rw [show s.op = _ from ho] at hs; cases hs
  · rename_i ho; rw [show s.op = _ from ho] at hs; cases hs
  · rename_i ho; rw [show s.op = _ from ho] at hs; cases hs
  · rename_i ho; rw [show s.op = _ from ho] at hs; cases hs
  · exact ⟨σ', h, hk⟩
theorem GoL_skip {s : SOp} {l : List SOp} (hg : gdS σ.t s = some false) (hk : GoL P l k (put σ s.dst (.x (.one .bad))) Q) : GoL P (s :: l) k σ Q := by
  unfold GoL stepL
  rw [hg]; exact hk
theorem GoL_call {N : Tmp} {f : FuncId} {as : Array Operand} {ats : Array TypeId} {ty : TypeId} {g : Option (Tmp × Bool)} {l : List SOp} {xs ret : List X}
    (hg : gdS σ.t ⟨some N, .call { callee := .value (.func f), args := as, argTypes := ats }, ty, g⟩ = some true) (hv : viewVs σ.o (as.toList.map (ev σ)) = some xs) (hf : PureFn P f xs ret)
    (hp : poR (retRow ret) = true) (hr : freshR σ.l (newRoots σ.d N 0 (retRow ret)) = true) (hk : GoL P l k (put (impSt σ N ret) (some N) (packT (impXs σ.d N 0 ret))) Q) :
    GoL P (⟨some N, .call { callee := .value (.func f), args := as, argTypes := ats }, ty, g⟩ :: l) k σ Q := by
  unfold GoL stepL
  rw [hg]
  exact .inl ⟨xs, ret, hv, hf, hp, hr, hk⟩
theorem GoL_sem {s : SOp} {l : List SOp} (hg : gdS σ.t s = some true) (hs : semOp s.op = true) (h : SemStep P s.oper σ fun σ' => GoL P l k σ' Q) : GoL P (s :: l) k σ Q := by
  unfold GoL stepL
  rw [hg]
  simp only [wop]
  split
  · exact .inr h
  · exact h
  · exact h
  · exact h
  · rename_i n1 n2 n3 n4
    exfalso
    revert hs
    unfold semOp
    split
    · rename_i ho; exact fun _ => n1 _ _ _ ho
    · rename_i ho; exact fun _ => n2 _ _ ho
    · rename_i ho; exact fun _ => n3 _ _ _ _ ho
    · rename_i ho; exact fun _ => n4 _ _ _ _ ho
    · exact fun h => nomatch h

theorem GoD_nil {L : Store} : GoD P [] L k σ Q = Re P k .normal { σ with l := L ++ σ.l } Q := rfl
theorem GoD_step {s : SOp} {l : List SOp} {v : V} {L : Store} (hg : gdS σ.t s = some true) (hs : ∀ f as ats, s.op ≠ .call { callee := .value (.func f), args := as, argTypes := ats })
    (h : opV P σ s.oper = some v) (hk : GoD P l L k (put σ s.dst v) Q) : GoD P (s :: l) L k σ Q := by
  unfold GoD drawL
  rw [hg]
  refine ⟨v, [], ?_, rfl, hk⟩
  unfold OpE
  split
  · rename_i f as ats ho; exact absurd ho (hs f as ats)
  · exact ⟨h, rfl⟩
theorem GoD_skip {s : SOp} {l : List SOp} {L : Store} (hg : gdS σ.t s = some false) (hk : GoD P l L k (put σ s.dst (.x (.one .bad))) Q) : GoD P (s :: l) L k σ Q := by
  unfold GoD drawL
  rw [hg]; exact hk
theorem GoD_call {N : Tmp} {f : FuncId} {as : Array Operand} {ats : Array TypeId} {ty : TypeId} {g : Option (Tmp × Bool)} {l : List SOp} {L : Store} {xs ret : List X}
    (hg : gdS σ.t ⟨some N, .call { callee := .value (.func f), args := as, argTypes := ats }, ty, g⟩ = some true) (hv : viewVs σ.o (as.toList.map (ev σ)) = some xs) (hf : PureFn P f xs ret)
    (hp : poR (retRow ret) = true) (hr : freshR (L ++ σ.l) (newRoots σ.d N 0 (retRow ret)) = true)
    (hk : GoD P l (newRoots σ.d N 0 (retRow ret) ++ L) k (put σ (some N) (packT (impXs σ.d N 0 ret))) Q) :
    GoD P (⟨some N, .call { callee := .value (.func f), args := as, argTypes := ats }, ty, g⟩ :: l) L k σ Q := by
  unfold GoD drawL
  rw [hg]
  exact ⟨_, _, ⟨xs, ret, hv, hf, hp, rfl, rfl⟩, hr, hk⟩

/-- What the body ends with may be forgotten in part (or seen otherwise) ahead of the results. -/
theorem PureFn_of_GoW {f : FuncId} {fn : Func} {c : Code} (hf : P.funcs[f]? = some fn) (hb : fn.body = some c) (hn : fn.name ≠ "runtime.NumGoroutine") (hm : P.follows .mixedOrders = true) (hd : drawsOk c = true) {args ret : List X}
    (h : Go P (slim c) [] (enterSt fn args) fun e σ => (e = .normal ∨ e = .ret) ∧ ∃ σ', Weak σ σ' ∧ resOk P fn σ' ret) : PureFn P f args ret :=
  PureFn_of_WW hf hb hn wdraw_sound (WS_sound hm c hd _ _ h)
theorem PureFn_of_Go {f : FuncId} {fn : Func} {c : Code} (hf : P.funcs[f]? = some fn) (hb : fn.body = some c) (hn : fn.name ≠ "runtime.NumGoroutine") (hm : P.follows .mixedOrders = true) (hd : drawsOk c = true) {args ret : List X}
    (h : Go P (slim c) [] (enterSt fn args) fun e σ => (e = .normal ∨ e = .ret) ∧ resOk P fn σ ret) : PureFn P f args ret :=
  PureFn_of_WW hf hb hn wdraw_sound (Wmono c _ _ _ (fun _ _ hq => ⟨hq.1, _, Weak.refl _, hq.2⟩) (WS_sound hm c hd _ _ h))

end
end Go.Rx
