/- An abstract machine over data, part III. -/
import Derived.Test.YthhgmnpodgmlkaaRxIIIa
namespace Go.Rx
open Go.RowKit
structure SOp where
  dst : Option Tmp
  op : Op
  type : TypeId
  gd : Option (Tmp × Bool)
inductive SC where
  | skip
  | reg (draw : Bool) (ops : List SOp)
  | seq (a b : SC)
  | cond (c : Operand) (a b : SC)
  | block (id : Nat) (c : SC)
  | loop (c : SC)
  | exit (id : Nat)
  | ret
  | no
  | any (ops : List SOp) (deps : List (List Nat))
def slimG (ops : Array Oper) (o : Oper) : Option (Option (Tmp × Bool)) :=
  match o.guard with
  | none => some none
  | some (j, b) => ((ops[j]?).bind (·.dst)).map fun d => some (d, b)
def slimO (ops : Array Oper) (o : Oper) : Option SOp := (slimG ops o).map fun g => ⟨o.dst, o.op, o.type, g⟩
def slimL (ops : Array Oper) : List Oper → Option (List SOp)
  | [] => some []
  | o :: l => match slimO ops o, slimL ops l with
    | some s, some ss => some (s :: ss)
    | _, _ => none
def slim : Code → SC
  | .skip => .skip
  | .region _ ops d => match slimL ops ops.toList with
    | some l => .reg d l
    | none => .no
  | .seq a b => .seq (slim a) (slim b)
  | .cond c a b => .cond c (slim a) (slim b)
  | .block id c => .block id (slim c)
  | .loop c => .loop (slim c)
  | .exit id => .exit id
  | .ret => .ret
  | _ => .no
def slimX (X : List Nat) : Code → SC
  | .skip => .skip
  | .region id ops d => match slimL ops ops.toList with
    | some l => if d && X.contains id then .any l (depsL ops) else .reg d l
    | none => .no
  | .seq a b => .seq (slimX X a) (slimX X b)
  | .cond c a b => .cond c (slimX X a) (slimX X b)
  | .block id c => .block id (slimX X c)
  | .loop c => .loop (slimX X c)
  | .exit id => .exit id
  | .ret => .ret
  | _ => .no
def drawsOkX (X : List Nat) : Code → Bool
  | .region id ops d => !d || X.contains id || drawOk2 ops
  | .seq a b => drawsOkX X a && drawsOkX X b
  | .cond _ a b => drawsOkX X a && drawsOkX X b
  | .block _ c => drawsOkX X c
  | .loop c => drawsOkX X c
  | _ => true
def drawsOk : Code → Bool
  | .region _ ops d => !d || drawOk2 ops
  | .seq a b => drawsOk a && drawsOk b
  | .cond _ a b => drawsOk a && drawsOk b
  | .block _ c => drawsOk c
  | .loop c => drawsOk c
  | _ => true
def SOp.oper (s : SOp) : Oper := { dst := s.dst, op := s.op, type := s.type, pos := "", after := #[], guard := none }
def gdS (t : List V) (s : SOp) : Option Bool :=
  match s.gd with
  | none => some true
  | some (d, b) => match plain (t.getD d (.x (.one .bad))) with
    | some (.bool x) => some (x == b)
    | some (.tuple _) => some false
    | _ => none
inductive Fr where
  | sq (c : SC)
  | bl (id : Nat)
  | lp (X : St → Prop)
def semOp : Op → Bool
  | .call { callee := .value (.func _), args := _, argTypes := _ } => true
  | .makeMap _ _ => true
  | .lookup _ _ _ _ => true
  | .mapUpdate _ _ _ _ => true
  | .alloc _ => true
  | _ => false
def stepL (P : Program) : List SOp → St → (St → Prop) → Prop
  | [], σ, K => K σ
  | s :: l, σ, K => match gdS σ.t s with
    | some true => wop P s.oper σ fun σ' => stepL P l σ' K
    | some false => stepL P l (put σ s.dst (.x (.one (.v (.tuple #[]))))) K
    | none => False
def AnyL (P : Program) (ops : List SOp) (deps : List (List Nat)) (K : St → Prop) : Nat → List Nat → St → Prop
  | 0, done, σ => rdy deps done = [] ∧ K σ
  | f + 1, done, σ => (rdy deps done = [] → K σ) ∧ ∀ j ∈ rdy deps done, match ops[j]? with
    | none => False
    | some s => match gdS σ.t s with
      | some true => wop P s.oper σ (AnyL P ops deps K f (j :: done))
      | some false => AnyL P ops deps K f (j :: done) (put σ s.dst (.x (.one (.v (.tuple #[])))))
      | none => False
def stepG (P : Program) (σ : St) (s : SOp) : Option St :=
  match gdS σ.t s with
  | some true => stepO P σ s.oper
  | some false => some (put σ s.dst (.x (.one (.v (.tuple #[])))))
  | none => none
def valK : Op → Bool
  | .move _ => true
  | .assign _ => true
  | .pick _ _ _ => true
  | .nilCheck _ => true
  | .binOp _ _ _ _ _ => true
  | .unOp _ _ _ => true
  | .extract _ _ => true
  | .field _ _ _ => true
  | .index _ _ _ => true
  | .fieldAddr _ _ _ => true
  | .indexAddr _ _ _ => true
  | .slice _ _ _ _ _ => true
  | .load _ _ => true
  | _ => false
def fOkS (P : Program) (ops : List SOp) (σ : St) (i : Nat) : Prop := match ops[i]? with
  | some s => stepG P σ s = some σ
  | none => False
def allF (P : Program) (ops : List SOp) (σ : St) : List Nat → Prop
  | [] => True
  | i :: l => fOkS P ops σ i ∧ allF P ops σ l
def AnyF (P : Program) (ops : List SOp) (deps : List (List Nat)) (fl : List Nat) (K : St → Prop) : Nat → List Nat → St → Prop
  | 0, done, σ => rdy deps done = [] ∧ K σ
  | f + 1, done, σ => (∃ i ∈ rdy deps done, i ∈ fl ∧ ∃ s σ', ops[i]? = some s ∧ stepG P σ s = some σ' ∧ AnyF P ops deps fl K f (i :: done) σ') ∨
    ((rdy deps done = [] → K σ) ∧ ∀ j ∈ rdy deps done, j ∉ fl ∧ match ops[j]? with
    | none => False
    | some s => match gdS σ.t s with
      | some true => wop P s.oper σ fun σ' => (∀ i ∈ pend deps fl (j :: done), fOkS P ops σ' i) ∧ AnyF P ops deps fl K f (j :: done) σ'
      | some false => (∀ i ∈ pend deps fl (j :: done), fOkS P ops (put σ s.dst (.x (.one (.v (.tuple #[]))))) i) ∧ AnyF P ops deps fl K f (j :: done) (put σ s.dst (.x (.one (.v (.tuple #[])))))
      | none => False)
def looksS (s : SOp) : List Tmp := (s.op.operands.toList.filterMap fun | .tmp t => some t | _ => none) ++ (match s.gd with | some (t, _) => [t] | none => [])
def apartS (x y : SOp) : Bool :=
  (match x.dst with
   | some d => !(looksS y).contains d && y.dst != some d
   | none => true) &&
  (match y.dst with
   | some d => !(looksS x).contains d
   | none => true)
def flS (ops : List SOp) (deps : List (List Nat)) (fl : List Nat) : Bool :=
  (ops.all fun s => match s.op with | .select .. => false | _ => true) &&
  fl.all fun i => match ops[i]? with
    | some oi => oi.gd.isNone && valK oi.op && (match oi.dst with
      | some d => !(looksS oi).contains d
      | none => false) &&
      ((List.range ops.length).all fun j => j == i || (match ops[j]? with
        | some oj => (deps.getD j []).contains i || (deps.getD i []).contains j || apartS oi oj
        | none => true)) &&
      fl.all fun k => k == i || (match ops[k]? with
        | some ok => !(oi.dst == ok.dst) && (match ok.dst with
          | some d => !(looksS oi).contains d || (deps.getD i []).contains k
          | none => false)
        | none => true)
    | none => false
def drawL (P : Program) : List SOp → St → Store → (St → Prop) → Prop
  | [], σ, L, K => K { σ with l := L ++ σ.l }
  | s :: l, σ, L, K => if isEff s.op then stepL P (s :: l) { σ with l := L ++ σ.l } K else match gdS σ.t s with
    | some true => ∃ v m, OpE P σ L s.oper v m ∧ freshR (L ++ σ.l) m = true ∧ drawL P l (put σ s.dst v) (m ++ L) K
    | some false => drawL P l (put σ s.dst (.x (.one (.v (.tuple #[]))))) L K
    | none => False
def appTs : List SOp → List Tmp
  | [] => []
  | s :: l => match s.op with
    | .call { callee := .builtin .append, args := as, argTypes := _ } => match as.toList with
      | .tmp t :: _ => t :: appTs l
      | _ => appTs l
    | _ => appTs l
def slB (l : List SOp) : List (Option Tmp × Op) := l.map fun s => (s.dst, s.op)
def ksOf (l : List SOp) : List Tmp := (appTs l).filter (madeB (slB l))
def killK (ks : List Tmp) (op : Op) : Option Tmp := match op with
  | .call { callee := .builtin .append, args := as, argTypes := _ } => match as.toList with
    | .tmp t :: _ => if ks.contains t = true then some t else none
    | _ => none
  | _ => none
def drawK (P : Program) (ks : List Tmp) : List SOp → St → Store → (St → Prop) → Prop
  | [], σ, L, K => K { σ with l := L ++ σ.l }
  | s :: l, σ, L, K => match killK ks s.op with
    | some t => gdS σ.t s = some true ∧ ∃ v m, AppE P σ L t s.dst s.op v m ∧ freshR (L ++ σ.l) m = true ∧ cleanV σ.d ks s.dst v = true ∧ drawK P ks l (put (offT (some t) σ) s.dst v) (m ++ offL σ.d (some t) L) K
    | none => if isEff s.op then stepL P (s :: l) { σ with l := L ++ σ.l } K else match gdS σ.t s with
      | some true => ∃ v m, OpE P σ L s.oper v m ∧ freshR (L ++ σ.l) m = true ∧ cleanV σ.d ks s.dst v = true ∧ drawK P ks l (put σ s.dst v) (m ++ L) K
      | some false => drawK P ks l (put σ s.dst (.x (.one (.v (.tuple #[]))))) L K
      | none => False
def WS (P : Program) : SC → St → (Ex → St → Prop) → Prop
  | .skip, σ, Q => Q .normal σ
  | .reg false ops, σ, Q => stepL P ops σ (Q .normal)
  | .reg true ops, σ, Q => match ksOf ops with
    | [] => drawL P ops σ [] (Q .normal)
    | k :: ks => drawK P (k :: ks) ops σ [] (Q .normal)
  | .seq x y, σ, Q => WS P x σ fun e σ' => match e with | .normal => WS P y σ' Q | e => Q e σ'
  | .cond c x y, σ, Q => ∃ t, plain (ev σ c) = some (.bool t) ∧ (t = true → WS P x σ Q) ∧ (t = false → WS P y σ Q)
  | .block id c, σ, Q => WS P c σ fun e σ' => match e with | .exit id' => if id' = id then Q .normal σ' else Q (.exit id') σ' | e => Q e σ'
  | .loop c, σ, Q => ∀ X : St → Prop, (∀ s, WS P c s (fun e s' => match e with | .normal => ∃ s'', Weak s' s'' ∧ X s'' | e => Q e s') → X s) → ∃ s0, Weak σ s0 ∧ X s0
  | .exit id, σ, Q => Q (.exit id) σ
  | .ret, σ, Q => Q .ret σ
  | .no, _, _ => False
  | .any ops deps, σ, Q => AnyL P ops deps (Q .normal) ops.length [] σ ∨ ∃ fl, flS ops deps fl = true ∧ AnyF P ops deps fl (Q .normal) ops.length [] σ
section
variable {P : Program}
theorem slimO_spec {ops : Array Oper} {o : Oper} {s : SOp} (h : slimO ops o = some s) : s.dst = o.dst ∧ s.op = o.op ∧ s.type = o.type ∧ ∀ σ : St, gdS σ.t s = gd σ ops o := by
  unfold slimO slimG at h
  cases hg : o.guard with
  | none =>
    simp only [hg, Option.map_some, Option.some.injEq] at h
    subst h
    exact ⟨rfl, rfl, rfl, fun σ => by simp [gdS, gd, hg]⟩
  | some p =>
    obtain ⟨j, b⟩ := p
    simp only [hg, Option.map_map, Option.map_eq_some_iff, Function.comp_apply] at h
    obtain ⟨d, hd, rfl⟩ := h
    refine ⟨rfl, rfl, rfl, fun σ => ?_⟩
    unfold gdS gd
    rw [hg]
    simp only [hd]
    rfl
theorem wop_congr {o o' : Oper} (h1 : o'.dst = o.dst) (h2 : o'.op = o.op) (h3 : o'.type = o.type) (σ : St) (K : St → Prop) : wop P o' σ K = wop P o σ K := by
  obtain ⟨d, op, t, p, a, g⟩ := o
  obtain ⟨d', op', t', p', a', g'⟩ := o'
  simp only at h1 h2 h3
  subst h1 h2 h3
  unfold wop stepO opV callW SemStep Oper.wp Oper.upon execOp
  rfl
theorem OpE_congr {o o' : Oper} (h1 : o'.dst = o.dst) (h2 : o'.op = o.op) (h3 : o'.type = o.type) (σ : St) (L : Store) (v : V) (l : Store) : OpE P σ L o' v l = OpE P σ L o v l := by
  obtain ⟨d, op, t, p, a, g⟩ := o
  obtain ⟨d', op', t', p', a', g'⟩ := o'
  simp only at h1 h2 h3
  subst h1 h2 h3
  unfold OpE opW opV
  rfl
theorem wop_mono {o : Oper} {σ : St} {K K' : St → Prop} (hk : ∀ σ, K σ → K' σ) (h : wop P o σ K) : wop P o σ K' := by
  have sem : SemStep P o σ K → SemStep P o σ K' := fun h g0 w0 _ g a w N Q hr hn => h g0 w0 g a w N Q hr fun σ' g' a' w' h' => hn σ' g' a' w' (hk σ' h')
  unfold wop at *
  split at h
  · rcases h with h | h
    · refine .inl ?_
      unfold callW at *
      split at h
      · obtain ⟨xs, ret, h1, h2, h3, h4, h5⟩ := h
        exact ⟨xs, ret, h1, h2, h3, h4, hk _ h5⟩
      · exact h.elim
    · exact .inr (sem h)
  · exact sem h
  · exact sem h
  · exact sem h
  · split at h
    · rename_i hb; rw [if_pos hb]; exact sem h
    · rename_i hb
      rw [if_neg hb]
      obtain ⟨σ', h1, h2⟩ := h
      exact ⟨σ', h1, hk _ h2⟩
  · obtain ⟨σ', h1, h2⟩ := h
    exact ⟨σ', h1, hk _ h2⟩
theorem stepL_sound {ops : Array Oper} : ∀ (l : List Oper) (ss : List SOp) (σ : St) (K : St → Prop), slimL ops l = some ss → stepL P ss σ K → Wlist wop P ops l σ K
  | [], ss, σ, K, h, hs => by
    simp only [slimL, Option.some.injEq] at h
    subst h
    exact hs
  | o :: l, ss, σ, K, h, hs => by
    simp only [slimL] at h
    split at h
    · rename_i s ss' h1 h2
      cases h
      obtain ⟨e1, e2, e3, e4⟩ := slimO_spec h1
      unfold Wlist
      simp only [stepL, e4] at hs
      split at hs
      · rename_i hg
        try simp only [hg]
        rw [wop_congr (o := o) e1 e2 e3] at hs
        exact wop_mono (fun σ' h' => stepL_sound l ss' σ' K h2 h') hs
      · rename_i hg
        try simp only [hg]
        rw [e1] at hs
        exact stepL_sound l ss' _ K h2 hs
      · exact hs.elim
    · cases h
theorem drawL_sound {ops : Array Oper} : ∀ (l : List Oper) (ss : List SOp) (σ : St) (L : Store) (K : St → Prop), slimL ops l = some ss → drawL P ss σ L K → DRun P ops l σ L K
  | [], ss, σ, L, K, h, hs => by
    simp only [slimL, Option.some.injEq] at h
    subst h
    exact hs
  | o :: l, ss, σ, L, K, h, hs => by
    simp only [slimL] at h
    split at h
    · rename_i s ss' h1 h2
      cases h
      obtain ⟨e1, e2, e3, e4⟩ := slimO_spec h1
      unfold DRun
      simp only [drawL] at hs
      by_cases he : isEff s.op = true
      · rw [if_pos he] at hs
        rw [if_pos (by rw [← e2]; exact he)]
        exact stepL_sound (o :: l) (s :: ss') _ K (by simp only [slimL, h1, h2]) hs
      rw [if_neg he] at hs
      rw [if_neg (by rw [← e2]; exact he)]
      simp only [e4] at hs
      split at hs
      · rename_i hg
        try simp only [hg]
        obtain ⟨v, m, k1, k2, k3⟩ := hs
        rw [OpE_congr (o := o) e1 e2 e3] at k1
        rw [e1] at k3
        exact ⟨v, m, k1, k2, drawL_sound l ss' _ _ K h2 k3⟩
      · rename_i hg
        try simp only [hg]
        rw [e1] at hs
        exact drawL_sound l ss' _ _ K h2 hs
      · exact hs.elim
    · cases h
theorem W_mono {wo : OpW} {wd : DrawW} (hwo : ∀ o σ K K', (∀ σ, K σ → K' σ) → wo P o σ K → wo P o σ K') (hwd : ∀ ops σ K K', (∀ σ, K σ → K' σ) → wd P ops σ K → wd P ops σ K') (c : Code) :
    ∀ (σ : St) (Q Q' : Ex → St → Prop), (∀ e σ, Q e σ → Q' e σ) → W wo wd P c σ Q → W wo wd P c σ Q' := by
  have hl : ∀ (ops : Array Oper) (l : List Oper) (σ : St) (K K' : St → Prop), (∀ σ, K σ → K' σ) → Wlist wo P ops l σ K → Wlist wo P ops l σ K' := by
    intro ops l
    induction l with
    | nil => intro σ K K' hk h; exact hk σ h
    | cons o l ih =>
      intro σ K K' hk h
      unfold Wlist at h ⊢
      split at h
      · exact hwo _ _ _ _ (fun σ' h' => ih σ' K K' hk h') h
      · exact ih _ K K' hk h
      · exact h
  induction c with
  | skip => intro σ Q Q' hq h; exact hq _ _ h
  | region id ops d =>
    intro σ Q Q' hq h
    cases d with
    | false => exact hl ops _ σ _ _ (hq .normal) h
    | true => exact hwd _ _ _ _ (hq .normal) h
  | seq x y ihx ihy =>
    intro σ Q Q' hq h
    refine ihx σ _ _ (fun e σ' h' => ?_) h
    cases e with
    | normal => exact ihy σ' Q Q' hq h'
    | _ => exact hq _ _ h'
  | cond c x y ihx ihy =>
    intro σ Q Q' hq h
    obtain ⟨t, h1, h2, h3⟩ := h
    exact ⟨t, h1, fun e => ihx σ Q Q' hq (h2 e), fun e => ihy σ Q Q' hq (h3 e)⟩
  | block id c ih =>
    intro σ Q Q' hq h
    refine ih σ _ _ (fun e σ' h' => ?_) h
    cases e with
    | exit id' => simp only at h' ⊢; split <;> simp_all
    | _ => exact hq _ _ h'
  | loop c ih =>
    intro σ Q Q' hq h X hX
    refine h X fun s hs => hX s (ih s _ _ (fun e σ' h' => ?_) hs)
    cases e with
    | normal => exact h'
    | _ => exact hq _ _ h'
  | exit id => intro σ Q Q' hq h; exact hq _ _ h
  | ret => intro σ Q Q' hq h; exact hq _ _ h
  | rangeFunc f ps x y _ _ => intro σ Q Q' hq h; exact h
  | scope c ih => intro σ Q Q' hq h; exact h
  | label l => intro σ Q Q' hq h; exact h
  | goto l => intro σ Q Q' hq h; exact h
  | refuse why => intro σ Q Q' hq h; exact h
theorem Wlist_mono {ops : Array Oper} : ∀ (l : List Oper) (σ : St) (K K' : St → Prop), (∀ σ, K σ → K' σ) → Wlist wop P ops l σ K → Wlist wop P ops l σ K'
  | [], σ, K, K', hk, h => hk σ h
  | o :: l, σ, K, K', hk, h => by
    unfold Wlist at h ⊢
    split at h
    · exact wop_mono (fun σ' h' => Wlist_mono l σ' K K' hk h') h
    · exact Wlist_mono l _ K K' hk h
    · exact h
theorem DRun2_mono {ops : Array Oper} : ∀ (l : List Oper) (σ : St) (L : Store) (K K' : St → Prop), (∀ σ, K σ → K' σ) → DRun2 P ops l σ L K → DRun2 P ops l σ L K'
  | [], σ, L, K, K', hk, h => hk _ h
  | o :: l, σ, L, K, K', hk, h => by
    unfold DRun2 at *
    split at h
    · rename_i he
      rw [if_pos he]
      exact Wlist_mono _ _ K K' hk h
    · rename_i he
      rw [if_neg he]
      obtain ⟨v, m, h1, h2, h3, h4⟩ := h
      exact ⟨v, m, h1, h2, h3, DRun2_mono l _ _ K K' hk h4⟩
theorem slimL_B {ops : Array Oper} : ∀ (l : List Oper) (ss : List SOp), slimL ops l = some ss → slB ss = l.map fun o => (o.dst, o.op)
  | [], ss, h => by cases h; rfl
  | o :: l, ss, h => by
    simp only [slimL] at h
    split at h
    · rename_i s ss' h1 h2
      cases h
      obtain ⟨e1, e2, _, _⟩ := slimO_spec h1
      show (s.dst, s.op) :: slB ss' = _
      rw [e1, e2, slimL_B l ss' h2]; rfl
    · cases h
theorem appTs_mem {t : Tmp} {as : Array Operand} {ats : Array TypeId} {rest : List Operand} (has : as.toList = .tmp t :: rest) : ∀ (l : List SOp) (s : SOp), s ∈ l → s.op = .call { callee := .builtin .append, args := as, argTypes := ats } → t ∈ appTs l
  | [], s, h, _ => by cases h
  | s' :: l, s, h, ho => by
    rcases List.mem_cons.1 h with rfl | h
    · unfold appTs
      rw [ho]
      simp only [has]
      exact List.mem_cons_self ..
    · have ih := appTs_mem has l s h ho
      unfold appTs
      split
      · split
        · exact List.mem_cons_of_mem _ ih
        · exact ih
      · exact ih
theorem killK_spec {ks : List Tmp} {op : Op} {t : Tmp} (h : killK ks op = some t) : t ∈ ks ∧ ∃ as ats rest, op = .call { callee := .builtin .append, args := as, argTypes := ats } ∧ as.toList = .tmp t :: rest := by
  unfold killK at h
  split at h
  · rename_i as ats
    split at h
    · rename_i t' rest he
      split at h
      · rename_i hc; cases h; exact ⟨List.contains_iff_mem.1 hc, as, ats, rest, rfl, he⟩
      · cases h
    · cases h
  · cases h
theorem killK_of {ks : List Tmp} {t : Tmp} {as : Array Operand} {ats : Array TypeId} {rest : List Operand} (has : as.toList = .tmp t :: rest) (h : t ∈ ks) : killK ks (.call { callee := .builtin .append, args := as, argTypes := ats }) = some t := by
  unfold killK
  simp only [has]
  rw [if_pos (List.contains_iff_mem.2 h)]
theorem killB_of {B : List (Option Tmp × Op)} {t : Tmp} {as : Array Operand} {ats : Array TypeId} {rest : List Operand} (has : as.toList = .tmp t :: rest) (h : madeB B t = true) : killB B (.call { callee := .builtin .append, args := as, argTypes := ats }) = some t := by
  unfold killB
  simp only [has]
  rw [if_pos h]
theorem killB_made {B : List (Option Tmp × Op)} {op : Op} {t : Tmp} (h : killB B op = some t) : madeB B t = true := by
  unfold killB at h
  split at h
  · split at h
    · split at h
      · rename_i hm; cases h; exact hm
      · cases h
    · cases h
  · cases h
theorem killK_eq {ss : List SOp} {s : SOp} (hs : s ∈ ss) : killK (ksOf ss) s.op = killB (slB ss) s.op := by
  cases hB : killB (slB ss) s.op with
  | some t =>
    obtain ⟨as, ats, rest, ho, has⟩ := killB_spec hB
    rw [ho]
    exact killK_of has (List.mem_filter.2 ⟨appTs_mem has ss s hs ho, killB_made hB⟩)
  | none =>
    cases hK : killK (ksOf ss) s.op with
    | none => rfl
    | some t =>
      obtain ⟨hm, as, ats, rest, ho, has⟩ := killK_spec hK
      rw [ho, killB_of has (List.mem_filter.1 hm).2] at hB
      cases hB
theorem killsOf_mem {ss : List SOp} {t : Tmp} (h : t ∈ killsOf (slB ss)) : t ∈ ksOf ss := by
  unfold killsOf slB at h
  rw [List.mem_filterMap] at h
  obtain ⟨p, hp, hk⟩ := h
  obtain ⟨s, hs, rfl⟩ := List.mem_map.1 hp
  have h2 : killK (ksOf ss) s.op = some t := by rw [killK_eq hs]; exact hk
  unfold killK at h2
  split at h2
  · split at h2
    · split at h2
      · rename_i hc; cases h2; exact List.contains_iff_mem.1 hc
      · cases h2
    · cases h2
  · cases h2
theorem cleanV_sub {d : Nat} {ks ks' : List Tmp} {dst : Option Tmp} {v : V} (h : ∀ t ∈ ks', t ∈ ks) (hc : cleanV d ks dst v = true) : cleanV d ks' dst v = true := by
  unfold cleanV at *
  rw [List.all_eq_true] at *
  exact fun t ht => hc t (h t ht)
theorem drawK_sound {ops : Array Oper} {ks : List Tmp} (hkl : ∀ o, o ∈ ops.toList → killK ks o.op = killT ops o) (hks : ∀ t ∈ killsOf (opsL ops), t ∈ ks) :
    ∀ (l : List Oper) (ss : List SOp) (σ : St) (L : Store) (K : St → Prop), (∀ o ∈ l, o ∈ ops.toList) → slimL ops l = some ss → drawK P ks ss σ L K → DRun2 P ops l σ L K
  | [], ss, σ, L, K, _, h, hs => by cases h; exact hs
  | o :: l, ss, σ, L, K, hm, h, hs => by
    have h0 := h
    simp only [slimL] at h
    split at h
    · rename_i s ss' h1 h2
      cases h
      obtain ⟨e1, e2, e3, e4⟩ := slimO_spec h1
      have hko := hkl o (hm o (List.mem_cons_self ..))
      have ih := fun σ' L' h' => drawK_sound hkl hks l ss' σ' L' K (fun o' ho' => hm o' (List.mem_cons_of_mem _ ho')) h2 h'
      unfold drawK at hs
      rw [e2, hko] at hs
      unfold DRun2
      cases hk : killT ops o with
      | some t =>
        rw [hk] at hs
        obtain ⟨hg, v, m, k1, k2, k3, k4⟩ := hs
        rw [if_neg (by unfold isEff2; rw [hk]; simp)]
        rw [e1] at k1 k3 k4
        refine ⟨v, m, ?_, k2, cleanV_sub hks k3, ih _ _ k4⟩
        unfold Stp2
        rw [hk]
        exact ⟨by rw [← e4]; exact hg, k1⟩
      | none =>
        rw [hk] at hs
        simp only at hs
        have heff : isEff2 ops o = isEff o.op := by unfold isEff2; rw [hk]; simp
        rw [heff]
        split at hs
        · rename_i he
          rw [if_pos he]
          exact stepL_sound (o :: l) (s :: ss') _ K h0 hs
        · rename_i he
          rw [if_neg he]
          split at hs
          · rename_i hg
            obtain ⟨v, m, k1, k2, k3, k4⟩ := hs
            rw [OpE_congr (o := o) e1 e2 e3] at k1
            rw [e1] at k3 k4
            refine ⟨v, m, ?_, k2, cleanV_sub hks k3, ih _ _ k4⟩
            unfold Stp2; rw [hk]
            exact .inl ⟨by rw [← e4]; exact hg, k1⟩
          · rename_i hg
            rw [e1] at hs
            refine ⟨.x (.one (.v (.tuple #[]))), [], ?_, rfl, ?_, ih _ _ hs⟩
            · unfold Stp2; rw [hk]
              exact .inr ⟨by rw [← e4]; exact hg, rfl, rfl⟩
            · unfold cleanV; rw [List.all_eq_true]; intro t _; simp [hasV, hasX, hasC]
          · exact hs.elim
    · cases h
theorem draw_sound2 {ops : Array Oper} {ss : List SOp} {σ : St} {K : St → Prop} (hl : slimL ops ops.toList = some ss) (h : match ksOf ss with | [] => drawL P ss σ [] K | k :: ks => drawK P (k :: ks) ss σ [] K) : DRun2 P ops ops.toList σ [] K := by
  have hB : slB ss = opsL ops := slimL_B _ _ hl
  have hmem : ∀ o ∈ ops.toList, ∃ s ∈ ss, s.op = o.op := fun o ho => by
    have : (o.dst, o.op) ∈ slB ss := by rw [hB]; exact List.mem_map.2 ⟨o, ho, rfl⟩
    obtain ⟨s, hs, he⟩ := List.mem_map.1 this
    exact ⟨s, hs, (Prod.mk.inj he).2⟩
  have hkl : ∀ o, o ∈ ops.toList → killK (ksOf ss) o.op = killT ops o := fun o ho => by
    obtain ⟨s, hs, he⟩ := hmem o ho
    rw [← he, killK_eq hs, hB, he]; rfl
  have hks : ∀ t ∈ killsOf (opsL ops), t ∈ ksOf ss := fun t ht => killsOf_mem (by rw [hB]; exact ht)
  split at h
  · rename_i he
    refine DRun_DRun2 (fun o ho => ?_) _ _ _ (fun o ho => ho) (drawL_sound _ _ σ [] _ hl h)
    rw [← hkl o ho, he]
    unfold killK
    split
    · split
      · simp
      · rfl
    · rfl
  · rename_i k ks he
    rw [← he] at h
    exact drawK_sound hkl hks _ _ _ _ _ (fun o ho => ho) hl h
theorem WAny_mono {ops : Array Oper} {K K' : St → Prop} (hk : ∀ σ, K σ → K' σ) : ∀ (f : Nat) (listed : Array Bool) (σ : St), WAny P ops K f listed σ → WAny P ops K' f listed σ
  | 0, _, _, h => ⟨h.1, hk _ h.2⟩
  | f + 1, listed, σ, h => by
    refine ⟨fun hn => hk _ (h.1 hn), fun i hi => ?_⟩
    have h1 := h.2 i hi
    cases ho : ops[i]? with
    | none => rw [ho] at h1; exact h1.elim
    | some o =>
      rw [ho] at h1
      simp only at h1 ⊢
      split at h1
      · rename_i e; exact wop_mono (fun σ' h' => WAny_mono hk f _ σ' h') h1
      · rename_i e; exact WAny_mono hk f _ _ h1
      · exact h1.elim
theorem slimL_get {ops : Array Oper} : ∀ (l : List Oper) (ss : List SOp), slimL ops l = some ss → ss.length = l.length ∧ ∀ (j : Nat) (o : Oper), l[j]? = some o → ∃ s, ss[j]? = some s ∧ slimO ops o = some s
  | [], ss, h => by simp only [slimL, Option.some.injEq] at h; subst h; exact ⟨rfl, fun j o h => by simp at h⟩
  | o :: l, ss, h => by
    simp only [slimL] at h
    split at h
    · rename_i s ss' h1 h2
      cases h
      obtain ⟨e1, e2⟩ := slimL_get l ss' h2
      refine ⟨by simp [e1], fun j o' hj => ?_⟩
      cases j with
      | zero => simp only [List.getElem?_cons_zero, Option.some.injEq] at hj; subst hj; exact ⟨s, rfl, h1⟩
      | succ j => exact e2 j o' (by simpa using hj)
    · cases h
theorem AnyL_sound {ops : Array Oper} {ss : List SOp} {K : St → Prop} (hs : slimL ops ops.toList = some ss) : ∀ (f : Nat) (done : List Nat) (listed : Array Bool) (σ : St),
    listed.size = ops.size → (∀ j, listed.getD j false = done.contains j) → AnyL P ss (depsL ops) K f done σ → WAny P ops K f listed σ
  | 0, done, listed, σ, hl, hd, h => by
    refine ⟨?_, h.2⟩
    rw [List.eq_nil_iff_forall_not_mem]
    intro j hj
    have := (rdy_ready hl hd j).1 hj
    rw [h.1] at this; cases this
  | f + 1, done, listed, σ, hl, hd, h => by
    refine ⟨fun hn => h.1 ?_, fun j hj => ?_⟩
    · rw [List.eq_nil_iff_forall_not_mem]
      intro j hj
      have := (rdy_ready hl hd j).2 hj
      rw [hn] at this; cases this
    · have h1 := h.2 j ((rdy_ready hl hd j).1 hj)
      obtain ⟨_, o, ho, _⟩ := mem_ready.1 hj
      obtain ⟨s, e1, e2⟩ := (slimL_get _ _ hs).2 j o (by rw [Array.getElem?_toList]; exact ho)
      obtain ⟨q1, q2, q3, q4⟩ := slimO_spec e2
      have hj2 : j < listed.size := by rw [hl]; exact (Array.getElem?_eq_some_iff.1 ho).1
      have hd' : ∀ i, (listed.setIfInBounds j true).getD i false = (j :: done).contains i := fun i => by
        rw [List.contains_cons]
        by_cases e : i = j
        · subst e; simp [Array.getD, hj2]
        · have : (listed.setIfInBounds j true).getD i false = listed.getD i false := by
            simp only [Array.getD_eq_getD_getElem?]
            rw [Array.getElem?_setIfInBounds_ne (fun h => e h.symm)]
          rw [this, hd i]
          simp [e]
      rw [e1] at h1
      simp only [ho]
      simp only [q4] at h1
      split at h1
      · rename_i hg
        try simp only [hg]
        rw [wop_congr (o := o) q1 q2 q3] at h1
        exact wop_mono (fun σ' h' => AnyL_sound hs f _ _ σ' (by simpa using hl) hd' h') h1
      · rename_i hg
        try simp only [hg]
        rw [q1] at h1
        exact AnyL_sound hs f _ _ _ (by simpa using hl) hd' h1
      · exact h1.elim
theorem valK_step {s : SOp} {σ σ' : St} (hv : valK s.op = true) (hg : s.gd = none) (h : stepG P σ s = some σ') : ∃ v, opV P σ s.oper = some v ∧ put σ s.dst v = σ' := by
  have h1 : stepO P σ s.oper = some σ' := by
    unfold stepG gdS at h
    rw [hg] at h; exact h
  have h2 : stepO P σ s.oper = (opV P σ s.oper).map (put σ s.dst) := by
    obtain ⟨d, op, ty, g⟩ := s
    simp only at hv
    unfold stepO
    cases op <;> first | rfl | cases hv
  rw [h2] at h1
  obtain ⟨v, e1, e2⟩ := Option.map_eq_some_iff.1 h1
  exact ⟨v, e1, e2⟩
theorem opV_oper {o : Oper} {s : SOp} {σ : St} (q2 : s.op = o.op) (q3 : s.type = o.type) : opV P σ s.oper = opV P σ o := by
  unfold opV SOp.oper
  simp only [q2, q3]
theorem looksS_eq {ops : Array Oper} {o : Oper} {s : SOp} (h : slimO ops o = some s) : looksS s = o.looksAt ops := by
  unfold slimO slimG at h
  unfold looksS Oper.looksAt
  cases hg : o.guard with
  | none =>
    rw [hg] at h
    cases h; rfl
  | some p =>
    obtain ⟨j, b⟩ := p
    rw [hg] at h
    simp only at h
    obtain ⟨x, hx, rfl⟩ := Option.map_eq_some_iff.1 h
    obtain ⟨d, hd, rfl⟩ := Option.map_eq_some_iff.1 hx
    simp only [hd]
    rfl
theorem hasEdge_deps {ops : Array Oper} {o : Oper} {j i : Nat} (ho : ops[j]? = some o) : ((depsL ops).getD j []).contains i = hasEdge o i := by
  have hg : (depsL ops).getD j [] = depsO o := by
    simp only [depsL, List.getD_eq_getElem?_getD, List.getElem?_map, Array.getElem?_toList, ho]; rfl
  rw [hg, Bool.eq_iff_iff, List.contains_iff_mem, hasEdge_iff]
  simp only [depsO, List.mem_map, List.mem_filter, Array.mem_toList_iff]
  constructor
  · rintro ⟨e, ⟨h1, h2⟩, h3⟩; exact ⟨e, h1, h2, h3⟩
  · rintro ⟨e, h1, h2, h3⟩; exact ⟨e, ⟨h1, h2⟩, h3⟩
theorem slim_at {ops : Array Oper} {ss : List SOp} (hs : slimL ops ops.toList = some ss) (j : Nat) : match ops[j]? with
    | some o => ∃ s, ss[j]? = some s ∧ slimO ops o = some s
    | none => ss[j]? = none := by
  cases ho : ops[j]? with
  | some o => exact (slimL_get _ _ hs).2 j o (by rw [Array.getElem?_toList]; exact ho)
  | none =>
    have := (slimL_get _ _ hs).1
    rw [List.getElem?_eq_none_iff, this, Array.length_toList]
    exact Array.getElem?_eq_none_iff.1 ho
theorem flS_sound {ops : Array Oper} {ss : List SOp} {fl : List Nat} (hs : slimL ops ops.toList = some ss) (h : flS ss (depsL ops) fl = true) : flOk ops fl = true ∧ ∀ i ∈ fl, ∀ s, ss[i]? = some s → s.gd = none ∧ valK s.op = true := by
  have hlen : ss.length = ops.size := by rw [(slimL_get _ _ hs).1, Array.length_toList]
  unfold flS at h
  rw [Bool.and_eq_true] at h
  obtain ⟨h0, h⟩ := h
  rw [List.all_eq_true] at h0 h
  have get : ∀ j s, ss[j]? = some s → ∃ o, ops[j]? = some o ∧ slimO ops o = some s := fun j s hj => by
    have := slim_at hs j
    cases ho : ops[j]? with
    | none => rw [ho] at this; rw [this] at hj; cases hj
    | some o =>
      rw [ho] at this
      obtain ⟨s', e1, e2⟩ := this
      rw [hj] at e1; cases e1
      exact ⟨o, ho, e2⟩
  constructor
  · unfold flOk
    rw [Bool.and_eq_true, List.all_eq_true]
    constructor
    · rw [Array.all_eq_true_iff_forall_mem]
      intro o ho
      obtain ⟨j, hj, rfl⟩ := Array.mem_iff_getElem.1 ho
      have := slim_at hs j
      rw [show ops[j]? = some ops[j] by simp [hj]] at this
      obtain ⟨s, e1, e2⟩ := this
      have h1 := h0 s (List.mem_of_getElem? e1)
      rw [(slimO_spec e2).2.1] at h1
      exact h1
    · intro i hi
      have h1 := h i hi
      split at h1
      · rename_i si hsi
        obtain ⟨oi, hoi, hsl⟩ := get i si hsi
        obtain ⟨q1, q2, q3, q4⟩ := slimO_spec hsl
        have ql := looksS_eq hsl
        simp only [Bool.and_eq_true] at h1
        obtain ⟨⟨⟨⟨h2, h2'⟩, h3⟩, h4⟩, h5⟩ := h1
        rw [hoi]
        simp only [Bool.and_eq_true]
        refine ⟨⟨⟨?_, ?_⟩, ?_⟩, ?_⟩
        · unfold slimO slimG at hsl
          cases hg : oi.guard with
          | none => rfl
          | some p =>
            obtain ⟨x, b⟩ := p
            rw [hg] at hsl
            simp only at hsl
            obtain ⟨y, hy, rfl⟩ := Option.map_eq_some_iff.1 hsl
            obtain ⟨d, hd, rfl⟩ := Option.map_eq_some_iff.1 hy
            simp at h2
        · rw [← q1, ← ql]; exact h3
        · rw [List.all_eq_true] at h4 ⊢
          intro j hj
          have h6 := h4 j (by rw [hlen]; exact hj)
          have h7 := slim_at hs j
          cases hoj : ops[j]? with
          | none => simp
          | some oj =>
            rw [hoj] at h7
            obtain ⟨sj, e1, e2⟩ := h7
            rw [e1] at h6
            simp only [Bool.or_eq_true] at h6 ⊢
            rcases h6 with h6 | (h6 | h6) | h6
            · exact .inl h6
            · exact .inr (.inl (.inl (by rw [← hasEdge_deps hoj]; exact h6)))
            · exact .inr (.inl (.inr (by rw [← hasEdge_deps hoi]; exact h6)))
            · refine .inr (.inr ?_)
              unfold apartS at h6
              unfold Oper.apart
              rw [← looksS_eq e2, ← ql, ← q1, ← (slimO_spec e2).1]
              exact h6
        · rw [List.all_eq_true] at h5 ⊢
          intro k hk
          have h6 := h5 k hk
          have h7 := slim_at hs k
          cases hok : ops[k]? with
          | none => simp
          | some ok =>
            rw [hok] at h7
            obtain ⟨sk, e1, e2⟩ := h7
            rw [e1] at h6
            simp only [hasEdge_deps hoi, q1, (slimO_spec e2).1, ql] at h6
            exact h6
      · cases h1
  · intro i hi s hsi
    have h1 := h i hi
    rw [hsi] at h1
    simp only [Bool.and_eq_true] at h1
    exact ⟨by simpa using h1.1.1.1.1, h1.1.1.1.2⟩
theorem AnyF_sound {ops : Array Oper} {ss : List SOp} {fl : List Nat} {K : St → Prop} (hs : slimL ops ops.toList = some ss) (hfl : ∀ i ∈ fl, ∀ s, ss[i]? = some s → s.gd = none ∧ valK s.op = true) : ∀ (f : Nat) (done : List Nat) (σ : St),
    AnyF P ss (depsL ops) fl K f done σ → WAnyF P ops fl K f done σ
  | 0, done, σ, h => h
  | f + 1, done, σ, h => by
    have get : ∀ j s, ss[j]? = some s → ∃ o, ops[j]? = some o ∧ slimO ops o = some s := fun j s hj => by
      have := slim_at hs j
      cases ho : ops[j]? with
      | none => rw [ho] at this; rw [this] at hj; cases hj
      | some o =>
        rw [ho] at this
        obtain ⟨s', e1, e2⟩ := this
        rw [hj] at e1; cases e1
        exact ⟨o, ho, e2⟩
    have fok : ∀ σ' i, i ∈ fl → fOkS P ss σ' i → fOk P ops σ' i := fun σ' i hi hf => by
      unfold fOkS at hf
      split at hf
      · rename_i s hsi
        obtain ⟨o, ho, hsl⟩ := get i s hsi
        obtain ⟨q1, q2, q3, q4⟩ := slimO_spec hsl
        obtain ⟨hg, hv⟩ := hfl i hi s hsi
        obtain ⟨v, e1, e2⟩ := valK_step hv hg hf
        unfold fOk
        rw [ho]
        exact ⟨v, by rw [← opV_oper q2 q3]; exact e1, by rw [← q1]; exact e2⟩
      · exact hf.elim
    have fpend : ∀ σ' done', (∀ i ∈ pend (depsL ops) fl done', fOkS P ss σ' i) → ∀ i ∈ pend (depsL ops) fl done', fOk P ops σ' i := fun σ' done' h i hi => fok σ' i (List.mem_filter.1 hi).1 (h i hi)
    rcases h with ⟨i, h1, h2, s, σ', h3, h4, h5⟩ | ⟨h1, h2⟩
    · obtain ⟨o, ho, hsl⟩ := get i s h3
      obtain ⟨q1, q2, q3, q4⟩ := slimO_spec hsl
      obtain ⟨hg, hv⟩ := hfl i h2 s h3
      obtain ⟨v, e1, e2⟩ := valK_step hv hg h4
      refine .inl ⟨i, h1, h2, o, v, ho, by rw [← opV_oper q2 q3]; exact e1, ?_⟩
      rw [← q1, e2]
      exact AnyF_sound hs hfl f _ σ' h5
    · refine .inr ⟨h1, fun j hj => ?_⟩
      obtain ⟨h3, h4⟩ := h2 j hj
      refine ⟨h3, ?_⟩
      have h5 := slim_at hs j
      cases ho : ops[j]? with
      | none => rw [ho] at h5; rw [h5] at h4; exact h4
      | some o =>
        rw [ho] at h5
        obtain ⟨s, e1, e2⟩ := h5
        obtain ⟨q1, q2, q3, q4⟩ := slimO_spec e2
        rw [e1] at h4
        simp only at h4 ⊢
        rw [q4] at h4
        split at h4
        · rename_i hg
          try simp only [hg]
          rw [wop_congr (o := o) q1 q2 q3] at h4
          exact wop_mono (fun σ' h' => ⟨fpend σ' _ h'.1, AnyF_sound hs hfl f _ σ' h'.2⟩) h4
        · rename_i hg
          try simp only [hg]
          rw [q1] at h4
          exact ⟨fpend _ _ h4.1, AnyF_sound hs hfl f _ _ h4.2⟩
        · exact h4.elim
theorem WAnyF_mono {ops : Array Oper} {fl : List Nat} {K K' : St → Prop} (hk : ∀ σ, K σ → K' σ) : ∀ (f : Nat) (done : List Nat) (σ : St), WAnyF P ops fl K f done σ → WAnyF P ops fl K' f done σ
  | 0, _, _, h => ⟨h.1, hk _ h.2⟩
  | f + 1, done, σ, h => by
    rcases h with ⟨i, h1, h2, o, v, h3, h4, h5⟩ | ⟨h1, h2⟩
    · exact .inl ⟨i, h1, h2, o, v, h3, h4, WAnyF_mono hk f _ _ h5⟩
    · refine .inr ⟨fun hn => hk _ (h1 hn), fun j hj => ?_⟩
      obtain ⟨h3, h4⟩ := h2 j hj
      refine ⟨h3, ?_⟩
      split at h4
      · exact h4.elim
      · rename_i o ho
        try simp only [ho]
        split at h4
        · rename_i e
          try simp only [e]
          exact wop_mono (fun σ' h' => ⟨h'.1, WAnyF_mono hk f _ σ' h'.2⟩) h4
        · rename_i e
          try simp only [e]
          exact ⟨h4.1, WAnyF_mono hk f _ _ h4.2⟩
        · exact h4.elim
theorem Wmono (c : Code) (σ : St) (Q Q' : Ex → St → Prop) (hq : ∀ e σ, Q e σ → Q' e σ) (h : W wop wdraw P c σ Q) : W wop wdraw P c σ Q' :=
  W_mono (fun _ _ _ _ hk h => wop_mono hk h) (fun _ _ _ _ hk h => h.imp (fun h => ⟨h.1, h.2.1, DRun2_mono _ _ _ _ _ hk h.2.2⟩) fun h => ⟨h.1, h.2.imp (WAny_mono hk _ _ _) fun ⟨fl, h1, h2⟩ => ⟨fl, h1, WAnyF_mono hk _ _ _ h2⟩⟩) c σ Q Q' hq h
theorem WS_sound (hm : P.follows .mixedOrders = true) (c : Code) : drawsOk c = true → ∀ (σ : St) (Q : Ex → St → Prop), WS P (slim c) σ Q → W wop wdraw P c σ Q := by
  induction c with
  | skip => intro _ σ Q h; exact h
  | region id ops d =>
    intro hok σ Q h
    simp only [slim] at h
    split at h
    · rename_i l hl
      cases d with
      | false => exact stepL_sound _ _ σ _ hl h
      | true => exact .inl ⟨hm, by simpa [drawsOk] using hok, draw_sound2 hl h⟩
    · exact h.elim
  | seq x y ihx ihy =>
    intro hok σ Q h
    simp only [drawsOk, Bool.and_eq_true] at hok
    refine Wmono x σ _ _ (fun e σ' h' => ?_) (ihx hok.1 σ _ h)
    cases e with
    | normal => exact ihy hok.2 σ' Q h'
    | _ => exact h'
  | cond c x y ihx ihy =>
    intro hok σ Q h
    simp only [drawsOk, Bool.and_eq_true] at hok
    obtain ⟨t, h1, h2, h3⟩ := h
    exact ⟨t, h1, fun e => ihx hok.1 σ Q (h2 e), fun e => ihy hok.2 σ Q (h3 e)⟩
  | block id c ih => intro hok σ Q h; exact ih hok σ _ h
  | loop c ih => intro hok σ Q h X hX; exact h X fun s hs => hX s (ih hok s _ hs)
  | exit id => intro _ σ Q h; exact h
  | ret => intro _ σ Q h; exact h
  | _ => intros; rename_i h; exact h.elim
theorem WS_soundX (X : List Nat) (hm : P.follows .mixedOrders = true) (c : Code) : drawsOkX X c = true → ∀ (σ : St) (Q : Ex → St → Prop), WS P (slimX X c) σ Q → W wop wdraw P c σ Q := by
  induction c with
  | skip => intro _ σ Q h; exact h
  | region id ops d =>
    intro hok σ Q h
    simp only [slimX] at h
    split at h
    · rename_i l hl
      cases d with
      | false => exact stepL_sound _ _ σ _ hl h
      | true =>
        cases hx : X.contains id with
        | true =>
          simp only [hx, Bool.and_self, if_true] at h
          have hlen : l.length = ops.size := by rw [(slimL_get _ _ hl).1, Array.length_toList]
          refine .inr ⟨hm, ?_⟩
          have h' : AnyL P l (depsL ops) (Q .normal) l.length [] σ ∨ ∃ fl, flS l (depsL ops) fl = true ∧ AnyF P l (depsL ops) fl (Q .normal) l.length [] σ := h
          rw [hlen] at h'
          rcases h' with h' | ⟨fl, hf, h'⟩
          · exact .inl (AnyL_sound hl ops.size [] _ σ (by simp) (fun j => by simp [Array.getD]) h')
          · obtain ⟨g1, g2⟩ := flS_sound hl hf
            exact .inr ⟨fl, flOk_spec g1, AnyF_sound hl g2 ops.size [] σ h'⟩
        | false =>
          simp only [hx, Bool.and_false, Bool.false_eq_true, if_false] at h
          exact .inl ⟨hm, by simp only [drawsOkX, Bool.not_true, Bool.false_or, hx] at hok; exact hok, draw_sound2 hl h⟩
    · exact h.elim
  | seq x y ihx ihy =>
    intro hok σ Q h
    simp only [drawsOkX, Bool.and_eq_true] at hok
    refine Wmono x σ _ _ (fun e σ' h' => ?_) (ihx hok.1 σ _ h)
    cases e with
    | normal => exact ihy hok.2 σ' Q h'
    | _ => exact h'
  | cond c x y ihx ihy =>
    intro hok σ Q h
    simp only [drawsOkX, Bool.and_eq_true] at hok
    obtain ⟨t, h1, h2, h3⟩ := h
    exact ⟨t, h1, fun e => ihx hok.1 σ Q (h2 e), fun e => ihy hok.2 σ Q (h3 e)⟩
  | block id c ih => intro hok σ Q h; exact ih hok σ _ h
  | loop c ih => intro hok σ Q h X' hX; exact h X' fun s hs => hX s (ih hok s _ hs)
  | exit id => intro _ σ Q h; exact h
  | ret => intro _ σ Q h; exact h
  | _ => intros; rename_i h; exact h.elim
def un (P : Program) : List Fr → (Ex → St → Prop) → Ex → St → Prop
  | [], Q => Q
  | .sq c :: k, Q => fun e σ => match e with | .normal => WS P c σ (un P k Q) | e => un P k Q e σ
  | .bl id :: k, Q => fun e σ => match e with | .exit id' => if id' = id then un P k Q .normal σ else un P k Q (.exit id') σ | e => un P k Q e σ
  | .lp X :: k, Q => fun e σ => match e with | .normal => ∃ s, Weak σ s ∧ X s | e => un P k Q e σ
def Go (P : Program) (c : SC) (k : List Fr) (σ : St) (Q : Ex → St → Prop) : Prop := WS P c σ (un P k Q)
def Re (P : Program) (k : List Fr) (e : Ex) (σ : St) (Q : Ex → St → Prop) : Prop := un P k Q e σ
def GoL (P : Program) (l : List SOp) (k : List Fr) (σ : St) (Q : Ex → St → Prop) : Prop := stepL P l σ (un P k Q .normal)
def GoK (P : Program) (ks : List Tmp) (l : List SOp) (L : Store) (k : List Fr) (σ : St) (Q : Ex → St → Prop) : Prop := drawK P ks l σ L (un P k Q .normal)
def GoD (P : Program) (l : List SOp) (L : Store) (k : List Fr) (σ : St) (Q : Ex → St → Prop) : Prop := drawL P l σ L (un P k Q .normal)
variable {k : List Fr} {σ : St} {Q : Ex → St → Prop}
theorem Go_skip : Go P .skip k σ Q = Re P k .normal σ Q := propext Iff.rfl
theorem Go_reg {l : List SOp} : Go P (.reg false l) k σ Q = GoL P l k σ Q := propext Iff.rfl
def GoX (P : Program) (ks : List Tmp) (l : List SOp) (k : List Fr) (σ : St) (Q : Ex → St → Prop) : Prop := match ks with
  | [] => GoD P l [] k σ Q
  | k0 :: ks => GoK P (k0 :: ks) l [] k σ Q
theorem Go_draw {l : List SOp} : Go P (.reg true l) k σ Q = GoX P (ksOf l) l k σ Q := rfl
theorem GoX_nil {l : List SOp} : GoX P [] l k σ Q = GoD P l [] k σ Q := rfl
theorem GoX_cons {k0 : Tmp} {ks : List Tmp} {l : List SOp} : GoX P (k0 :: ks) l k σ Q = GoK P (k0 :: ks) l [] k σ Q := rfl
theorem Go_seq {x y : SC} : Go P (.seq x y) k σ Q = Go P x (.sq y :: k) σ Q := propext Iff.rfl
theorem Go_block {id : Nat} {c : SC} : Go P (.block id c) k σ Q = Go P c (.bl id :: k) σ Q := propext Iff.rfl
theorem Go_exit {id : Nat} : Go P (.exit id) k σ Q = Re P k (.exit id) σ Q := propext Iff.rfl
theorem Go_ret : Go P .ret k σ Q = Re P k .ret σ Q := propext Iff.rfl
theorem Go_cond_eq {c : Operand} {x y : SC} : Go P (.cond c x y) k σ Q = ∃ t, plain (ev σ c) = some (.bool t) ∧ (t = true → Go P x k σ Q) ∧ (t = false → Go P y k σ Q) := rfl
theorem Re_nil {e : Ex} : Re P [] e σ Q = Q e σ := propext Iff.rfl
theorem Re_sq_normal {c : SC} : Re P (.sq c :: k) .normal σ Q = Go P c k σ Q := propext Iff.rfl
theorem Re_sq_exit {c : SC} {id : Nat} : Re P (.sq c :: k) (.exit id) σ Q = Re P k (.exit id) σ Q := propext Iff.rfl
theorem Re_sq_ret {c : SC} : Re P (.sq c :: k) .ret σ Q = Re P k .ret σ Q := propext Iff.rfl
theorem Re_bl_normal {id : Nat} : Re P (.bl id :: k) .normal σ Q = Re P k .normal σ Q := propext Iff.rfl
theorem Re_bl_ret {id : Nat} : Re P (.bl id :: k) .ret σ Q = Re P k .ret σ Q := propext Iff.rfl
theorem Re_bl_exit {id id' : Nat} : Re P (.bl id :: k) (.exit id') σ Q = if id' = id then Re P k .normal σ Q else Re P k (.exit id') σ Q := propext Iff.rfl
theorem Re_lp_normal {X : St → Prop} : Re P (.lp X :: k) .normal σ Q = ∃ s, Weak σ s ∧ X s := propext Iff.rfl
theorem Re_lp_exit {X : St → Prop} {id : Nat} : Re P (.lp X :: k) (.exit id) σ Q = Re P k (.exit id) σ Q := propext Iff.rfl
theorem Re_lp_ret {X : St → Prop} : Re P (.lp X :: k) .ret σ Q = Re P k .ret σ Q := propext Iff.rfl
theorem Go_loop {α : Type} {c : SC} (S : α → St) (μ : α → Nat) (a0 : α) (h0 : Weak σ (S a0))
    (step : ∀ a (X : St → Prop), (∀ a', μ a' < μ a → X (S a')) → Go P c (.lp X :: k) (S a) Q) : Go P (.loop c) k σ Q := by
  intro X hX
  refine ⟨S a0, h0, ?_⟩
  have key : ∀ n a, μ a < n → X (S a) := by
    intro n
    induction n with
    | zero => intro a h; omega
    | succ n ih =>
      intro a ha
      exact hX _ (step a X fun a' ha' => ih a' (by omega))
  exact key _ a0 (Nat.lt_succ_self _)
theorem GoL_nil : GoL P [] k σ Q = Re P k .normal σ Q := propext Iff.rfl
theorem GoL_call {N : Tmp} {f : FuncId} {as : Array Operand} {ats : Array TypeId} {ty : TypeId} {g : Option (Tmp × Bool)} {l : List SOp} {xs ret : List X}
    (hg : gdS σ.t ⟨some N, .call { callee := .value (.func f), args := as, argTypes := ats }, ty, g⟩ = some true) (hv : viewVs σ.o (as.toList.map (ev σ)) = some xs) (hf : PureFn P f xs ret)
    (hp : poR (retRow ret) = true) (hr : freshR σ.l (newRoots σ.d N 0 (retRow ret)) = true) (hk : GoL P l k (put (impSt σ N ret) (some N) (packT (impXs σ.d N 0 ret))) Q) :
    GoL P (⟨some N, .call { callee := .value (.func f), args := as, argTypes := ats }, ty, g⟩ :: l) k σ Q := by
  unfold GoL stepL
  rw [hg]
  exact .inl ⟨xs, ret, hv, hf, hp, hr, hk⟩
theorem GoL_sem {s : SOp} {l : List SOp} (hg : gdS σ.t s = some true) (hs : semOp s.op = true) (h : SemStep P s.oper σ fun σ' => GoL P l k σ' Q) (hal : ∀ t, s.op ≠ .alloc t ∨ bldT P t = true := by exact fun _ => .inl fun h => nomatch h) : GoL P (s :: l) k σ Q := by
  unfold GoL stepL
  rw [hg]
  simp only [wop]
  split
  · exact .inr h
  · exact h
  · exact h
  · exact h
  · rename_i t ho
    rw [if_pos ((hal t).resolve_left fun h => h ho)]; exact h
  · rename_i n1 n2 n3 n4 n5
    exfalso
    revert hs
    unfold semOp
    split
    · rename_i ho; exact fun _ => n1 _ _ _ ho
    · rename_i ho; exact fun _ => n2 _ _ ho
    · rename_i ho; exact fun _ => n3 _ _ _ _ ho
    · rename_i ho; exact fun _ => n4 _ _ _ _ ho
    · rename_i ho; exact fun _ => n5 _ ho
    · exact fun h => nomatch h
theorem GoD_nil {L : Store} : GoD P [] L k σ Q = Re P k .normal { σ with l := L ++ σ.l } Q := propext Iff.rfl
theorem GoD_call {N : Tmp} {f : FuncId} {as : Array Operand} {ats : Array TypeId} {ty : TypeId} {g : Option (Tmp × Bool)} {l : List SOp} {L : Store} {xs ret : List X}
    (hg : gdS σ.t ⟨some N, .call { callee := .value (.func f), args := as, argTypes := ats }, ty, g⟩ = some true) (hv : viewVs (selA as.toList L ++ σ.o) (as.toList.map (ev σ)) = some xs) (hf : PureFn P f xs ret)
    (hp : (poR (retRow ret) && short (retRow ret)) = true) (hr : freshR (L ++ σ.l) (newRoots σ.d N 0 (retRow ret)) = true)
    (hk : GoD P l (newRoots σ.d N 0 (retRow ret) ++ L) k (put σ (some N) (packT (impXs σ.d N 0 ret))) Q) :
    GoD P (⟨some N, .call { callee := .value (.func f), args := as, argTypes := ats }, ty, g⟩ :: l) L k σ Q := by
  unfold GoD drawL
  rw [if_neg (by simp [isEff]), hg]
  exact ⟨_, _, ⟨xs, ret, hv, hf, hp, rfl, rfl⟩, hr, hk⟩
theorem GoD_eff {s : SOp} {l : List SOp} {L : Store} (he : isEff s.op = true) : GoD P (s :: l) L k σ Q = GoL P (s :: l) k { σ with l := L ++ σ.l } Q := by
  unfold GoD GoL drawL
  rw [if_pos he]
theorem PureFn_of_GoW {f : FuncId} {fn : Func} {c : Code} (hf : P.funcs[f]? = some fn) (hb : fn.body = some c) (hn : fn.name ≠ "runtime.NumGoroutine") (hm : P.follows .mixedOrders = true) (hd : drawsOk c = true) {args ret : List X}
    (h : Go P (slim c) [] (enterSt fn args) fun e σ => (e = .normal ∨ e = .ret) ∧ ∃ σ', Weak σ σ' ∧ resOk P fn σ' ret) : PureFn P f args ret :=
  PureFn_of_WW hf hb hn wdraw_sound (WS_sound hm c hd _ _ h)
theorem PureFn_of_Go {f : FuncId} {fn : Func} {c : Code} (hf : P.funcs[f]? = some fn) (hb : fn.body = some c) (hn : fn.name ≠ "runtime.NumGoroutine") (hm : P.follows .mixedOrders = true) (hd : drawsOk c = true) {args ret : List X}
    (h : Go P (slim c) [] (enterSt fn args) fun e σ => (e = .normal ∨ e = .ret) ∧ resOk P fn σ ret) : PureFn P f args ret :=
  PureFn_of_WW hf hb hn wdraw_sound (Wmono c _ _ _ (fun _ _ hq => ⟨hq.1, _, Weak.refl _, hq.2⟩) (WS_sound hm c hd _ _ h))
theorem PureFn_of_GoWX (ids : List Nat) {f : FuncId} {fn : Func} {c : Code} (hf : P.funcs[f]? = some fn) (hb : fn.body = some c) (hn : fn.name ≠ "runtime.NumGoroutine") (hm : P.follows .mixedOrders = true) (hd : drawsOkX ids c = true) {args ret : List X}
    (h : Go P (slimX ids c) [] (enterSt fn args) fun e σ => (e = .normal ∨ e = .ret) ∧ ∃ σ', Weak σ σ' ∧ resOk P fn σ' ret) : PureFn P f args ret :=
  PureFn_of_WW hf hb hn wdraw_sound (WS_soundX ids hm c hd _ _ h)
section
variable {ops : List SOp} {deps : List (List Nat)} {K : St → Prop} {f : Nat} {done : List Nat} {σ : St}
end
theorem wop_plain {o : Oper} {σ : St} {K : St → Prop} (h : semOp o.op = false) : wop P o σ K ↔ ∃ σ', stepO P σ o = some σ' ∧ K σ' := by
  unfold wop
  split
  · rename_i ho; rw [ho] at h; cases h
  · rename_i ho; rw [ho] at h; cases h
  · rename_i ho; rw [ho] at h; cases h
  · rename_i ho; rw [ho] at h; cases h
  · rename_i ho; rw [ho] at h; cases h
  · exact Iff.rfl
theorem Go_anyF (fl : List Nat) {ops : List SOp} {deps : List (List Nat)} {σ : St} {k : List Fr} {Q : Ex → St → Prop} (hf : flS ops deps fl = true) (h : ∀ K, (∀ σ', Re P k .normal σ' Q → K σ') → AnyF P ops deps fl K ops.length [] σ) : Go P (.any ops deps) k σ Q :=
  .inr ⟨fl, hf, h _ fun _ h => h⟩
section
variable {ops : List SOp} {deps : List (List Nat)} {fl : List Nat} {K : St → Prop} {f : Nat} {done : List Nat} {σ : St}
theorem AnyF_end (hr : rdy deps done = []) (h : K σ) : AnyF P ops deps fl K 0 done σ := ⟨hr, h⟩
theorem AnyF_fl (i : Nat) {s : SOp} (hr : (rdy deps done).contains i = true) (hi : fl.contains i = true) (hs : ops[i]? = some s) (hc : semOp s.op = false)
    (h : GoL P [s] [] σ fun e σ' => e = .normal ∧ AnyF P ops deps fl K f (i :: done) σ') : AnyF P ops deps fl K (f + 1) done σ := by
  have hb : ∃ σ', stepG P σ s = some σ' ∧ AnyF P ops deps fl K f (i :: done) σ' := by
    unfold GoL stepL at h
    unfold stepG
    split at h
    · rename_i hg
      have h2 : ∃ σ', stepO P σ s.oper = some σ' ∧ stepL P [] σ' (fun σ' => Re P [] .normal σ' fun e σ' => e = .normal ∧ AnyF P ops deps fl K f (i :: done) σ') := by
        exact (wop_plain (o := s.oper) hc).1 h
      obtain ⟨σ', e1, e2⟩ := h2
      exact ⟨σ', e1, e2.2⟩
    · exact ⟨_, rfl, h.2⟩
    · exact h.elim
  obtain ⟨σ', h1, h2⟩ := hb
  exact .inl ⟨i, by simpa using hr, by simpa using hi, s, σ', hs, h1, h2⟩
theorem AnyF_op {j : Nat} {s : SOp} (hj : ops[j]? = some s)
    (h : GoL P [s] [] σ fun e σ' => e = .normal ∧ (∀ i ∈ pend deps fl (j :: done), fOkS P ops σ' i) ∧ AnyF P ops deps fl K f (j :: done) σ') : (match ops[j]? with
    | none => False
    | some s => match gdS σ.t s with
      | some true => wop P s.oper σ fun σ' => (∀ i ∈ pend deps fl (j :: done), fOkS P ops σ' i) ∧ AnyF P ops deps fl K f (j :: done) σ'
      | some false => (∀ i ∈ pend deps fl (j :: done), fOkS P ops (put σ s.dst (.x (.one (.v (.tuple #[]))))) i) ∧ AnyF P ops deps fl K f (j :: done) (put σ s.dst (.x (.one (.v (.tuple #[])))))
      | none => False) := by
  rw [hj]
  unfold GoL stepL at h
  simp only
  split at h
  · rename_i hg
    try simp only [hg]
    exact wop_mono (fun σ' h' => h'.2) h
  · rename_i hg
    try simp only [hg]
    exact h.2
  · exact h.elim
theorem allF_spec {σ : St} : ∀ {ps : List Nat}, allF P ops σ ps → ∀ i ∈ ps, fOkS P ops σ i
  | [], _, i, hi => absurd hi List.not_mem_nil
  | p :: ps, h, i, hi => by
    rcases List.mem_cons.1 hi with rfl | hi
    · exact h.1
    · exact allF_spec h.2 i hi
theorem allF_nil {σ : St} : allF P ops σ [] = True := propext Iff.rfl
theorem allF_cons {σ : St} {i : Nat} {ps : List Nat} : allF P ops σ (i :: ps) = (fOkS P ops σ i ∧ allF P ops σ ps) := propext Iff.rfl
theorem fOkS_eq {σ : St} {i : Nat} : fOkS P ops σ i = (match ops[i]? with
  | some s => stepG P σ s = some σ
  | none => False) := propext Iff.rfl
theorem GoL_allF {s : SOp} {ps : List Nat} {A : St → Prop} (h : GoL P [s] [] σ fun e σ' => e = .normal ∧ allF P ops σ' ps ∧ A σ') : GoL P [s] [] σ fun e σ' => e = .normal ∧ (∀ i ∈ ps, fOkS P ops σ' i) ∧ A σ' := by
  unfold GoL at *
  unfold stepL at *
  split at h
  · rename_i hg
    try simp only [hg]
    exact wop_mono (fun σ' h' => ⟨h'.1, allF_spec h'.2.1, h'.2.2⟩) h
  · rename_i hg
    try simp only [hg]
    exact ⟨h.1, allF_spec h.2.1, h.2.2⟩
  · exact h.elim
theorem AnyF_1 (j : Nat) {s : SOp} (ps : List Nat) (hr : rdy deps done = [j]) (hf : fl.contains j = false) (hs : ops[j]? = some s) (hp : pend deps fl (j :: done) = ps)
    (h : GoL P [s] [] σ fun e σ' => e = .normal ∧ allF P ops σ' ps ∧ AnyF P ops deps fl K f (j :: done) σ') : AnyF P ops deps fl K (f + 1) done σ := by
  refine .inr ⟨fun hn => (by rw [hr] at hn; cases hn), fun k hk => ?_⟩
  rw [hr] at hk
  obtain rfl := List.mem_singleton.1 hk
  exact ⟨by simpa using hf, AnyF_op hs (by rw [hp]; exact GoL_allF h)⟩
theorem AnyF_2 (j1 j2 : Nat) {s1 s2 : SOp} (ps1 ps2 : List Nat) (hr : rdy deps done = [j1, j2]) (hf : (fl.contains j1 || fl.contains j2) = false) (hs1 : ops[j1]? = some s1) (hs2 : ops[j2]? = some s2)
    (hp1 : pend deps fl (j1 :: done) = ps1) (hp2 : pend deps fl (j2 :: done) = ps2)
    (h1 : GoL P [s1] [] σ fun e σ' => e = .normal ∧ allF P ops σ' ps1 ∧ AnyF P ops deps fl K f (j1 :: done) σ')
    (h2 : GoL P [s2] [] σ fun e σ' => e = .normal ∧ allF P ops σ' ps2 ∧ AnyF P ops deps fl K f (j2 :: done) σ') : AnyF P ops deps fl K (f + 1) done σ := by
  rw [Bool.or_eq_false_iff] at hf
  refine .inr ⟨fun hn => (by rw [hr] at hn; cases hn), fun k hk => ?_⟩
  rw [hr] at hk
  rcases List.mem_cons.1 hk with rfl | hk
  · exact ⟨by simpa using hf.1, AnyF_op hs1 (by rw [hp1]; exact GoL_allF h1)⟩
  · obtain rfl := List.mem_singleton.1 hk
    exact ⟨by simpa using hf.2, AnyF_op hs2 (by rw [hp2]; exact GoL_allF h2)⟩
end
end
end Go.Rx
namespace Go.Rx
open Go.RowKit
abbrev isCall := semOp
def opG (P : Program) (σ : St) (s : SOp) : Option V :=
  match gdS σ.t s with
  | some true => opW P σ s.oper
  | some false => some (.x (.one (.v (.tuple #[]))))
  | none => none
def GoM (P : Program) (s : Option St) (l : List SOp) (k : List Fr) (Q : Ex → St → Prop) : Prop :=
  match s with
  | some σ => GoL P l k σ Q
  | none => False
def GoN (P : Program) (v : Option V) (dst : Option Tmp) (l : List SOp) (L : Store) (k : List Fr) (σ : St) (Q : Ex → St → Prop) : Prop :=
  match v with
  | some v => GoD P l L k (put σ dst v) Q
  | none => False
def GoC (P : Program) (v : Option Value) (x y : SC) (k : List Fr) (σ : St) (Q : Ex → St → Prop) : Prop :=
  match v with
  | some (.bool t) => (t = true → Go P x k σ Q) ∧ (t = false → Go P y k σ Q)
  | _ => False
section
variable {P : Program} {k : List Fr} {σ : St} {Q : Ex → St → Prop} {l : List SOp} {s : SOp} {L : Store}
theorem Go_test {c : Operand} {x y : SC} : Go P (.cond c x y) k σ Q = GoC P (plain (ev σ c)) x y k σ Q := by
  rw [Go_cond_eq]
  unfold GoC
  apply propext
  constructor
  · rintro ⟨t, h1, h2⟩
    rw [h1]; exact h2
  · intro h
    split at h
    · rename_i t ht; exact ⟨t, ht, h⟩
    · exact h.elim
theorem GoC_true {x y : SC} : GoC P (some (.bool true)) x y k σ Q = Go P x k σ Q := by simp [GoC]
theorem GoC_false {x y : SC} : GoC P (some (.bool false)) x y k σ Q = Go P y k σ Q := by simp [GoC]
theorem isCall_spec {op : Op} (h : isCall op = false) : ∀ f as ats, op ≠ .call { callee := .value (.func f), args := as, argTypes := ats } := by
  intro f as ats e; subst e; cases h
theorem isCall_map {op : Op} (h : isCall op = false) : (∀ t r, op ≠ .makeMap t r) ∧ (∀ a b c d, op ≠ .lookup a b c d) ∧ (∀ a b c d, op ≠ .mapUpdate a b c d) ∧ ∀ t, op ≠ .alloc t :=
  ⟨fun _ _ e => (by subst e; cases h), fun _ _ _ _ e => (by subst e; cases h), fun _ _ _ _ e => (by subst e; cases h), fun _ e => (by subst e; cases h)⟩
theorem GoL_eq0 (h : isCall s.op = false) : GoL P (s :: l) k σ Q = GoM P (stepG P σ s) l k Q := by
  have hs := isCall_spec h
  unfold GoL stepL stepG GoM
  cases hg : gdS σ.t s with
  | none => rfl
  | some b =>
    cases b with
    | false => rfl
    | true =>
      simp only
      apply propext
      constructor
      · intro hw
        unfold wop at hw
        split at hw
        · rename_i f as ats ho; exact absurd ho (hs f as ats)
        · rename_i ho; exact absurd ho ((isCall_map h).1 _ _)
        · rename_i ho; exact absurd ho ((isCall_map h).2.1 _ _ _ _)
        · rename_i ho; exact absurd ho ((isCall_map h).2.2.1 _ _ _ _)
        · rename_i ho; exact absurd ho ((isCall_map h).2.2.2 _)
        · obtain ⟨σ', h1, h2⟩ := hw
          rw [h1]; exact h2
      · intro hw
        split at hw
        · rename_i σ' h1
          unfold wop
          split
          · rename_i f as ats ho; exact absurd ho (hs f as ats)
          · rename_i ho; exact absurd ho ((isCall_map h).1 _ _)
          · rename_i ho; exact absurd ho ((isCall_map h).2.1 _ _ _ _)
          · rename_i ho; exact absurd ho ((isCall_map h).2.2.1 _ _ _ _)
          · rename_i ho; exact absurd ho ((isCall_map h).2.2.2 _)
          · exact ⟨σ', h1, hw⟩
        · exact hw.elim
theorem GoM_some {σ' : St} : GoM P (some σ') l k Q = GoL P l k σ' Q := propext Iff.rfl
def isAl : Op → Bool
  | .alloc _ => true
  | .buildSlice _ _ _ => true
  | _ => false
theorem GoD_eq0 (h : isCall s.op = false) (he : isEff s.op = false) (hA : isAl s.op = false) : GoD P (s :: l) L k σ Q = GoN P (opG P σ s) s.dst l L k σ Q := by
  have hs := isCall_spec h
  unfold GoD drawL opG GoN
  rw [if_neg (by rw [he]; simp)]
  cases hg : gdS σ.t s with
  | none => rfl
  | some b =>
    cases b with
    | false => rfl
    | true =>
      simp only
      apply propext
      constructor
      · rintro ⟨v, m, h1, h2, h3⟩
        unfold OpE at h1
        split at h1
        · rename_i f as ats ho; exact absurd ho (hs f as ats)
        · rename_i t ho; rw [SOp.oper] at ho; simp only at ho; rw [ho] at hA; cases hA
        · rename_i t ps ho; rw [SOp.oper] at ho; simp only at ho; rw [ho] at hA; cases hA
        · rename_i t n ps ho; rw [SOp.oper] at ho; simp only at ho; rw [ho] at hA; cases hA
        · obtain ⟨e1, rfl⟩ := h1
          rw [e1]; exact h3
      · intro hw
        split at hw
        · rename_i v h1
          refine ⟨v, [], ?_, rfl, hw⟩
          unfold OpE
          split
          · rename_i f as ats ho; exact absurd ho (hs f as ats)
          · rename_i t ho; rw [SOp.oper] at ho; simp only at ho; rw [ho] at hA; cases hA
          · rename_i t ps ho; rw [SOp.oper] at ho; simp only at ho; rw [ho] at hA; cases hA
          · rename_i t n ps ho; rw [SOp.oper] at ho; simp only at ho; rw [ho] at hA; cases hA
          · exact ⟨h1, rfl⟩
        · exact hw.elim
theorem GoL_eq {d : Option Tmp} {op : Op} {ty : TypeId} {g : Option (Tmp × Bool)} (h : isCall op = false) : GoL P (⟨d, op, ty, g⟩ :: l) k σ Q = GoM P (stepG P σ ⟨d, op, ty, g⟩) l k Q := GoL_eq0 h
theorem GoD_eq {d : Option Tmp} {op : Op} {ty : TypeId} {g : Option (Tmp × Bool)} (h : isCall op = false) (he : isEff op = false) (hA : isAl op = false) : GoD P (⟨d, op, ty, g⟩ :: l) L k σ Q = GoN P (opG P σ ⟨d, op, ty, g⟩) d l L k σ Q := GoD_eq0 h he hA
theorem nc_box {e : TypeId} {x : Operand} : isCall (.box e x) = false := rfl
theorem GoL_eqA {d : Option Tmp} {t ty : TypeId} {g : Option (Tmp × Bool)} (h : bldT P t = false) : GoL P (⟨d, .alloc t, ty, g⟩ :: l) k σ Q = GoM P (stepG P σ ⟨d, .alloc t, ty, g⟩) l k Q := by
  unfold GoL stepL stepG GoM
  cases hg : gdS σ.t ⟨d, .alloc t, ty, g⟩ with
  | none => rfl
  | some b =>
    cases b with
    | false => rfl
    | true =>
      simp only
      apply propext
      have hw : ∀ K, wop P (SOp.oper ⟨d, .alloc t, ty, g⟩) σ K = ∃ σ', stepO P σ (SOp.oper ⟨d, .alloc t, ty, g⟩) = some σ' ∧ K σ' := fun K => by
        show (if bldT P t = true then _ else _) = _
        rw [if_neg (by rw [h]; simp)]
      rw [hw]
      constructor
      · rintro ⟨σ', h1, h2⟩
        rw [h1]; exact h2
      · intro hw
        split at hw
        · rename_i σ' h1
          exact ⟨σ', h1, hw⟩
        · exact hw.elim
theorem bldZ_nil : bldZ [] = false := rfl
theorem bldZ_one {x : Value} : bldZ [x] = false := rfl
theorem bldZ_two {x y : Value} : bldZ [x, y] = (isNilP x && isNilS y) := rfl
theorem bldZ_more {x y z : Value} {vs : List Value} : bldZ (x :: y :: z :: vs) = false := rfl
theorem isNilP_int {k : IntKind} {n : Int} : isNilP (.int k n) = false := rfl
theorem isNilP_str {s : ByteArray} : isNilP (.string s) = false := rfl
theorem isNilP_bool {b : Bool} : isNilP (.bool b) = false := rfl
theorem isNilP_slice {a : Option Addr} {n m : Nat} : isNilP (.slice a n m) = false := rfl
theorem isNilS_int {k : IntKind} {n : Int} : isNilS (.int k n) = false := rfl
theorem isNilS_str {s : ByteArray} : isNilS (.string s) = false := rfl
theorem isNilS_bool {b : Bool} : isNilS (.bool b) = false := rfl
theorem isNilS_ptr {a : Option Addr} : isNilS (.pointer a) = false := rfl
theorem bldT_eq {t : TypeId} : bldT P t = match tyZero P t with
  | some zs => bldZ zs
  | none => false := rfl
theorem isNilP_map {a : Option Nat} : isNilP (.map a) = false := rfl
theorem isNilP_func : isNilP .nilFunc = false := rfl
theorem isNilP_iface : isNilP .nilIface = false := rfl
theorem isNilP_ptr : isNilP (.pointer none) = true := rfl
theorem isNilS_map {a : Option Nat} : isNilS (.map a) = false := rfl
theorem isNilS_func : isNilS .nilFunc = false := rfl
theorem isNilS_iface : isNilS .nilIface = false := rfl
theorem isNilS_slice {n m : Nat} : isNilS (.slice none n m) = true := rfl
attribute [push_cast] bldT_eq bldZ_nil bldZ_one bldZ_two bldZ_more isNilP_int isNilP_str isNilP_bool isNilP_slice isNilP_map isNilP_func isNilP_iface isNilP_ptr isNilS_int isNilS_str isNilS_bool isNilS_ptr isNilS_map isNilS_func isNilS_iface isNilS_slice
theorem nc_makeSlice {t : TypeId} {x y : Operand} : isCall (.makeSlice t x y) = false := rfl
theorem nc_store {t : TypeId} {x y : Operand} : isCall (.store t x y) = false := rfl
theorem nc_move {x : Operand} : isCall (.move x) = false := rfl
theorem nc_assign {x : Operand} : isCall (.assign x) = false := rfl
theorem nc_pick {c x y : Operand} : isCall (.pick c x y) = false := rfl
theorem nc_nilCheck {x : Operand} : isCall (.nilCheck x) = false := rfl
theorem nc_binOp {o : BinOp} {t u : TypeId} {x y : Operand} : isCall (.binOp o t x y u) = false := rfl
theorem nc_unOp {o : UnOp} {t : TypeId} {x : Operand} : isCall (.unOp o t x) = false := rfl
theorem nc_convert {t u : TypeId} {x : Operand} : isCall (.convert t u x) = false := rfl
theorem nc_field {t : TypeId} {x : Operand} {f : Nat} : isCall (.field t x f) = false := rfl
theorem nc_extract {x : Operand} {i : Nat} : isCall (.extract x i) = false := rfl
theorem nc_index {t : TypeId} {x i : Operand} : isCall (.index t x i) = false := rfl
theorem nc_fieldAddr {t : TypeId} {x : Operand} {f : Nat} : isCall (.fieldAddr t x f) = false := rfl
theorem nc_indexAddr {t : TypeId} {x i : Operand} : isCall (.indexAddr t x i) = false := rfl
theorem nc_slice {t : TypeId} {x : Operand} {lo hi mx : Option Operand} : isCall (.slice t x lo hi mx) = false := rfl
theorem nc_load {t : TypeId} {x : Operand} : isCall (.load t x) = false := rfl
theorem nc_build {t : TypeId} {ps : Array (Nat × Operand)} : isCall (.build t ps) = false := rfl
theorem nc_buildSlice {t n : Nat} {ps : Array (Nat × Operand)} : isCall (.buildSlice t n ps) = false := rfl
theorem nc_built {b : Builtin} {as : Array Operand} {ats : Array TypeId} : isCall (.call { callee := .builtin b, args := as, argTypes := ats }) = false := rfl
theorem gL_box {d : Option Tmp} {ty : TypeId} {gg : Option (Tmp × Bool)} {e : TypeId} {x : Operand} : GoL P (⟨d, .box e x, ty, gg⟩ :: l) k σ Q = GoM P (stepG P σ ⟨d, .box e x, ty, gg⟩) l k Q := GoL_eq nc_box
theorem gD_box {d : Option Tmp} {ty : TypeId} {gg : Option (Tmp × Bool)} {e : TypeId} {x : Operand} : GoD P (⟨d, .box e x, ty, gg⟩ :: l) L k σ Q = GoL P (⟨d, .box e x, ty, gg⟩ :: l) k ⟨σ.t, σ.d, L ++ σ.l, σ.g⟩ Q := GoD_eff rfl
theorem gL_alloc {d : Option Tmp} {ty : TypeId} {gg : Option (Tmp × Bool)} {e : TypeId} (h : bldT P e = false) : GoL P (⟨d, .alloc e, ty, gg⟩ :: l) k σ Q = GoM P (stepG P σ ⟨d, .alloc e, ty, gg⟩) l k Q := GoL_eqA h
theorem gD_alloc {d : Option Tmp} {ty : TypeId} {e : TypeId} : GoD P (⟨d, .alloc e, ty, none⟩ :: l) L k σ Q = match d, tyZero P e with
    | some N, some zs => if (getA (L ++ σ.l) (σ.d, N * 64)).isNone = true then GoD P l (((σ.d, N * 64), ⟨.box, zs.length, [zs.map .v]⟩) :: L) k (put σ (some N) (ptV σ N zs.length)) Q else False
    | _, _ => False := by
  apply propext
  show (∃ v m, OpE P σ L (SOp.oper ⟨d, .alloc e, ty, none⟩) v m ∧ freshR (L ++ σ.l) m = true ∧ GoD P l (m ++ L) k (put σ d v) Q) ↔ _
  constructor
  · rintro ⟨v, m, h1, h2, h3⟩
    unfold OpE at h1
    simp only [SOp.oper] at h1
    split at h1
    · rename_i N zs hz
      obtain ⟨rfl, rfl⟩ := h1
      simp only [freshR, Bool.and_true] at h2
      try simp only [hz]
      rw [if_pos h2]; exact h3
    · exact h1.elim
  · intro h
    split at h
    · rename_i N zs hz
      split at h
      · rename_i hf
        refine ⟨ptV σ N zs.length, [((σ.d, N * 64), ⟨.box, zs.length, [zs.map .v]⟩)], ?_, ?_, h⟩
        · unfold OpE
          simp [SOp.oper, hz]
        · simp only [freshR, Bool.and_true]; exact hf
      · exact h.elim
    · exact h.elim
theorem gL_makeSlice {d : Option Tmp} {ty : TypeId} {gg : Option (Tmp × Bool)} {t : TypeId} {x y : Operand} : GoL P (⟨d, .makeSlice t x y, ty, gg⟩ :: l) k σ Q = GoM P (stepG P σ ⟨d, .makeSlice t x y, ty, gg⟩) l k Q := GoL_eq nc_makeSlice
theorem gD_makeSlice {d : Option Tmp} {ty : TypeId} {gg : Option (Tmp × Bool)} {t : TypeId} {x y : Operand} : GoD P (⟨d, .makeSlice t x y, ty, gg⟩ :: l) L k σ Q = GoL P (⟨d, .makeSlice t x y, ty, gg⟩ :: l) k ⟨σ.t, σ.d, L ++ σ.l, σ.g⟩ Q := GoD_eff rfl
theorem gL_store {d : Option Tmp} {ty : TypeId} {gg : Option (Tmp × Bool)} {t : TypeId} {x y : Operand} : GoL P (⟨d, .store t x y, ty, gg⟩ :: l) k σ Q = GoM P (stepG P σ ⟨d, .store t x y, ty, gg⟩) l k Q := GoL_eq nc_store
theorem gD_store {d : Option Tmp} {ty : TypeId} {gg : Option (Tmp × Bool)} {t : TypeId} {x y : Operand} : GoD P (⟨d, .store t x y, ty, gg⟩ :: l) L k σ Q = GoL P (⟨d, .store t x y, ty, gg⟩ :: l) k ⟨σ.t, σ.d, L ++ σ.l, σ.g⟩ Q := GoD_eff rfl
theorem gL_move {d : Option Tmp} {ty : TypeId} {gg : Option (Tmp × Bool)} {x : Operand} : GoL P (⟨d, .move x, ty, gg⟩ :: l) k σ Q = GoM P (stepG P σ ⟨d, .move x, ty, gg⟩) l k Q := GoL_eq nc_move
theorem gD_move {d : Option Tmp} {ty : TypeId} {gg : Option (Tmp × Bool)} {x : Operand} : GoD P (⟨d, .move x, ty, gg⟩ :: l) L k σ Q = GoN P (opG P σ ⟨d, .move x, ty, gg⟩) d l L k σ Q := GoD_eq nc_move rfl rfl
theorem gL_assign {d : Option Tmp} {ty : TypeId} {gg : Option (Tmp × Bool)} {x : Operand} : GoL P (⟨d, .assign x, ty, gg⟩ :: l) k σ Q = GoM P (stepG P σ ⟨d, .assign x, ty, gg⟩) l k Q := GoL_eq nc_assign
theorem gD_assign {d : Option Tmp} {ty : TypeId} {gg : Option (Tmp × Bool)} {x : Operand} : GoD P (⟨d, .assign x, ty, gg⟩ :: l) L k σ Q = GoN P (opG P σ ⟨d, .assign x, ty, gg⟩) d l L k σ Q := GoD_eq nc_assign rfl rfl
theorem gL_pick {d : Option Tmp} {ty : TypeId} {gg : Option (Tmp × Bool)} {c x y : Operand} : GoL P (⟨d, .pick c x y, ty, gg⟩ :: l) k σ Q = GoM P (stepG P σ ⟨d, .pick c x y, ty, gg⟩) l k Q := GoL_eq nc_pick
theorem gD_pick {d : Option Tmp} {ty : TypeId} {gg : Option (Tmp × Bool)} {c x y : Operand} : GoD P (⟨d, .pick c x y, ty, gg⟩ :: l) L k σ Q = GoN P (opG P σ ⟨d, .pick c x y, ty, gg⟩) d l L k σ Q := GoD_eq nc_pick rfl rfl
theorem gL_nilCheck {d : Option Tmp} {ty : TypeId} {gg : Option (Tmp × Bool)} {x : Operand} : GoL P (⟨d, .nilCheck x, ty, gg⟩ :: l) k σ Q = GoM P (stepG P σ ⟨d, .nilCheck x, ty, gg⟩) l k Q := GoL_eq nc_nilCheck
theorem gD_nilCheck {d : Option Tmp} {ty : TypeId} {gg : Option (Tmp × Bool)} {x : Operand} : GoD P (⟨d, .nilCheck x, ty, gg⟩ :: l) L k σ Q = GoN P (opG P σ ⟨d, .nilCheck x, ty, gg⟩) d l L k σ Q := GoD_eq nc_nilCheck rfl rfl
theorem gL_binOp {d : Option Tmp} {ty : TypeId} {gg : Option (Tmp × Bool)} {o : BinOp} {t u : TypeId} {x y : Operand} : GoL P (⟨d, .binOp o t x y u, ty, gg⟩ :: l) k σ Q = GoM P (stepG P σ ⟨d, .binOp o t x y u, ty, gg⟩) l k Q := GoL_eq nc_binOp
theorem gD_binOp {d : Option Tmp} {ty : TypeId} {gg : Option (Tmp × Bool)} {o : BinOp} {t u : TypeId} {x y : Operand} : GoD P (⟨d, .binOp o t x y u, ty, gg⟩ :: l) L k σ Q = GoN P (opG P σ ⟨d, .binOp o t x y u, ty, gg⟩) d l L k σ Q := GoD_eq nc_binOp rfl rfl
theorem gL_unOp {d : Option Tmp} {ty : TypeId} {gg : Option (Tmp × Bool)} {o : UnOp} {t : TypeId} {x : Operand} : GoL P (⟨d, .unOp o t x, ty, gg⟩ :: l) k σ Q = GoM P (stepG P σ ⟨d, .unOp o t x, ty, gg⟩) l k Q := GoL_eq nc_unOp
theorem gD_unOp {d : Option Tmp} {ty : TypeId} {gg : Option (Tmp × Bool)} {o : UnOp} {t : TypeId} {x : Operand} : GoD P (⟨d, .unOp o t x, ty, gg⟩ :: l) L k σ Q = GoN P (opG P σ ⟨d, .unOp o t x, ty, gg⟩) d l L k σ Q := GoD_eq nc_unOp rfl rfl
theorem gL_convert {d : Option Tmp} {ty : TypeId} {gg : Option (Tmp × Bool)} {t u : TypeId} {x : Operand} : GoL P (⟨d, .convert t u x, ty, gg⟩ :: l) k σ Q = GoM P (stepG P σ ⟨d, .convert t u x, ty, gg⟩) l k Q := GoL_eq nc_convert
theorem gD_convert {d : Option Tmp} {ty : TypeId} {gg : Option (Tmp × Bool)} {t u : TypeId} {x : Operand} : GoD P (⟨d, .convert t u x, ty, gg⟩ :: l) L k σ Q = GoN P (opG P σ ⟨d, .convert t u x, ty, gg⟩) d l L k σ Q := GoD_eq nc_convert rfl rfl
theorem gL_field {d : Option Tmp} {ty : TypeId} {gg : Option (Tmp × Bool)} {t : TypeId} {x : Operand} {f : Nat} : GoL P (⟨d, .field t x f, ty, gg⟩ :: l) k σ Q = GoM P (stepG P σ ⟨d, .field t x f, ty, gg⟩) l k Q := GoL_eq nc_field
theorem gD_field {d : Option Tmp} {ty : TypeId} {gg : Option (Tmp × Bool)} {t : TypeId} {x : Operand} {f : Nat} : GoD P (⟨d, .field t x f, ty, gg⟩ :: l) L k σ Q = GoN P (opG P σ ⟨d, .field t x f, ty, gg⟩) d l L k σ Q := GoD_eq nc_field rfl rfl
theorem gL_extract {d : Option Tmp} {ty : TypeId} {gg : Option (Tmp × Bool)} {x : Operand} {i : Nat} : GoL P (⟨d, .extract x i, ty, gg⟩ :: l) k σ Q = GoM P (stepG P σ ⟨d, .extract x i, ty, gg⟩) l k Q := GoL_eq nc_extract
theorem gD_extract {d : Option Tmp} {ty : TypeId} {gg : Option (Tmp × Bool)} {x : Operand} {i : Nat} : GoD P (⟨d, .extract x i, ty, gg⟩ :: l) L k σ Q = GoN P (opG P σ ⟨d, .extract x i, ty, gg⟩) d l L k σ Q := GoD_eq nc_extract rfl rfl
theorem gL_index {d : Option Tmp} {ty : TypeId} {gg : Option (Tmp × Bool)} {t : TypeId} {x i : Operand} : GoL P (⟨d, .index t x i, ty, gg⟩ :: l) k σ Q = GoM P (stepG P σ ⟨d, .index t x i, ty, gg⟩) l k Q := GoL_eq nc_index
theorem gD_index {d : Option Tmp} {ty : TypeId} {gg : Option (Tmp × Bool)} {t : TypeId} {x i : Operand} : GoD P (⟨d, .index t x i, ty, gg⟩ :: l) L k σ Q = GoN P (opG P σ ⟨d, .index t x i, ty, gg⟩) d l L k σ Q := GoD_eq nc_index rfl rfl
theorem gL_fieldAddr {d : Option Tmp} {ty : TypeId} {gg : Option (Tmp × Bool)} {t : TypeId} {x : Operand} {f : Nat} : GoL P (⟨d, .fieldAddr t x f, ty, gg⟩ :: l) k σ Q = GoM P (stepG P σ ⟨d, .fieldAddr t x f, ty, gg⟩) l k Q := GoL_eq nc_fieldAddr
theorem gD_fieldAddr {d : Option Tmp} {ty : TypeId} {gg : Option (Tmp × Bool)} {t : TypeId} {x : Operand} {f : Nat} : GoD P (⟨d, .fieldAddr t x f, ty, gg⟩ :: l) L k σ Q = GoN P (opG P σ ⟨d, .fieldAddr t x f, ty, gg⟩) d l L k σ Q := GoD_eq nc_fieldAddr rfl rfl
theorem gL_indexAddr {d : Option Tmp} {ty : TypeId} {gg : Option (Tmp × Bool)} {t : TypeId} {x i : Operand} : GoL P (⟨d, .indexAddr t x i, ty, gg⟩ :: l) k σ Q = GoM P (stepG P σ ⟨d, .indexAddr t x i, ty, gg⟩) l k Q := GoL_eq nc_indexAddr
theorem gD_indexAddr {d : Option Tmp} {ty : TypeId} {gg : Option (Tmp × Bool)} {t : TypeId} {x i : Operand} : GoD P (⟨d, .indexAddr t x i, ty, gg⟩ :: l) L k σ Q = GoN P (opG P σ ⟨d, .indexAddr t x i, ty, gg⟩) d l L k σ Q := GoD_eq nc_indexAddr rfl rfl
theorem gL_slice {d : Option Tmp} {ty : TypeId} {gg : Option (Tmp × Bool)} {t : TypeId} {x : Operand} {lo hi mx : Option Operand} : GoL P (⟨d, .slice t x lo hi mx, ty, gg⟩ :: l) k σ Q = GoM P (stepG P σ ⟨d, .slice t x lo hi mx, ty, gg⟩) l k Q := GoL_eq nc_slice
theorem gD_slice {d : Option Tmp} {ty : TypeId} {gg : Option (Tmp × Bool)} {t : TypeId} {x : Operand} {lo hi mx : Option Operand} : GoD P (⟨d, .slice t x lo hi mx, ty, gg⟩ :: l) L k σ Q = GoN P (opG P σ ⟨d, .slice t x lo hi mx, ty, gg⟩) d l L k σ Q := GoD_eq nc_slice rfl rfl
theorem gL_load {d : Option Tmp} {ty : TypeId} {gg : Option (Tmp × Bool)} {t : TypeId} {x : Operand} : GoL P (⟨d, .load t x, ty, gg⟩ :: l) k σ Q = GoM P (stepG P σ ⟨d, .load t x, ty, gg⟩) l k Q := GoL_eq nc_load
theorem gD_load {d : Option Tmp} {ty : TypeId} {gg : Option (Tmp × Bool)} {t : TypeId} {x : Operand} : GoD P (⟨d, .load t x, ty, gg⟩ :: l) L k σ Q = GoN P (opG P σ ⟨d, .load t x, ty, gg⟩) d l L k σ Q := GoD_eq nc_load rfl rfl
theorem gL_build {d : Option Tmp} {ty : TypeId} {gg : Option (Tmp × Bool)} {t : TypeId} {ps : Array (Nat × Operand)} : GoL P (⟨d, .build t ps, ty, gg⟩ :: l) k σ Q = GoM P (stepG P σ ⟨d, .build t ps, ty, gg⟩) l k Q := GoL_eq nc_build
theorem gD_build {d : Option Tmp} {ty : TypeId} {gg : Option (Tmp × Bool)} {t : TypeId} {ps : Array (Nat × Operand)} : GoD P (⟨d, .build t ps, ty, gg⟩ :: l) L k σ Q = GoN P (opG P σ ⟨d, .build t ps, ty, gg⟩) d l L k σ Q := GoD_eq nc_build rfl rfl
theorem gL_buildSlice {d : Option Tmp} {ty : TypeId} {gg : Option (Tmp × Bool)} {t n : Nat} {ps : Array (Nat × Operand)} : GoL P (⟨d, .buildSlice t n ps, ty, gg⟩ :: l) k σ Q = GoM P (stepG P σ ⟨d, .buildSlice t n ps, ty, gg⟩) l k Q := GoL_eq nc_buildSlice
theorem gD_lits {d : Option Tmp} {ty : TypeId} {t n : Nat} {ps : Array (Nat × Operand)} (hn : n ≠ 0) : GoD P (⟨d, .buildSlice t n ps, ty, none⟩ :: l) L k σ Q =
    match d, litR P t n (ps.toList.map fun p => (p.1, ev σ p.2)) with
    | some N, some p => if (getA (L ++ σ.l) (σ.d, N * 64)).isNone = true then GoD P l (((σ.d, N * 64), ⟨.sl, p.1, p.2⟩) :: L) k (put σ (some N) (slV σ N p.1 n)) Q else False
    | _, _ => GoN P (buildW P t n (ps.toList.map fun p => (p.1, ev σ p.2))) d l L k σ Q := by
  obtain ⟨n, rfl⟩ : ∃ m, n = m + 1 := ⟨n - 1, by omega⟩
  apply propext
  show (∃ v m, OpE P σ L (SOp.oper ⟨d, .buildSlice t (n + 1) ps, ty, none⟩) v m ∧ freshR (L ++ σ.l) m = true ∧ GoD P l (m ++ L) k (put σ d v) Q) ↔ _
  constructor
  · rintro ⟨v, m, h1, h2, h3⟩
    unfold OpE at h1
    simp only [SOp.oper] at h1
    split at h1
    · rename_i N p hz
      obtain ⟨rfl, rfl⟩ := h1
      simp only [freshR, Bool.and_true] at h2
      try simp only [hz]
      rw [if_pos h2]; exact h3
    · rename_i hz
      obtain ⟨h4, rfl⟩ := h1
      have h5 : buildW P t (n + 1) (ps.toList.map fun p => (p.1, ev σ p.2)) = some v := h4
      first
        | (rw [h5]; exact h3)
        | (split <;> first | (rename_i N p hp; exact absurd hp (fun h => hz N p rfl h)) | (rw [h5]; exact h3))
  · intro h
    split at h
    · rename_i N p hz
      split at h
      · rename_i hf
        refine ⟨slV σ N p.1 (n + 1), [((σ.d, N * 64), ⟨.sl, p.1, p.2⟩)], ?_, ?_, h⟩
        · unfold OpE
          simp [SOp.oper, hz]
        · simp only [freshR, Bool.and_true]; exact hf
      · exact h.elim
    · rename_i hz
      unfold GoN at h
      split at h
      · rename_i v hv
        refine ⟨v, [], ?_, rfl, h⟩
        unfold OpE
        simp only [SOp.oper]
        exact ⟨hv, trivial⟩
      · exact h.elim
theorem gD_lit0 {d : Option Tmp} {ty : TypeId} {t : Nat} : GoD P (⟨d, .buildSlice t 0 #[], ty, none⟩ :: l) L k σ Q = match d, lit0 P t with
    | some N, some sz => if (getA (L ++ σ.l) (σ.d, N * 64)).isNone = true then GoD P l (((σ.d, N * 64), ⟨.sl, sz, []⟩) :: L) k (put σ (some N) (slV σ N sz 0)) Q else False
    | _, _ => False := by
  apply propext
  show (∃ v m, OpE P σ L (SOp.oper ⟨d, .buildSlice t 0 #[], ty, none⟩) v m ∧ freshR (L ++ σ.l) m = true ∧ GoD P l (m ++ L) k (put σ d v) Q) ↔ _
  constructor
  · rintro ⟨v, m, h1, h2, h3⟩
    unfold OpE at h1
    simp only [SOp.oper] at h1
    split at h1
    · rename_i N sz hz
      obtain ⟨_, rfl, rfl⟩ := h1
      simp only [freshR, Bool.and_true] at h2
      try simp only [hz]
      rw [if_pos h2]; exact h3
    · exact h1.elim
  · intro h
    split at h
    · rename_i N sz hz
      split at h
      · rename_i hf
        refine ⟨slV σ N sz 0, [((σ.d, N * 64), ⟨.sl, sz, []⟩)], ?_, ?_, h⟩
        · unfold OpE
          simp [SOp.oper, hz]
        · simp only [freshR, Bool.and_true]; exact hf
      · exact h.elim
    · exact h.elim
theorem gL_built {d : Option Tmp} {ty : TypeId} {gg : Option (Tmp × Bool)} {b : Builtin} {as : Array Operand} {ats : Array TypeId} : GoL P (⟨d, .call { callee := .builtin b, args := as, argTypes := ats }, ty, gg⟩ :: l) k σ Q = GoM P (stepG P σ ⟨d, .call { callee := .builtin b, args := as, argTypes := ats }, ty, gg⟩) l k Q := GoL_eq nc_built
theorem gD_built {d : Option Tmp} {ty : TypeId} {gg : Option (Tmp × Bool)} {b : Builtin} {as : Array Operand} {ats : Array TypeId} (he : isEff (.call { callee := .builtin b, args := as, argTypes := ats }) = false) : GoD P (⟨d, .call { callee := .builtin b, args := as, argTypes := ats }, ty, gg⟩ :: l) L k σ Q = GoN P (opG P σ ⟨d, .call { callee := .builtin b, args := as, argTypes := ats }, ty, gg⟩) d l L k σ Q := GoD_eq nc_built he rfl
theorem GoN_some {v : V} {dst : Option Tmp} : GoN P (some v) dst l L k σ Q = GoD P l L k (put σ dst v) Q := propext Iff.rfl
def GoNK (P : Program) (ks : List Tmp) (v : Option V) (dst : Option Tmp) (l : List SOp) (L : Store) (k : List Fr) (σ : St) (Q : Ex → St → Prop) : Prop :=
  match v with
  | some v => cleanV σ.d ks dst v = true ∧ GoK P ks l L k (put σ dst v) Q
  | none => False
section
variable {ks : List Tmp}
def mkOp : Op → Bool
  | .buildSlice _ 0 _ => true
  | .call { callee := .builtin .append, args := _, argTypes := _ } => true
  | _ => false
def madeS : List SOp → Tmp → Bool
  | [], _ => false
  | s :: l, t => (decide (s.dst = some t) && mkOp s.op) || madeS l t
theorem madeS_eq : ∀ (l : List SOp) (t : Tmp), madeB (slB l) t = madeS l t
  | [], _ => rfl
  | s :: l, t => by
    have ih := madeS_eq l t
    unfold madeB slB at *
    rw [List.map_cons, List.any_cons, ih, madeS]
    congr 1
    by_cases h : s.dst = some t
    · rw [decide_eq_true h]; simp only [h, beq_self_eq_true, Bool.true_and]; rfl
    · rw [decide_eq_false h]; simp [h]
def ksF : List Tmp → List SOp → List Tmp
  | [], _ => []
  | t :: ts, l => if madeS l t = true then t :: ksF ts l else ksF ts l
theorem ksOf_eq (l : List SOp) : ksOf l = ksF (appTs l) l := by
  unfold ksOf
  generalize appTs l = ts
  induction ts with
  | nil => rfl
  | cons t ts ih =>
    rw [List.filter_cons, madeS_eq, ih, ksF]
theorem appTs_nil : appTs [] = [] := rfl
theorem appTs_cons (s : SOp) (l : List SOp) : appTs (s :: l) = match s.op with
    | .call { callee := .builtin .append, args := as, argTypes := _ } => match as.toList with
      | .tmp t :: _ => t :: appTs l
      | _ => appTs l
    | _ => appTs l := rfl
theorem cleanV_tuple (dst : Option Tmp) (d : Nat) : cleanV d ks dst (.x (.one (.v (.tuple #[])))) = true := by
  unfold cleanV; rw [List.all_eq_true]; intro t _; simp [hasV, hasX, hasC]
theorem cleanV_nil {d : Nat} {dst : Option Tmp} {v : V} : cleanV d [] dst v = true := rfl
theorem cleanV_cons {d : Nat} {t : Tmp} {dst : Option Tmp} {v : V} : cleanV d (t :: ks) dst v = ((decide (dst = some t) || !hasV (d, t * 64) v) && cleanV d ks dst v) := by
  unfold cleanV
  rw [List.all_cons]
  congr 2
  by_cases h : dst = some t
  · rw [decide_eq_true h, h]; simp
  · rw [decide_eq_false h]; simpa using h
theorem none_ne_some {t : Tmp} : ((none : Option Tmp) = some t) = False := by simp
theorem GoNK_some {v : V} {dst : Option Tmp} : GoNK P ks (some v) dst l L k σ Q = (cleanV σ.d ks dst v = true ∧ GoK P ks l L k (put σ dst v) Q) := rfl
theorem GoK_nil : GoK P ks [] L k σ Q = Re P k .normal { σ with l := L ++ σ.l } Q := rfl
theorem GoK_eq0 (hk : killK ks s.op = none) (h : isCall s.op = false) (he : isEff s.op = false) (hA : isAl s.op = false) : GoK P ks (s :: l) L k σ Q = GoNK P ks (opG P σ s) s.dst l L k σ Q := by
  have hs := isCall_spec h
  unfold GoK drawK opG GoNK
  rw [hk]
  simp only
  rw [if_neg (by rw [he]; simp)]
  cases hg : gdS σ.t s with
  | none => rfl
  | some b =>
    cases b with
    | false =>
      apply propext
      constructor
      · intro h; exact ⟨cleanV_tuple _ _, h⟩
      · intro h; exact h.2
    | true =>
      simp only
      apply propext
      constructor
      · rintro ⟨v, m, h1, h2, h3, h4⟩
        unfold OpE at h1
        split at h1
        · rename_i f as ats ho; exact absurd ho (hs f as ats)
        · rename_i t ho; rw [SOp.oper] at ho; simp only at ho; rw [ho] at hA; cases hA
        · rename_i t ps ho; rw [SOp.oper] at ho; simp only at ho; rw [ho] at hA; cases hA
        · rename_i t n ps ho; rw [SOp.oper] at ho; simp only at ho; rw [ho] at hA; cases hA
        · obtain ⟨e1, rfl⟩ := h1
          rw [e1]; exact ⟨h3, h4⟩
      · intro hw
        split at hw
        · rename_i v h1
          refine ⟨v, [], ?_, rfl, hw.1, hw.2⟩
          unfold OpE
          split
          · rename_i f as ats ho; exact absurd ho (hs f as ats)
          · rename_i t ho; rw [SOp.oper] at ho; simp only at ho; rw [ho] at hA; cases hA
          · rename_i t ps ho; rw [SOp.oper] at ho; simp only at ho; rw [ho] at hA; cases hA
          · rename_i t n ps ho; rw [SOp.oper] at ho; simp only at ho; rw [ho] at hA; cases hA
          · exact ⟨h1, rfl⟩
        · exact hw.elim
theorem GoK_eq {d : Option Tmp} {op : Op} {ty : TypeId} {g : Option (Tmp × Bool)} (hk : killK ks op = none) (h : isCall op = false) (he : isEff op = false) (hA : isAl op = false) : GoK P ks (⟨d, op, ty, g⟩ :: l) L k σ Q = GoNK P ks (opG P σ ⟨d, op, ty, g⟩) d l L k σ Q := GoK_eq0 hk h he hA
theorem GoK_eff {s : SOp} (hk : killK ks s.op = none) (he : isEff s.op = true) : GoK P ks (s :: l) L k σ Q = GoL P (s :: l) k { σ with l := L ++ σ.l } Q := by
  unfold GoK GoL drawK
  rw [hk]
  simp only
  rw [if_pos he]
theorem gK_alloc {d : Option Tmp} {ty : TypeId} {e : TypeId} : GoK P ks (⟨d, .alloc e, ty, none⟩ :: l) L k σ Q = match d, tyZero P e with
    | some N, some zs => if (getA (L ++ σ.l) (σ.d, N * 64)).isNone = true ∧ cleanV σ.d ks (some N) (ptV σ N zs.length) = true then GoK P ks l (((σ.d, N * 64), ⟨.box, zs.length, [zs.map .v]⟩) :: L) k (put σ (some N) (ptV σ N zs.length)) Q else False
    | _, _ => False := by
  apply propext
  show (∃ v m, OpE P σ L (SOp.oper ⟨d, .alloc e, ty, none⟩) v m ∧ freshR (L ++ σ.l) m = true ∧ cleanV σ.d ks d v = true ∧ GoK P ks l (m ++ L) k (put σ d v) Q) ↔ _
  constructor
  · rintro ⟨v, m, h1, h2, hc, h3⟩
    unfold OpE at h1
    simp only [SOp.oper] at h1
    split at h1
    · rename_i N zs hz
      obtain ⟨rfl, rfl⟩ := h1
      simp only [freshR, Bool.and_true] at h2
      try simp only [hz]
      rw [if_pos ⟨h2, hc⟩]; exact h3
    · exact h1.elim
  · intro h
    split at h
    · rename_i N zs hz
      split at h
      · rename_i hf
        refine ⟨ptV σ N zs.length, [((σ.d, N * 64), ⟨.box, zs.length, [zs.map .v]⟩)], ?_, ?_, hf.2, h⟩
        · unfold OpE
          simp [SOp.oper, hz]
        · simp only [freshR, Bool.and_true]; exact hf.1
      · exact h.elim
    · exact h.elim
theorem gK_lit0 {d : Option Tmp} {ty : TypeId} {t : Nat} : GoK P ks (⟨d, .buildSlice t 0 #[], ty, none⟩ :: l) L k σ Q = match d, lit0 P t with
    | some N, some sz => if (getA (L ++ σ.l) (σ.d, N * 64)).isNone = true ∧ cleanV σ.d ks (some N) (slV σ N sz 0) = true then GoK P ks l (((σ.d, N * 64), ⟨.sl, sz, []⟩) :: L) k (put σ (some N) (slV σ N sz 0)) Q else False
    | _, _ => False := by
  apply propext
  show (∃ v m, OpE P σ L (SOp.oper ⟨d, .buildSlice t 0 #[], ty, none⟩) v m ∧ freshR (L ++ σ.l) m = true ∧ cleanV σ.d ks d v = true ∧ GoK P ks l (m ++ L) k (put σ d v) Q) ↔ _
  constructor
  · rintro ⟨v, m, h1, h2, hc, h3⟩
    unfold OpE at h1
    simp only [SOp.oper] at h1
    split at h1
    · rename_i N sz hz
      obtain ⟨_, rfl, rfl⟩ := h1
      simp only [freshR, Bool.and_true] at h2
      try simp only [hz]
      rw [if_pos ⟨h2, hc⟩]; exact h3
    · exact h1.elim
  · intro h
    split at h
    · rename_i N sz hz
      split at h
      · rename_i hf
        refine ⟨slV σ N sz 0, [((σ.d, N * 64), ⟨.sl, sz, []⟩)], ?_, ?_, hf.2, h⟩
        · unfold OpE
          simp [SOp.oper, hz]
        · simp only [freshR, Bool.and_true]; exact hf.1
      · exact h.elim
    · exact h.elim
theorem gK_box {d : Option Tmp} {ty : TypeId} {gg : Option (Tmp × Bool)} {e : TypeId} {x : Operand} : GoK P ks (⟨d, .box e x, ty, gg⟩ :: l) L k σ Q = GoL P (⟨d, .box e x, ty, gg⟩ :: l) k ⟨σ.t, σ.d, L ++ σ.l, σ.g⟩ Q := GoK_eff rfl rfl
theorem gK_makeSlice {d : Option Tmp} {ty : TypeId} {gg : Option (Tmp × Bool)} {t : TypeId} {x y : Operand} : GoK P ks (⟨d, .makeSlice t x y, ty, gg⟩ :: l) L k σ Q = GoL P (⟨d, .makeSlice t x y, ty, gg⟩ :: l) k ⟨σ.t, σ.d, L ++ σ.l, σ.g⟩ Q := GoK_eff rfl rfl
theorem gK_store {d : Option Tmp} {ty : TypeId} {gg : Option (Tmp × Bool)} {t : TypeId} {x y : Operand} : GoK P ks (⟨d, .store t x y, ty, gg⟩ :: l) L k σ Q = GoL P (⟨d, .store t x y, ty, gg⟩ :: l) k ⟨σ.t, σ.d, L ++ σ.l, σ.g⟩ Q := GoK_eff rfl rfl
theorem gK_move {d : Option Tmp} {ty : TypeId} {gg : Option (Tmp × Bool)} {x : Operand} : GoK P ks (⟨d, .move x, ty, gg⟩ :: l) L k σ Q = GoNK P ks (opG P σ ⟨d, .move x, ty, gg⟩) d l L k σ Q := GoK_eq rfl nc_move rfl rfl
theorem gK_assign {d : Option Tmp} {ty : TypeId} {gg : Option (Tmp × Bool)} {x : Operand} : GoK P ks (⟨d, .assign x, ty, gg⟩ :: l) L k σ Q = GoNK P ks (opG P σ ⟨d, .assign x, ty, gg⟩) d l L k σ Q := GoK_eq rfl nc_assign rfl rfl
theorem gK_pick {d : Option Tmp} {ty : TypeId} {gg : Option (Tmp × Bool)} {c x y : Operand} : GoK P ks (⟨d, .pick c x y, ty, gg⟩ :: l) L k σ Q = GoNK P ks (opG P σ ⟨d, .pick c x y, ty, gg⟩) d l L k σ Q := GoK_eq rfl nc_pick rfl rfl
theorem gK_nilCheck {d : Option Tmp} {ty : TypeId} {gg : Option (Tmp × Bool)} {x : Operand} : GoK P ks (⟨d, .nilCheck x, ty, gg⟩ :: l) L k σ Q = GoNK P ks (opG P σ ⟨d, .nilCheck x, ty, gg⟩) d l L k σ Q := GoK_eq rfl nc_nilCheck rfl rfl
theorem gK_binOp {d : Option Tmp} {ty : TypeId} {gg : Option (Tmp × Bool)} {o : BinOp} {t u : TypeId} {x y : Operand} : GoK P ks (⟨d, .binOp o t x y u, ty, gg⟩ :: l) L k σ Q = GoNK P ks (opG P σ ⟨d, .binOp o t x y u, ty, gg⟩) d l L k σ Q := GoK_eq rfl nc_binOp rfl rfl
theorem gK_unOp {d : Option Tmp} {ty : TypeId} {gg : Option (Tmp × Bool)} {o : UnOp} {t : TypeId} {x : Operand} : GoK P ks (⟨d, .unOp o t x, ty, gg⟩ :: l) L k σ Q = GoNK P ks (opG P σ ⟨d, .unOp o t x, ty, gg⟩) d l L k σ Q := GoK_eq rfl nc_unOp rfl rfl
theorem gK_convert {d : Option Tmp} {ty : TypeId} {gg : Option (Tmp × Bool)} {t u : TypeId} {x : Operand} : GoK P ks (⟨d, .convert t u x, ty, gg⟩ :: l) L k σ Q = GoNK P ks (opG P σ ⟨d, .convert t u x, ty, gg⟩) d l L k σ Q := GoK_eq rfl nc_convert rfl rfl
theorem gK_field {d : Option Tmp} {ty : TypeId} {gg : Option (Tmp × Bool)} {t : TypeId} {x : Operand} {f : Nat} : GoK P ks (⟨d, .field t x f, ty, gg⟩ :: l) L k σ Q = GoNK P ks (opG P σ ⟨d, .field t x f, ty, gg⟩) d l L k σ Q := GoK_eq rfl nc_field rfl rfl
theorem gK_extract {d : Option Tmp} {ty : TypeId} {gg : Option (Tmp × Bool)} {x : Operand} {i : Nat} : GoK P ks (⟨d, .extract x i, ty, gg⟩ :: l) L k σ Q = GoNK P ks (opG P σ ⟨d, .extract x i, ty, gg⟩) d l L k σ Q := GoK_eq rfl nc_extract rfl rfl
theorem gK_index {d : Option Tmp} {ty : TypeId} {gg : Option (Tmp × Bool)} {t : TypeId} {x i : Operand} : GoK P ks (⟨d, .index t x i, ty, gg⟩ :: l) L k σ Q = GoNK P ks (opG P σ ⟨d, .index t x i, ty, gg⟩) d l L k σ Q := GoK_eq rfl nc_index rfl rfl
theorem gK_fieldAddr {d : Option Tmp} {ty : TypeId} {gg : Option (Tmp × Bool)} {t : TypeId} {x : Operand} {f : Nat} : GoK P ks (⟨d, .fieldAddr t x f, ty, gg⟩ :: l) L k σ Q = GoNK P ks (opG P σ ⟨d, .fieldAddr t x f, ty, gg⟩) d l L k σ Q := GoK_eq rfl nc_fieldAddr rfl rfl
theorem gK_indexAddr {d : Option Tmp} {ty : TypeId} {gg : Option (Tmp × Bool)} {t : TypeId} {x i : Operand} : GoK P ks (⟨d, .indexAddr t x i, ty, gg⟩ :: l) L k σ Q = GoNK P ks (opG P σ ⟨d, .indexAddr t x i, ty, gg⟩) d l L k σ Q := GoK_eq rfl nc_indexAddr rfl rfl
theorem gK_slice {d : Option Tmp} {ty : TypeId} {gg : Option (Tmp × Bool)} {t : TypeId} {x : Operand} {lo hi mx : Option Operand} : GoK P ks (⟨d, .slice t x lo hi mx, ty, gg⟩ :: l) L k σ Q = GoNK P ks (opG P σ ⟨d, .slice t x lo hi mx, ty, gg⟩) d l L k σ Q := GoK_eq rfl nc_slice rfl rfl
theorem gK_load {d : Option Tmp} {ty : TypeId} {gg : Option (Tmp × Bool)} {t : TypeId} {x : Operand} : GoK P ks (⟨d, .load t x, ty, gg⟩ :: l) L k σ Q = GoNK P ks (opG P σ ⟨d, .load t x, ty, gg⟩) d l L k σ Q := GoK_eq rfl nc_load rfl rfl
theorem gK_build {d : Option Tmp} {ty : TypeId} {gg : Option (Tmp × Bool)} {t : TypeId} {ps : Array (Nat × Operand)} : GoK P ks (⟨d, .build t ps, ty, gg⟩ :: l) L k σ Q = GoNK P ks (opG P σ ⟨d, .build t ps, ty, gg⟩) d l L k σ Q := GoK_eq rfl nc_build rfl rfl
theorem gK_lits {d : Option Tmp} {ty : TypeId} {t n : Nat} {ps : Array (Nat × Operand)} (hn : n ≠ 0) : GoK P ks (⟨d, .buildSlice t n ps, ty, none⟩ :: l) L k σ Q =
    match d, litR P t n (ps.toList.map fun p => (p.1, ev σ p.2)) with
    | some N, some p => if (getA (L ++ σ.l) (σ.d, N * 64)).isNone = true ∧ cleanV σ.d ks (some N) (slV σ N p.1 n) = true then GoK P ks l (((σ.d, N * 64), ⟨.sl, p.1, p.2⟩) :: L) k (put σ (some N) (slV σ N p.1 n)) Q else False
    | _, _ => GoNK P ks (buildW P t n (ps.toList.map fun p => (p.1, ev σ p.2))) d l L k σ Q := by
  obtain ⟨n, rfl⟩ : ∃ m, n = m + 1 := ⟨n - 1, by omega⟩
  apply propext
  show (∃ v m, OpE P σ L (SOp.oper ⟨d, .buildSlice t (n + 1) ps, ty, none⟩) v m ∧ freshR (L ++ σ.l) m = true ∧ cleanV σ.d ks d v = true ∧ GoK P ks l (m ++ L) k (put σ d v) Q) ↔ _
  constructor
  · rintro ⟨v, m, h1, h2, hc, h3⟩
    unfold OpE at h1
    simp only [SOp.oper] at h1
    split at h1
    · rename_i N p hz
      obtain ⟨rfl, rfl⟩ := h1
      simp only [freshR, Bool.and_true] at h2
      try simp only [hz]
      rw [if_pos ⟨h2, hc⟩]; exact h3
    · rename_i hz
      obtain ⟨h4, rfl⟩ := h1
      have h5 : buildW P t (n + 1) (ps.toList.map fun p => (p.1, ev σ p.2)) = some v := h4
      first
        | (rw [h5]; exact ⟨hc, h3⟩)
        | (split <;> first | (rename_i N p hp; exact absurd hp (fun h => hz N p rfl h)) | (rw [h5]; exact ⟨hc, h3⟩))
  · intro h
    split at h
    · rename_i N p hz
      split at h
      · rename_i hf
        refine ⟨slV σ N p.1 (n + 1), [((σ.d, N * 64), ⟨.sl, p.1, p.2⟩)], ?_, ?_, hf.2, h⟩
        · unfold OpE
          simp [SOp.oper, hz]
        · simp only [freshR, Bool.and_true]; exact hf.1
      · exact h.elim
    · rename_i hz
      unfold GoNK at h
      split at h
      · rename_i v hv
        refine ⟨v, [], ?_, rfl, h.1, h.2⟩
        unfold OpE
        simp only [SOp.oper]
        exact ⟨hv, trivial⟩
      · exact h.elim
end
theorem put_some (t : List V) (d : Nat) (l g : Store) (n : Tmp) (v : V) : put ⟨t, d, l, g⟩ (some n) v = ⟨t.set n v, d, l, g⟩ := rfl
theorem put_none (t : List V) (d : Nat) (l g : Store) (v : V) : put ⟨t, d, l, g⟩ none v = ⟨t, d, l, g⟩ := rfl
theorem ev_tmp (t : List V) (d : Nat) (l g : Store) (n : Tmp) : ev ⟨t, d, l, g⟩ (.tmp n) = t.getD n (.x (.one .bad)) := rfl
theorem ev_int (σ : St) (k : IntKind) (n : Int) : ev σ (.const (.int k n)) = .x (.one (.v (.int k n))) := rfl
theorem ev_bool (σ : St) (b : Bool) : ev σ (.const (.bool b)) = .x (.one (.v (.bool b))) := rfl
theorem ev_string (σ : St) (b : ByteArray) : ev σ (.const (.string b)) = .x (.one (.v (.string b))) := rfl
theorem ev_slice (σ : St) (a : Option Addr) (n m : Nat) : ev σ (.const (.slice a n m)) = .x (.one (.v (.slice a n m))) := rfl
theorem set0 {α : Type} (a b : α) (l : List α) : (a :: l).set 0 b = b :: l := rfl
theorem setS {α : Type} (a b : α) (l : List α) (n : Nat) : (a :: l).set (n + 1) b = a :: l.set n b := rfl
theorem get0 {α : Type} (a d : α) (l : List α) : (a :: l).getD 0 d = a := rfl
theorem getS {α : Type} (a d : α) (l : List α) (n : Nat) : (a :: l).getD (n + 1) d = l.getD n d := rfl
theorem getN {α : Type} (d : α) (n : Nat) : ([] : List α).getD n d = d := rfl
section ops
variable {d : Option Tmp} {ty : TypeId}
theorem sG_none {op : Op} : stepG P σ ⟨d, op, ty, none⟩ = stepO P σ ⟨d, op, ty, "", #[], none⟩ := rfl
theorem sG_some {op : Op} {n : Tmp} {b : Bool} : stepG P σ ⟨d, op, ty, some (n, b)⟩ = match plain (σ.t.getD n (.x (.one .bad))) with
    | some (.bool x) => if x = b then stepO P σ ⟨d, op, ty, "", #[], none⟩ else some (put σ d (.x (.one (.v (.tuple #[])))))
    | some (.tuple _) => some (put σ d (.x (.one (.v (.tuple #[])))))
    | _ => none := by
  unfold stepG gdS SOp.oper
  simp only
  generalize plain (σ.t.getD n (.x (.one .bad))) = q
  cases q with
  | none => rfl
  | some y =>
    cases y with
    | bool x => cases x <;> cases b <;> rfl
    | _ => rfl
theorem oG_none {op : Op} : opG P σ ⟨d, op, ty, none⟩ = opW P σ ⟨d, op, ty, "", #[], none⟩ := rfl
theorem oG_some {op : Op} {n : Tmp} {b : Bool} : opG P σ ⟨d, op, ty, some (n, b)⟩ = match plain (σ.t.getD n (.x (.one .bad))) with
    | some (.bool x) => if x = b then opW P σ ⟨d, op, ty, "", #[], none⟩ else some (.x (.one (.v (.tuple #[]))))
    | some (.tuple _) => some (.x (.one (.v (.tuple #[]))))
    | _ => none := by
  unfold opG gdS SOp.oper
  simp only
  generalize plain (σ.t.getD n (.x (.one .bad))) = q
  cases q with
  | none => rfl
  | some y =>
    cases y with
    | bool x => cases x <;> cases b <;> rfl
    | _ => rfl
variable {p : String} {af : Array Edge} {gu : Option (Nat × Bool)}
theorem s_box {e : TypeId} {x : Operand} : stepO P σ ⟨d, .box e x, ty, p, af, gu⟩ = boxS σ d (ev σ x) := rfl
theorem s_alloc {e : TypeId} : stepO P σ ⟨d, .alloc e, ty, p, af, gu⟩ = allocS P σ d e := rfl
theorem s_make {t : TypeId} {x y : Operand} : stepO P σ ⟨d, .makeSlice t x y, ty, p, af, gu⟩ = makeS P σ d t (ev σ x) (ev σ y) := rfl
theorem s_store {t : TypeId} {x y : Operand} : stepO P σ ⟨d, .store t x y, ty, p, af, gu⟩ = (storeS P σ t (ev σ x) (ev σ y)).map fun σ' => put σ' d (.x (.one .bad)) := rfl
theorem s_move {x : Operand} : stepO P σ ⟨d, .move x, ty, p, af, gu⟩ = some (put σ d (ev σ x)) := rfl
theorem s_assign {x : Operand} : stepO P σ ⟨d, .assign x, ty, p, af, gu⟩ = some (put σ d (ev σ x)) := rfl
theorem s_pick {c x y : Operand} : stepO P σ ⟨d, .pick c x y, ty, p, af, gu⟩ = (opW P σ ⟨d, .pick c x y, ty, p, af, gu⟩).map (put σ d) := rfl
theorem s_nil {x : Operand} : stepO P σ ⟨d, .nilCheck x, ty, p, af, gu⟩ = (nilV (ev σ x)).map (put σ d) := rfl
theorem s_bin {op : BinOp} {t u : TypeId} {x y : Operand} : stepO P σ ⟨d, .binOp op t x y u, ty, p, af, gu⟩ = (binV P op t x y (ev σ x) (ev σ y)).map (put σ d) := rfl
theorem s_un {op : UnOp} {t : TypeId} {x : Operand} : stepO P σ ⟨d, .unOp op t x, ty, p, af, gu⟩ = (un1 P (Op.unary op) (ev σ x)).map (put σ d) := rfl
theorem s_conv {t u : TypeId} {x : Operand} : stepO P σ ⟨d, .convert t u x, ty, p, af, gu⟩ = convS P σ d t u (ev σ x) := rfl
theorem s_field {t : TypeId} {f : Nat} {x : Operand} : stepO P σ ⟨d, .field t x f, ty, p, af, gu⟩ = (fieldV P t f (ev σ x)).map (put σ d) := rfl
theorem s_extract {i : Nat} {x : Operand} : stepO P σ ⟨d, .extract x i, ty, p, af, gu⟩ = (extractV i (ev σ x)).map (put σ d) := rfl
theorem s_index {t : TypeId} {x i : Operand} : stepO P σ ⟨d, .index t x i, ty, p, af, gu⟩ = (un2 P (Instr.index t) (ev σ x) (ev σ i)).map (put σ d) := rfl
theorem s_fieldAddr {t : TypeId} {f : Nat} {x : Operand} : stepO P σ ⟨d, .fieldAddr t x f, ty, p, af, gu⟩ = (fieldAddrV P t f (ev σ x)).map (put σ d) := rfl
theorem s_indexAddr {t : TypeId} {x i : Operand} : stepO P σ ⟨d, .indexAddr t x i, ty, p, af, gu⟩ = (indexAddrV P t (ev σ x) (ev σ i)).map (put σ d) := rfl
theorem s_slice {t : TypeId} {x : Operand} {lo hi : Option Operand} : stepO P σ ⟨d, .slice t x lo hi none, ty, p, af, gu⟩ = (sliceV P t (ev σ x) (lo.map (ev σ)) (hi.map (ev σ))).map (put σ d) := rfl
theorem s_load {t : TypeId} {x : Operand} : stepO P σ ⟨d, .load t x, ty, p, af, gu⟩ = (loadV P σ.o t (ev σ x)).map (put σ d) := rfl
theorem s_len {as : Array Operand} {ats : Array TypeId} : stepO P σ ⟨d, .call { callee := .builtin .len, args := as, argTypes := ats }, ty, p, af, gu⟩ =
    (builtinV P .len ats ty (as.map isC) (as.toList.map (ev σ))).map (put σ d) := rfl
theorem s_min {as : Array Operand} {ats : Array TypeId} : stepO P σ ⟨d, .call { callee := .builtin .min, args := as, argTypes := ats }, ty, p, af, gu⟩ =
    (builtinV P .min ats ty (as.map isC) (as.toList.map (ev σ))).map (put σ d) := rfl
theorem s_max {as : Array Operand} {ats : Array TypeId} : stepO P σ ⟨d, .call { callee := .builtin .max, args := as, argTypes := ats }, ty, p, af, gu⟩ =
    (builtinV P .max ats ty (as.map isC) (as.toList.map (ev σ))).map (put σ d) := rfl
theorem s_append {x y : Operand} {t tx : TypeId} : stepO P σ ⟨d, .call { callee := .builtin .append, args := #[x, y], argTypes := #[t, tx] }, ty, p, af, gu⟩ = appendO P σ d t tx (ev σ x) (ev σ y) := rfl
theorem s_build {t : TypeId} {ps : Array (Nat × Operand)} : stepO P σ ⟨d, .build t ps, ty, p, af, gu⟩ = (buildV P t (ps.toList.map fun q => (q.1, ev σ q.2))).map (put σ d) := rfl
theorem s_buildSlice {t : TypeId} {n : Nat} {ps : Array (Nat × Operand)} : stepO P σ ⟨d, .buildSlice t n ps, ty, p, af, gu⟩ = buildO P σ d t n (ps.toList.map fun q => (q.1, ev σ q.2)) := rfl
theorem appendL_eq {t tx : TypeId} {s x : V} {dd : Option Tmp} : appendL P σ dd t tx s x = match tyElem P t with
    | some e => match tyZero P e with
      | some zs => if zs.any isNilSl = true then orE (appendM P σ dd t tx s x) (appendS P σ dd t tx s x) else appendS P σ dd t tx s x
      | none => appendS P σ dd t tx s x
    | none => appendS P σ dd t tx s x := by
  unfold appendL slEl
  cases h : tyElem P t with
  | none => rfl
  | some e => cases h2 : tyZero P e <;> simp only [h2, Bool.false_eq_true, if_false]
theorem appendO_rs {t tx : TypeId} {x : V} {dd : Option Tmp} {r : Root} {p' : Path} {sz off len : Nat} : appendO P σ dd t tx (.x (.one (.rs r p' sz off len))) x =
    if (getA σ.l r).isNone = true then appendG P σ dd t tx (.x (.one (.rs r p' sz off len))) x else if 0 < off then appendC P σ dd t tx (.x (.one (.rs r p' sz off len))) x else appendL P σ dd t tx (.x (.one (.rs r p' sz off len))) x := rfl
theorem appendO_nil {t tx : TypeId} {x : V} {dd : Option Tmp} : appendO P σ dd t tx (.x (.one (.v (.slice none 0 0)))) x = appendN P σ dd t tx x := rfl
theorem appendN_eq {t tx : TypeId} {x : V} {N : Tmp} {tt : List V} {d : Nat} {l g : Store} : appendN P ⟨tt, d, l, g⟩ (some N) t tx x = match tyElem P t with
    | some e => match tySz P e with
      | some sz => if (getA l (d, N * 64)).isNone = true then appendL P ⟨tt, d, ((d, N * 64), ⟨.sl, sz, []⟩) :: l, g⟩ (some N) t tx (.x (.one (.rs (d, N * 64) [] sz 0 0))) x else none
      | none => none
    | none => none := by
  unfold appendN
  cases h : tyElem P t with
  | none => rfl
  | some e => rfl
theorem buildO_eq {t : TypeId} {n : Nat} {ps : List (Nat × V)} {dd : Option Tmp} : buildO P σ dd t n ps = match tyElem P t with
    | some e => match tyZero P e with
      | some zs => if zs.any isNilSl = true then orE (buildM P σ dd t n ps) (buildS P σ dd t n ps) else buildS P σ dd t n ps
      | none => buildS P σ dd t n ps
    | none => buildS P σ dd t n ps := by
  unfold buildO slEl
  cases h : tyElem P t with
  | none => rfl
  | some e => cases h2 : tyZero P e <;> simp only [h2, Bool.false_eq_true, if_false]
theorem orE_some {a : St} {b : Option St} : orE (some a) b = some a := rfl
theorem orE_none {b : Option St} : orE none b = b := rfl
theorem o_move {x : Operand} : opW P σ ⟨d, .move x, ty, p, af, gu⟩ = some (ev σ x) := rfl
theorem o_assign {x : Operand} : opW P σ ⟨d, .assign x, ty, p, af, gu⟩ = some (ev σ x) := rfl
theorem o_pick {c x y : Operand} : opW P σ ⟨d, .pick c x y, ty, p, af, gu⟩ = match plain (ev σ c) with
    | some (.bool t) => some (if t then ev σ x else ev σ y)
    | _ => none := rfl
theorem o_nil {x : Operand} : opW P σ ⟨d, .nilCheck x, ty, p, af, gu⟩ = nilV (ev σ x) := rfl
theorem o_bin {op : BinOp} {t u : TypeId} {x y : Operand} : opW P σ ⟨d, .binOp op t x y u, ty, p, af, gu⟩ = binV P op t x y (ev σ x) (ev σ y) := rfl
theorem o_un {op : UnOp} {t : TypeId} {x : Operand} : opW P σ ⟨d, .unOp op t x, ty, p, af, gu⟩ = un1 P (Op.unary op) (ev σ x) := rfl
theorem o_conv {t u : TypeId} {x : Operand} : opW P σ ⟨d, .convert t u x, ty, p, af, gu⟩ = convV P σ.o t u (ev σ x) := rfl
theorem o_field {t : TypeId} {f : Nat} {x : Operand} : opW P σ ⟨d, .field t x f, ty, p, af, gu⟩ = fieldV P t f (ev σ x) := rfl
theorem o_extract {i : Nat} {x : Operand} : opW P σ ⟨d, .extract x i, ty, p, af, gu⟩ = extractV i (ev σ x) := rfl
theorem o_index {t : TypeId} {x i : Operand} : opW P σ ⟨d, .index t x i, ty, p, af, gu⟩ = un2 P (Instr.index t) (ev σ x) (ev σ i) := rfl
theorem o_fieldAddr {t : TypeId} {f : Nat} {x : Operand} : opW P σ ⟨d, .fieldAddr t x f, ty, p, af, gu⟩ = fieldAddrV P t f (ev σ x) := rfl
theorem o_indexAddr {t : TypeId} {x i : Operand} : opW P σ ⟨d, .indexAddr t x i, ty, p, af, gu⟩ = indexAddrV P t (ev σ x) (ev σ i) := rfl
theorem o_slice {t : TypeId} {x : Operand} {lo hi : Option Operand} : opW P σ ⟨d, .slice t x lo hi none, ty, p, af, gu⟩ = sliceV P t (ev σ x) (lo.map (ev σ)) (hi.map (ev σ)) := rfl
theorem o_load {t : TypeId} {x : Operand} : opW P σ ⟨d, .load t x, ty, p, af, gu⟩ = loadV P σ.o t (ev σ x) := rfl
theorem o_build {t : TypeId} {ps : Array (Nat × Operand)} : opW P σ ⟨d, .build t ps, ty, p, af, gu⟩ = buildV P t (ps.toList.map fun q => (q.1, ev σ q.2)) := rfl
theorem o_buildSlice {t : TypeId} {n : Nat} {ps : Array (Nat × Operand)} : opW P σ ⟨d, .buildSlice t n ps, ty, p, af, gu⟩ = buildW P t n (ps.toList.map fun q => (q.1, ev σ q.2)) := rfl
theorem o_built {b : Builtin} {as : Array Operand} {ats : Array TypeId} : opW P σ ⟨d, .call { callee := .builtin b, args := as, argTypes := ats }, ty, p, af, gu⟩ =
    builtinV P b ats ty (as.map isC) (as.toList.map (ev σ)) := rfl
end ops
abbrev one (c : C) : V := .x (.one c)
abbrev int (n : Int) : V := .x (.one (.v (.int .i64 n)))
theorem plain_v (x : Value) : plain (.x (.one (.v x))) = some x := rfl
theorem bin_add {t : TypeId} {x y : Operand} (k : IntKind) (a b : Int) : binV P .add t x y (one (.v (.int k a))) (one (.v (.int k b))) = some (one (.v (.int k (k.wrap (a + b))))) := by
  simp [binV, plain2, plain, pureIn, eqGuard, binOp, Op.intArith, ofVal, bind, pure, Sem.bind]
theorem bin_sub {t : TypeId} {x y : Operand} (k : IntKind) (a b : Int) : binV P .sub t x y (one (.v (.int k a))) (one (.v (.int k b))) = some (one (.v (.int k (k.wrap (a - b))))) := by
  simp [binV, plain2, plain, pureIn, eqGuard, binOp, Op.intArith, ofVal, bind, pure, Sem.bind]
theorem bin_mul {t : TypeId} {x y : Operand} (k : IntKind) (a b : Int) : binV P .mul t x y (one (.v (.int k a))) (one (.v (.int k b))) = some (one (.v (.int k (k.wrap (a * b))))) := by
  simp [binV, plain2, plain, pureIn, eqGuard, binOp, Op.intArith, ofVal, bind, pure, Sem.bind]
theorem bin_lss {t : TypeId} {x y : Operand} (k : IntKind) (a b : Int) : binV P .lss t x y (one (.v (.int k a))) (one (.v (.int k b))) = some (one (.v (.bool (decide (a < b))))) := by
  simp [binV, plain2, plain, pureIn, eqGuard, binOp, Op.intCmp, ofVal, bind, pure, Sem.bind]
theorem bin_leq {t : TypeId} {x y : Operand} (k : IntKind) (a b : Int) : binV P .leq t x y (one (.v (.int k a))) (one (.v (.int k b))) = some (one (.v (.bool (decide (a ≤ b))))) := by
  simp [binV, plain2, plain, pureIn, eqGuard, binOp, Op.intCmp, ofVal, bind, pure, Sem.bind]
theorem bin_gtr {t : TypeId} {x y : Operand} (k : IntKind) (a b : Int) : binV P .gtr t x y (one (.v (.int k a))) (one (.v (.int k b))) = some (one (.v (.bool (decide (b < a))))) := by
  simp [binV, plain2, plain, pureIn, eqGuard, binOp, Op.intCmp, ofVal, bind, pure, Sem.bind]
theorem bin_geq {t : TypeId} {x y : Operand} (k : IntKind) (a b : Int) : binV P .geq t x y (one (.v (.int k a))) (one (.v (.int k b))) = some (one (.v (.bool (decide (b ≤ a))))) := by
  simp [binV, plain2, plain, pureIn, eqGuard, binOp, Op.intCmp, ofVal, bind, pure, Sem.bind]
theorem bin_eql {t : TypeId} {x y : Operand} (k : IntKind) (a b : Int) : binV P .eql t x y (one (.v (.int k a))) (one (.v (.int k b))) = some (one (.v (.bool (decide (a = b))))) := by
  simp [binV, plain2, plain, pureIn, eqGuard, binOp, Op.intCmp, ofVal, bind, pure, Sem.bind]; rfl
theorem bin_neq {t : TypeId} {x y : Operand} (k : IntKind) (a b : Int) : binV P .neq t x y (one (.v (.int k a))) (one (.v (.int k b))) = some (one (.v (.bool (decide (a ≠ b))))) := by
  simp [binV, plain2, plain, pureIn, eqGuard, binOp, Op.intCmp, ofVal, bind, pure, Sem.bind]; rfl
theorem un_not (b : Bool) : un1 P (Op.unary .not) (one (.v (.bool b))) = some (one (.v (.bool !b))) := by
  simp [un1, plain, pureIn, Op.unary, ofVal, pure]
end
end Go.Rx
namespace Go.Rx
open Go.RowKit
theorem Weak.same {t t' : List V} {d : Nat} {l g : Store} (h : T2 t t') : Weak ⟨t, d, l, g⟩ ⟨t', d, l, g⟩ := fun _ _ gh _ _ hr => ⟨gh, Rel.same h hr⟩
theorem T2_nil : T2 [] [] = True := rfl
theorem T2_same {a : V} {t t' : List V} : T2 (a :: t) (a :: t') = T2 t t' := by simp [T2]
theorem T2_bad {a : V} {t t' : List V} : T2 (a :: t) (.x (.one .bad) :: t') = T2 t t' := by simp [T2]
theorem enterSt_eq (fn : Func) (args : List X) : enterSt fn args = ⟨args.map .x ++ List.replicate (fn.ntmps - args.length) (.x (.one .bad)), 0, [], []⟩ := rfl
theorem o_eq (t : List V) (d : Nat) (l g : Store) : St.o ⟨t, d, l, g⟩ = l ++ g := rfl
section
variable {P : Program} {t ty : TypeId} {cs : Array Bool}
theorem bl_sh (sz : Nat) (R : List (List C)) : builtinV P .len #[t] ty cs [one (.sh sz R)] = (tyElem P t).map fun _ => int R.length := by
  simp only [builtinV, plains, plain, lenA]
  simp only [List.size_toArray, List.length_cons, List.length_nil, Nat.zero_add, Nat.zero_lt_one, getElem?_pos, List.getElem_toArray, List.getElem_cons_zero, Option.bind_some]
  cases tyElem P t <;> rfl
theorem bl_rs (r : Root) (p : Path) (sz off len : Nat) : builtinV P .len #[t] ty cs [one (.rs r p sz off len)] = (tyElem P t).map fun _ => int len := by
  simp only [builtinV, plains, plain, lenA]
  simp only [List.size_toArray, List.length_cons, List.length_nil, Nat.zero_add, Nat.zero_lt_one, getElem?_pos, List.getElem_toArray, List.getElem_cons_zero, Option.bind_some]
  cases tyElem P t <;> rfl
def builtinV' := @builtinV
theorem bl_str (s : ByteArray) : builtinV P .len #[t] ty cs [one (.v (.string s))] = match P.underlying t with
    | some .string => some (int s.size)
    | _ => builtinV' P .len #[t] ty cs [one (.v (.string s))] := by
  split
  · rename_i h
    simp [builtinV, plains, plain, builtin, Builtin.len_, underlying, program, h, pureIn, goInt, ofVal, bind, pure, Sem.bind]
  · rfl
theorem bl_nil : builtinV P .len #[t] ty cs [one (.v (.slice none 0 0))] = match tyElem P t with
    | some _ => some (int 0)
    | _ => builtinV' P .len #[t] ty cs [one (.v (.slice none 0 0))] := by
  split
  · rename_i e h
    have h' := tyElem_spec h
    simp [builtinV, plains, plain, builtin, Builtin.len_, underlying, program, h', pureIn, goInt, ofVal, bind, pure, Sem.bind]
  · rfl
theorem bl_max (ats : Array TypeId) (a b : Int) : builtinV P .max ats ty cs [int a, int b] = some (int (if a < b then b else a)) := by
  simp [builtinV, plains, plain, builtin, Builtin.max_, Builtin.max2, pureIn, ofVal, bind, pure, Sem.bind]
theorem bl_min (ats : Array TypeId) (a b : Int) : builtinV P .min ats ty cs [int a, int b] = some (int (if b < a then b else a)) := by
  simp [builtinV, plains, plain, builtin, Builtin.min_, Builtin.min2, pureIn, ofVal, bind, pure, Sem.bind]
end
section
variable {P : Program} {k : List Fr} {σ : St} {Q : Ex → St → Prop} {l : List SOp} {L : Store} {d : Option Tmp} {ty : TypeId} {gg : Option (Tmp × Bool)} {as : Array Operand} {ats : Array TypeId}
theorem gD_len : GoD P (⟨d, .call { callee := .builtin .len, args := as, argTypes := ats }, ty, gg⟩ :: l) L k σ Q = GoN P (opG P σ ⟨d, .call { callee := .builtin .len, args := as, argTypes := ats }, ty, gg⟩) d l L k σ Q := gD_built rfl
theorem gD_min : GoD P (⟨d, .call { callee := .builtin .min, args := as, argTypes := ats }, ty, gg⟩ :: l) L k σ Q = GoN P (opG P σ ⟨d, .call { callee := .builtin .min, args := as, argTypes := ats }, ty, gg⟩) d l L k σ Q := gD_built rfl
theorem gD_max : GoD P (⟨d, .call { callee := .builtin .max, args := as, argTypes := ats }, ty, gg⟩ :: l) L k σ Q = GoN P (opG P σ ⟨d, .call { callee := .builtin .max, args := as, argTypes := ats }, ty, gg⟩) d l L k σ Q := gD_built rfl
theorem gK_len {ks : List Tmp} : GoK P ks (⟨d, .call { callee := .builtin .len, args := as, argTypes := ats }, ty, gg⟩ :: l) L k σ Q = GoNK P ks (opG P σ ⟨d, .call { callee := .builtin .len, args := as, argTypes := ats }, ty, gg⟩) d l L k σ Q := GoK_eq rfl rfl rfl rfl
theorem gD_append : GoD P (⟨d, .call { callee := .builtin .append, args := as, argTypes := ats }, ty, gg⟩ :: l) L k σ Q = GoL P (⟨d, .call { callee := .builtin .append, args := as, argTypes := ats }, ty, gg⟩ :: l) k ⟨σ.t, σ.d, L ++ σ.l, σ.g⟩ Q := GoD_eff rfl
end
attribute [push_cast] bl_sh bl_rs bl_str bl_nil bl_max bl_min
attribute [push_cast] appendL_eq appendO_rs appendO_nil appendN_eq buildO_eq orE_some orE_none isNilSl
attribute [push_cast] slim slimL slimO slimG enterSt_eq o_eq
attribute [push_cast] gK_len gK_box gK_makeSlice gK_store gK_move gK_assign gK_pick gK_nilCheck gK_binOp gK_unOp gK_convert gK_field gK_extract gK_index gK_fieldAddr gK_indexAddr gK_slice gK_load gK_build gK_lits gK_alloc gK_lit0 GoX_nil GoX_cons GoNK_some GoK_nil cleanV_nil cleanV_cons none_ne_some ksOf_eq ksF appTs_nil appTs_cons madeS mkOp offT offL
attribute [push_cast] Go_seq Go_reg Go_draw Go_block Go_exit Go_ret Go_skip Go_test GoC_true GoC_false gL_box gL_alloc gL_makeSlice gL_store gL_move gL_assign gL_pick gL_nilCheck gL_binOp gL_unOp gL_convert gL_field gL_extract gL_index gL_fieldAddr gL_indexAddr gL_slice gL_load gL_build gL_buildSlice gL_built gD_box gD_alloc gD_makeSlice gD_store gD_move gD_assign gD_pick gD_nilCheck gD_binOp gD_unOp gD_convert gD_field gD_extract gD_index gD_fieldAddr gD_indexAddr gD_slice gD_load gD_build gD_lit0 lit0 gD_lits litR gD_len gD_min gD_max gD_append sG_none sG_some oG_none oG_some s_move s_assign s_pick s_nil s_bin s_un s_conv s_field s_extract s_index s_fieldAddr s_indexAddr s_slice s_load s_len s_min s_max s_append s_buildSlice s_build s_box s_alloc s_make s_store o_move o_assign o_pick o_nil o_bin o_un o_conv o_field o_extract o_index o_fieldAddr o_indexAddr o_slice o_load o_build o_buildSlice o_built put_some put_none ev_tmp ev_int ev_bool ev_string ev_slice set0 setS get0 getS getN plain_v bin_add bin_sub bin_mul bin_lss bin_leq bin_gtr bin_geq bin_eql bin_neq un_not GoM_some GoN_some GoL_nil GoD_nil Re_nil Re_sq_normal Re_sq_exit Re_sq_ret Re_bl_normal Re_bl_ret Re_bl_exit Re_lp_normal Re_lp_exit Re_lp_ret
attribute [push_cast] Option.map_some Option.bind_some Bool.false_and Bool.true_and Bool.and_true Bool.and_false Bool.not_true Bool.not_false Bool.false_eq_true Bool.true_eq_false List.map_cons List.map_nil List.length_cons List.length_nil
  List.replicate_succ List.replicate_zero List.cons_append List.nil_append List.append_nil List.getElem?_toArray List.getElem?_cons_succ List.getElem?_cons_zero List.drop_succ_cons List.drop_zero List.take_succ_cons List.take_zero List.drop_nil List.take_nil
attribute [push_cast] Kind.isBox blank adoptL storeM setCell buildW allV nilV fieldV extractV fieldAddrV indexAddrV loadV partX delocs deloc boxS allocS storeS cellsX cellOk scalar fresh newSt ptV slV getA setA updAt rowsAt setRows
  T2_nil T2_same T2_bad resXs resV expXs expX expR expC apartAll locC cellsOf retRow Option.some.injEq exists_eq_left'
end Go.Rx
