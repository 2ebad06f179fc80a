/- A region whose operations may go in more than one order: operations that only compute, read, call functions of data or make memory come to the same in each. -/
import Derived.Test.YtbnabpmfdnfigaaRxN
import Derived.Orders
namespace Go.Rx
open Go.RowKit

/-- What an operation of such a region comes to: its value, and the roots that it makes. -/
def OpE (P : Program) (σ : St) (o : Oper) (v : V) (l : Store) : Prop :=
  match o.op with
  | .call { callee := .value (.func f), args := as, argTypes := _ } => match o.dst with
    | some N => ∃ xs ret, viewVs σ.o (as.toList.map (ev σ)) = some xs ∧ PureFn P f xs ret ∧ poR (retRow ret) = true ∧ l = newRoots σ.d N 0 (retRow ret) ∧ v = packT (impXs σ.d N 0 ret)
    | none => False
  | _ => opV P σ o = some v ∧ l = []

def Stp (P : Program) (ops : Array Oper) (σ : St) (o : Oper) (v : V) (l : Store) : Prop :=
  (gd σ ops o = some true ∧ OpE P σ o v l) ∨ (gd σ ops o = some false ∧ v = .x (.one .bad) ∧ l = [])

/-- In the order of the text, the roots aside. -/
def DRun (P : Program) (ops : Array Oper) : List Oper → St → Store → (St → Prop) → Prop
  | [], σ, L, K => K { σ with l := L ++ σ.l }
  | o :: rest, σ, L, K => match gd σ ops o with
    | some true => ∃ v l, OpE P σ o v l ∧ freshR (L ++ σ.l) l = true ∧ DRun P ops rest (put σ o.dst v) (l ++ L) K
    | some false => DRun P ops rest (put σ o.dst (.x (.one .bad))) L K
    | none => False

def hasEdge (o : Oper) (i : Nat) : Bool := o.after.any fun e => e.on == i && Region.binds .any e

def drawOk (ops : Array Oper) : Bool :=
  let l := ops.toList.zipIdx
  l.all fun (o, j) =>
    o.after.all (fun e => !Region.binds .any e || decide (e.on < j)) &&
    (match o.op with | .select _ _ => false | _ => true) &&
    l.all fun (o', i) =>
      (i == j || o.dst.isNone || !(o.dst == o'.dst)) &&
      (Oper.looksAt ops o).all fun t => !(o'.dst == some t) || i == j || (decide (i < j) && hasEdge o i) || (decide (j < i) && hasEdge o' j)

def wdraw : DrawW := fun P ops σ K => P.follows .mixedOrders = true ∧ drawOk ops = true ∧ DRun P ops ops.toList σ [] K

section
variable {P : Program} {w w0 w' : World} {g g0 gr : Gh} {σ : St} {a : Act}

/-- What is said of a state hangs on its temporaries and on its roots' look-ups alone. -/
theorem Rel.ext {τ τ' : St} (ht : τ'.t = τ.t) (hd : τ'.d = τ.d) (hg : τ'.g = τ.g) (hl : ∀ r, getA τ'.l r = getA τ.l r) (h : Rel g0 w0 τ g a w) : Rel g0 w0 τ' g a w := by
  have ho : ∀ r, getA τ'.o r = getA τ.o r := fun r => by
    show getA (τ'.l ++ τ'.g) r = getA (τ.l ++ τ.g) r
    rw [getA_append, getA_append, hl, hg]
  have hlive : ∀ r p m K, Live τ'.o r p m K ↔ Live τ.o r p m K := fun r p m K => by unfold Live; rw [ho]
  have hgoes : Goes w τ.o g w τ'.o g := ⟨fun k hk => ⟨hk, rfl⟩, fun r p m K hK => ⟨⟨K, (hlive r p m K).2 hK, Nat.le_refl _⟩, rfl, fun b cs e f _ hb => ⟨cs, hb, rfl⟩⟩⟩
  refine ⟨h.defers, by rw [ht]; exact h.size, fun i hi => ?_, ⟨?_, ?_, ?_, h.heap.S⟩, h.keep, ?_, ?_, ?_, ?_, by rw [hg]; exact h.pin⟩
  · rw [ht] at hi ⊢; exact VR.goes hgoes (h.tmps i hi)
  · intro r p m K b hK hb
    have hK' := (hlive r p m K).1 hK
    obtain ⟨k1, k2, cs, e, f, k3, kf, k4, k5⟩ := h.heap.rows r p m K b hK' hb
    exact ⟨k1, k2, cs, e, f, k3, kf, k4, fun i j hi hj => CR.goesAt hgoes hK' hi (by rw [k2 i hi]; exact hj) (k5 i j hi hj)⟩
  · intro r p ob m K h1 h2 h3
    rw [ho] at h1; exact h.heap.none r p ob m K h1 h2 h3
  · intro r p m K r' p' m' K' b h1 h2
    exact h.heap.inj _ _ _ _ _ _ _ _ b ((hlive _ _ _ _).1 h1) ((hlive _ _ _ _).1 h2)
  · intro r ob hr; rw [hl] at hr; rw [hd]; exact h.loc r ob hr
  · intro r ob hr; rw [hg] at hr; rw [hd]; exact h.out r ob hr
  · intro r ob hr; rw [ho] at hr; exact h.obj r ob hr
  · intro r ob hr; rw [hg] at hr; rw [hd]; exact h.gref r ob hr

theorem Rel.drew (h : Rel g0 w0 σ g a w) : Rel g0 w0 σ g a { w with drawn := w.drawn + 1 } := by
  have hgoes : Goes w σ.o g { w with drawn := w.drawn + 1 } σ.o g := ⟨fun k hk => ⟨hk, rfl⟩, fun r p m K hK => ⟨⟨K, hK, Nat.le_refl _⟩, rfl, fun b cs e f _ hb => ⟨cs, hb, rfl⟩⟩⟩
  refine ⟨h.defers, h.size, fun i hi => VR.goes hgoes (h.tmps i hi), ⟨?_, h.heap.none, h.heap.inj, h.heap.S⟩, ⟨h.keep.os, h.keep.tape, h.keep.output, h.keep.size, h.keep.S, h.keep.block⟩, h.loc, h.out, h.obj, h.gref, h.pin⟩
  intro r p m K b hK hb
  obtain ⟨k1, k2, cs, e, f, k3, kf, k4, k5⟩ := h.heap.rows r p m K b hK hb
  exact ⟨k1, k2, cs, e, f, k3, kf, k4, fun i j hi hj => CR.goesAt hgoes hK hi (by rw [k2 i hi]; exact hj) (k5 i j hi hj)⟩

/-! ### more roots change nothing of what is read -/

theorem loadV_more {o o' : Store} (hm : ∀ r ob, getA o r = some ob → getA o' r = some ob) {t : TypeId} {x r : V} (h : loadV P o t x = some r) : loadV P o' t x = some r := by
  unfold loadV at *
  split at h
  · rename_i ag n _ _
    split at h
    · exact h
    · split at h
      · rename_i ob hob
        rw [hm _ _ hob]
        exact h
      · cases h
    · cases h
  · cases h

theorem bytesV_more {o o' : Store} (hm : ∀ r ob, getA o r = some ob → getA o' r = some ob) {x : V} {ns : List Int} (h : bytesV o x = some ns) : bytesV o' x = some ns := by
  unfold bytesV at *
  split at h
  · exact h
  · split at h
    · rename_i ob hob; rw [hm _ _ hob]; exact h
    · cases h
  · cases h
theorem bytesV_kind {o o' : Store} {x : V} (h : bytesV o x = none) : bytesV o' x = none ∨ ∃ r p off len, x = .x (.one (.rs r p 1 off len)) := by
  unfold bytesV at *
  split at h
  · exact .inl h
  · exact .inr ⟨_, _, _, _, rfl⟩
  · exact .inl rfl
theorem convV_more {o o' : Store} (hm : ∀ r ob, getA o r = some ob → getA o' r = some ob) {src dst : TypeId} {x r : V} (h : convV P o src dst x = some r) : convV P o' src dst x = some r := by
  cases hb : bytesV o x with
  | some ns => unfold convV at *; rw [hb] at h; rw [bytesV_more hm hb]; exact h
  | none =>
    rcases bytesV_kind (o' := o') hb with h2 | ⟨r', p', off, len, rfl⟩
    · unfold convV at *; rw [hb] at h; rw [h2]; exact h
    · unfold convV at h; rw [hb] at h; simp [un1, plain] at h

theorem viewC_more {o o' : Store} (hm : ∀ r ob, getA o r = some ob → getA o' r = some ob) {c d : C} (h : viewC o c = some d) : viewC o' c = some d := by
  unfold viewC at *
  split at h
  · exact h
  · exact h
  · exact h
  · split at h
    · rename_i ob hob; rw [hm _ _ hob]; exact h
    · cases h
  · split at h
    · rename_i ob hob; rw [hm _ _ hob]; exact h
    · cases h
  · exact h
  · exact h

theorem viewX_more {o o' : Store} (hm : ∀ r ob, getA o r = some ob → getA o' r = some ob) {x y : X} (h : viewX o x = some y) : viewX o' x = some y := by
  cases x with
  | one c =>
    simp only [viewX, Option.map_eq_some_iff] at *
    obtain ⟨d, h1, h2⟩ := h
    exact ⟨d, viewC_more hm h1, h2⟩
  | agg cs =>
    simp only [viewX, Option.map_eq_some_iff] at *
    obtain ⟨ds, h1, h2⟩ := h
    refine ⟨ds, ?_, h2⟩
    clear h2
    induction cs generalizing ds with
    | nil => exact h1
    | cons c cs ih =>
      simp only [viewCs] at h1 ⊢
      split at h1
      · rename_i d1 ds1 e1 e2
        rw [viewC_more hm e1, ih _ e2]; exact h1
      · cases h1

theorem viewVs_more {o o' : Store} (hm : ∀ r ob, getA o r = some ob → getA o' r = some ob) {vs : List V} {xs : List X} (h : viewVs o vs = some xs) : viewVs o' vs = some xs := by
  induction vs generalizing xs with
  | nil => exact h
  | cons v vs ih =>
    simp only [viewVs] at h ⊢
    split at h
    · rename_i x xs1 e1 e2
      have : viewV o' v = some x := by
        cases v with
        | tup _ => cases e1
        | x y => exact viewX_more hm e1
      rw [this, ih e2]; exact h
    · cases h

end
end Go.Rx
