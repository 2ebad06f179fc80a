/- An abstract machine over data, part I. -/
import Derived.Below
import Derived.Deep.Draws
import Derived.Tactics
import Derived.WalkKit
import Derived.Lib.LaidTab
import Derived.Lib.ItoaNum
import Derived.Lib.Builder
import Derived.Lib.AppendStr
import Derived.Lib.UnsafeStr
import Derived.Laws.BytesArg
import Derived.Laws.IdiomCopy
namespace Go.Rx
open Go.RowKit
abbrev Root := Nat × Nat
abbrev Path := List (Nat × Nat)
inductive C where
  | v (x : Value)
  | sh (sz : Nat) (rows : List (List C))
  | own (sz : Nat) (rows : List (List C))
  | rs (r : Root) (p : Path) (sz off len : Nat)
  | pt (r : Root) (p : Path) (sz row off : Nat)
  | ps (cs : List C)
  | bad
  deriving Inhabited
inductive X where
  | one (c : C)
  | agg (cs : List C)
  deriving Inhabited
inductive V where
  | x (x : X)
  | tup (xs : List X)
  deriving Inhabited
inductive Kind where
  | box | sl | vr
  | mp (b : Nat) (es : List (Value × Value))
  | bl (T e b : Nat) (row : Option Nat) (s : ByteArray)
  deriving Inhabited
def Kind.isBox : Kind → Bool
  | .box => true
  | _ => false
def Kind.isMp : Kind → Bool
  | .mp _ _ => true
  | .bl .. => true
  | _ => false
theorem Kind.isBox_eq {k : Kind} (h : k.isBox = true) : k = .box := by cases k <;> first | rfl | cases h
structure Obj' where
  kind : Kind
  sz : Nat
  rows : List (List C)
  deriving Inhabited
abbrev Store := List (Root × Obj')
def getA : Store → Root → Option Obj'
  | [], _ => none
  | (k, ob) :: s, r => if k = r then some ob else getA s r
def setA : Store → Root → Obj' → Store
  | [], _, _ => []
  | (k, o) :: s, r, ob => if k = r then (k, ob) :: s else (k, o) :: setA s r ob
def delA : Store → Root → Store
  | [], _ => []
  | (k, o) :: s, r => if k = r then delA s r else (k, o) :: delA s r
theorem getA_setA (s : Store) (r r' : Root) (ob : Obj') : getA (setA s r ob) r' = if r = r' then (getA s r').map (fun _ => ob) else getA s r' := by
  induction s with
  | nil => simp [setA, getA]
  | cons h s ih =>
    obtain ⟨k, o⟩ := h
    by_cases hk : k = r
    · subst hk
      by_cases hr : k = r' <;> simp [setA, getA, hr]
    · by_cases hr : k = r'
      · subst hr
        have : ¬ r = k := fun h => hk h.symm
        simp [setA, getA, hk, this]
      · simp [setA, getA, hk, hr, ih]
theorem getA_delA (s : Store) (r r' : Root) : getA (delA s r) r' = if r = r' then none else getA s r' := by
  induction s with
  | nil => simp [delA, getA]
  | cons h s ih =>
    obtain ⟨k, o⟩ := h
    by_cases hk : k = r
    · subst hk
      simp only [delA, if_true, ih, getA]
      split <;> rfl
    · by_cases hr : k = r'
      · subst hr
        have : ¬ r = k := fun h => hk h.symm
        simp [delA, getA, hk, this]
      · simp [delA, getA, hk, hr, ih]
def rowsAt : Nat → List (List C) → Path → Option (Nat × List (List C))
  | sz, R, [] => some (sz, R)
  | _, R, (i, j) :: p => match (R[i]?).bind (·[j]?) with
    | some (.own sz' R') => rowsAt sz' R' p
    | _ => none
structure Gh where
  G : Root → Path → Option Nat
  S : Nat → Prop
def Live (o : Store) (r : Root) (p : Path) (sz : Nat) (R : List (List C)) : Prop := ∃ ob, getA o r = some ob ∧ rowsAt ob.sz ob.rows p = some (sz, R)
def cellAt (R : List (List C)) (i j : Nat) : C := (R.getD i []).getD j .bad
inductive Sh (w : World) (S : Nat → Prop) : C → Value → Prop
  | v (x : Value) : Sh w S (.v x) x
  | nil (sz : Nat) : Sh w S (.sh sz []) (.slice none 0 0)
  | slice (sz : Nat) (R : List (List C)) (a : Addr) (len cap : Nat) (vals : Nat → Nat → Value) (hl : R.length = len) (hc : len ≤ cap) (hm : cap ≤ maxLen)
      (hS : 0 < len → S a.block) (hz : ∀ i, i < len → (R.getD i []).length = sz)
      (hcell : ∀ i j, i < len → j < sz → w.cell? ((a.add (i * sz)).add j) = some (vals i j))
      (hsub : ∀ i j, i < len → j < sz → Sh w S (cellAt R i j) (vals i j)) : Sh w S (.sh sz R) (.slice (some a) len cap)
  | ptr (cs : List C) (a : Addr) (vals : Nat → Value) (hS : S a.block)
      (hcell : ∀ j, j < cs.length → w.cell? (a.add j) = some (vals j))
      (hsub : ∀ j, j < cs.length → Sh w S (cs.getD j .bad) (vals j)) : Sh w S (.ps cs) (.pointer (some a))
  | bad (x : Value) : Sh w S .bad x
def SlAt (g : Gh) (w : World) (r : Root) (p : Path) (sz off len : Nat) (y : Value) : Prop :=
  match g.G r p with
  | none => y = .slice none 0 0 ∧ len = 0
  | some b => ∃ a cap, y = .slice (some a) len cap ∧ a.block = b ∧ len ≤ cap ∧ cap ≤ maxLen ∧ (0 < len → a = ⟨b, off * sz, none⟩) ∧
      (off = 0 → a = ⟨b, 0, none⟩ ∧ ∃ cells e f, w.heap[b]? = some (.cells cells e f) ∧ cap * sz = cells.size) ∧
      (0 < len → ∃ cells e f, w.heap[b]? = some (.cells cells e f) ∧ (off + cap) * sz = cells.size)
def CR (w : World) (o : Store) (g : Gh) (l : Option (Root × Path × Nat × Nat)) (c : C) (y : Value) : Prop :=
  match c with
  | .v x => y = x
  | .sh sz R => Sh w g.S (.sh sz R) y
  | .ps cs => Sh w g.S (.ps cs) y
  | .own sz R => match l with
    | some (r, p, i, j) => SlAt g w r (p ++ [(i, j)]) sz 0 R.length y
    | none => False
  | .rs r p sz off len => ∃ R, Live o r p sz R ∧ off + len ≤ R.length ∧ SlAt g w r p sz off len y
  | .pt r p sz row off => ∃ R b, Live o r p sz R ∧ row < R.length ∧ g.G r p = some b ∧ y = .pointer (some ⟨b, row * sz + off, none⟩)
  | .bad => True
def XR (w : World) (o : Store) (g : Gh) : X → Value → Prop
  | .one c, y => CR w o g none c y
  | .agg cs, y => ∃ ys : List Value, y = .agg ys.toArray ∧ ys.length = cs.length ∧ ∀ j, j < cs.length → CR w o g none (cs.getD j .bad) (ys.getD j undef)
def VR (w : World) (o : Store) (g : Gh) : V → Value → Prop
  | .x x, y => XR w o g x y
  | .tup xs, y => ∃ ys : List Value, y = .tuple ys.toArray ∧ ys.length = xs.length ∧ ∀ j, j < xs.length → XR w o g (xs.getD j (.one .bad)) (ys.getD j undef)
def Thaw (f : Nat × Nat) (n : Nat) : Prop := ∀ i, i < n → ¬ (f.1 ≤ i ∧ i < f.2)
structure HeapRel (w : World) (o : Store) (g : Gh) : Prop where
  rows : ∀ r p sz R b, Live o r p sz R → g.G r p = some b → ¬ g.S b ∧ (∀ i, i < R.length → (R.getD i []).length = sz) ∧ ∃ cells e f, w.heap[b]? = some (.cells cells e f) ∧ Thaw f cells.size ∧
    R.length * sz ≤ cells.size ∧ ∀ i j, i < R.length → j < sz → CR w o g (some (r, p, i, j)) (cellAt R i j) (cells.getD (i * sz + j) undef)
  none : ∀ r p ob sz R, getA o r = some ob → rowsAt ob.sz ob.rows p = some (sz, R) → g.G r p = none → R = [] ∨ (ob.kind = .vr ∧ p = [])
  inj : ∀ r p sz R r' p' sz' R' b, Live o r p sz R → Live o r' p' sz' R' → g.G r p = some b → g.G r' p' = some b → r = r' ∧ p = p'
  S : ∀ k, g.S k → k < w.heap.size
mutual
def nr : C → Bool
  | .own _ R => nrRR R
  | .rs .. => false
  | .pt .. => false
  | _ => true
def nrR : List C → Bool
  | [] => true
  | c :: cs => nr c && nrR cs
def nrRR : List (List C) → Bool
  | [] => true
  | r :: rs => nrR r && nrRR rs
end
def refOr : C → Bool
  | .rs .. => true
  | .pt .. => true
  | c => nr c
def refRoot : C → Option Root
  | .rs r _ _ _ _ => some r
  | .pt r _ _ _ _ => some r
  | _ => none
def okObj (ob : Obj') : Bool :=
  match ob.kind with
  | .sl => nrRR ob.rows
  | .box => ob.rows.all fun row => row.all refOr
  | .vr => false
  | .mp _ _ => ob.rows.isEmpty
  | .bl .. => ob.rows.isEmpty
structure St where
  t : List V
  d : Nat
  l : Store
  g : Store
def St.o (σ : St) : Store := σ.l ++ σ.g
theorem getA_append (s s' : Store) (r : Root) : getA (s ++ s') r = match getA s r with | some ob => some ob | none => getA s' r := by
  induction s with
  | nil => rfl
  | cons h s ih =>
    obtain ⟨k, ob⟩ := h
    by_cases hk : k = r <;> simp [getA, hk, ih]
structure Keep (g0 : Gh) (w0 : World) (g : Gh) (w : World) : Prop where
  os : w.os = w0.os
  tape : w.tape = w0.tape
  output : w.output = w0.output
  size : w0.heap.size ≤ w.heap.size
  S : ∀ k, g0.S k → g.S k
  block : ∀ k, g0.S k → w.heap[k]? = w0.heap[k]?
def tabs : List (String × IntKind × List Int) := [("internal/strconv.uint64pow10", .u64, Lib.pow10Tab)]
class Tb (P : Program) (g : Gh) (w : World) : Prop where
  tab : ∀ n k zs v, (n, k, zs) ∈ tabs → P.globalNamed n = some v → g.S v ∧ Lib.TabIs P w n k zs
theorem Tb.on {P : Program} {g g' : Gh} {w w' : World} (h : Tb P g w) (hS : ∀ k, g.S k → g'.S k ∧ w'.heap[k]? = w.heap[k]?) : Tb P g' w' := ⟨fun n k zs v hm hv => by
  obtain ⟨h1, h2⟩ := h.tab n k zs v hm hv
  obtain ⟨h3, h4⟩ := hS v h1
  refine ⟨h3, ?_⟩
  unfold Lib.TabIs World.var? at h2 ⊢
  rw [hv] at h2 ⊢
  simp only [Option.bind_some] at h2 ⊢
  rw [h4]; exact h2⟩
theorem Tb.keep {P : Program} {g0 g : Gh} {w0 w : World} [h : Tb P g0 w0] (k : Keep g0 w0 g w) : Tb P g w := h.on fun x hx => ⟨k.S x hx, k.block x hx⟩
theorem Tb.of_none {P : Program} (h : (tabs.all fun t => (P.globalNamed t.1).isNone) = true) (g : Gh) (w : World) : Tb P g w := ⟨fun n k zs v hm hv => by
  rw [List.all_eq_true] at h
  have := h _ hm
  rw [hv] at this
  cases this⟩
structure Pin (g0 : Gh) (w0 : World) (s : Store) (g : Gh) (w : World) : Prop where
  at_ : ∀ r b, g0.G r [] = some b → ∀ ob, getA s r = some ob →
    g.G r [] = some b ∧ ∀ cells e f, w0.heap[b]? = some (.cells cells e f) → ∃ cells', w.heap[b]? = some (.cells cells' e f) ∧ cells'.size = cells.size
  nil_ : ∀ r, g0.G r [(0, 0)] = some 0 → ∀ ob, getA s r = some ob → g.G r [] = none
  old : ∀ r ob, getA s r = some ob → (∃ b, g0.G r [] = some b) ∨ g0.G r [(0, 0)] = some 0
theorem Pin.of_nil (g0 : Gh) (w0 : World) (g : Gh) (w : World) : Pin g0 w0 [] g w := ⟨fun _ _ _ _ h => (by cases h), fun _ _ _ h => (by cases h), fun _ _ h => (by cases h)⟩
def MapAt (w : World) (b : Nat) (es : List (Value × Value)) : Prop := ∃ arr cl, w.heap[b]? = some (.map arr cl) ∧ arr.toList.map (fun e => (e.key, e.val)) = es
def Free (w : World) (o : Store) (g : Gh) (k : Nat) : Prop := (∃ cs e f, w.heap[k]? = some (.cells cs e f)) ∧ ¬ g.S k ∧ ∀ r p sz R, Live o r p sz R → g.G r p ≠ some k
def Calm (w : World) (o : Store) (g : Gh) (w' : World) (o' : Store) (g' : Gh) : Prop := ∀ k, Free w o g k → w'.heap[k]? = w.heap[k]? ∧ Free w' o' g' k
theorem Calm.mk {w w' : World} {o o' : Store} {g g' : Gh} (h1 : ∀ k cs e f, Free w o g k → w.heap[k]? = some (.cells cs e f) → w'.heap[k]? = w.heap[k]?) (h2 : ∀ k, Free w o g k → ¬ g'.S k)
    (h3 : ∀ k, Free w o g k → ∀ r p sz R, Live o' r p sz R → g'.G r p ≠ some k) : Calm w o g w' o' g' := fun k hk => by
  obtain ⟨cs, e, f, hc⟩ := hk.1
  have := h1 k cs e f hk hc
  exact ⟨this, ⟨cs, e, f, this.trans hc⟩, h2 k hk, h3 k hk⟩
theorem Calm.same {w : World} {o o' : Store} {g : Gh} (h : ∀ r p sz R, Live o' r p sz R → ∃ sz' R', Live o r p sz' R') : Calm w o g w o' g :=
  .mk (fun _ _ _ _ _ _ => rfl) (fun _ hk => hk.2.1) fun _ hk r p sz R hl => by obtain ⟨_, _, h2⟩ := h r p sz R hl; exact hk.2.2 _ _ _ _ h2
theorem Free.lt {w : World} {o : Store} {g : Gh} {k : Nat} (h : Free w o g k) : k < w.heap.size := by
  obtain ⟨⟨cs, e, f, h⟩, _⟩ := h
  exact (Array.getElem?_eq_some_iff.1 h).1
theorem Calm.ext {w w' : World} {o o' : Store} {g g' : Gh} (hw : ∀ k, k < w.heap.size → (∀ r p sz R, Live o r p sz R → g.G r p ≠ some k) → w'.heap[k]? = w.heap[k]?) (hS : ∀ k, k < w.heap.size → g'.S k → g.S k)
    (hl : ∀ r p sz R k, Live o' r p sz R → g'.G r p = some k → k < w.heap.size → ∃ r0 p0 sz0 R0, Live o r0 p0 sz0 R0 ∧ g.G r0 p0 = some k) : Calm w o g w' o' g' :=
  .mk (fun k _ _ _ hk _ => hw k hk.lt hk.2.2) (fun k hk h => hk.2.1 (hS k hk.lt h)) fun k hk r p sz R h1 h2 => by
    obtain ⟨r0, p0, s0, R0, h3, h4⟩ := hl r p sz R k h1 h2 hk.lt
    exact hk.2.2 _ _ _ _ h3 h4
def BlAt (w : World) (T e b : Nat) (row : Option Nat) (s : ByteArray) : Prop :=
  T ≠ e ∧ ∃ p v, w.heap[b]? = some (.cells #[p, v] T (0, 0)) ∧ (p = .pointer none ∨ p = .pointer (some ⟨b, 0, none⟩)) ∧ w.ownsRow 0 e 1 v s.size (Lib.strCells s) ∧ v.ownBlock = row
theorem BlAt.mono {w w' : World} {T e b : Nat} {row : Option Nat} {s : ByteArray} (h : BlAt w T e b row s) (h1 : w'.heap[b]? = w.heap[b]?) (h2 : ∀ k, row = some k → w'.heap[k]? = w.heap[k]?) : BlAt w' T e b row s := by
  obtain ⟨hT, p, v, k1, k2, k3, k4⟩ := h
  refine ⟨hT, p, v, h1.trans k1, k2, ⟨k3.1, ?_⟩, k4⟩
  rcases k3.2 with hn | ⟨g, cap, cur, rfl, hb, hg, rest⟩
  · exact .inl hn
  · exact .inr ⟨g, cap, cur, rfl, hb, (h2 g (by rw [← k4]; rfl)).trans hg, rest⟩
structure BlOk (w : World) (o : Store) (g : Gh) : Prop where
  at_ : ∀ r ob T e b row s, getA o r = some ob → ob.kind = .bl T e b row s → BlAt w T e b row s ∧ Free w o g b ∧ ∀ k, row = some k → Free w o g k
  one : ∀ r ob T e b row s r' ob' T' e' b' row' s', getA o r = some ob → ob.kind = .bl T e b row s → getA o r' = some ob' → ob'.kind = .bl T' e' b' row' s' → r = r'
def Maps0 (w : World) (o : Store) (g : Gh) : Prop := ∀ r ob b es, getA o r = some ob → ob.kind = .mp b es → ¬ g.S b ∧ MapAt w b es ∧ ∀ r' ob' es', getA o r' = some ob' → ob'.kind = .mp b es' → r' = r
def MapsOk (w : World) (o : Store) (g : Gh) : Prop := Maps0 w o g ∧ BlOk w o g
theorem MapsOk.ren {w w' : World} {o o' : Store} {g g' : Gh} (f : Root → Root) (h : MapsOk w o g) (ho : ∀ r ob, getA o' r = some ob → ob.kind.isMp = true → ∃ ob0, getA o (f r) = some ob0 ∧ ob0.kind = ob.kind)
    (hf : ∀ r r' ob ob', getA o' r = some ob → getA o' r' = some ob' → f r = f r' → r = r') (hb : ∀ b arr cl, w.heap[b]? = some (.map arr cl) → ¬ g.S b → w'.heap[b]? = some (.map arr cl) ∧ ¬ g'.S b) (hc : Calm w o g w' o' g') : MapsOk w' o' g' := by
  refine ⟨fun r ob b es h1 h2 => ?_, ⟨fun r ob T e b row s h1 h2 => ?_, fun r ob T e b row s r' ob' T' e' b' row' s' h1 h2 h3 h4 => ?_⟩⟩
  · obtain ⟨ob0, k1, k2⟩ := ho r ob h1 (by rw [h2]; rfl)
    rw [h2] at k2
    obtain ⟨m1, ⟨arr, cl, m2, m3⟩, m4⟩ := h.1 (f r) ob0 b es k1 k2
    obtain ⟨n1, n2⟩ := hb b arr cl m2 m1
    refine ⟨n2, ⟨arr, cl, n1, m3⟩, fun r' ob' es' h3 h4 => ?_⟩
    obtain ⟨ob1, k3, k4⟩ := ho r' ob' h3 (by rw [h4]; rfl)
    rw [h4] at k4
    exact hf r' r ob' ob h3 h1 (m4 (f r') ob1 es' k3 k4)
  · obtain ⟨ob0, k1, k2⟩ := ho r ob h1 (by rw [h2]; rfl)
    rw [h2] at k2
    obtain ⟨m1, m2, m3⟩ := h.2.at_ (f r) ob0 T e b row s k1 k2
    exact ⟨m1.mono (hc b m2).1 fun k hk => (hc k (m3 k hk)).1, (hc b m2).2, fun k hk => (hc k (m3 k hk)).2⟩
  · obtain ⟨ob0, k1, k2⟩ := ho r ob h1 (by rw [h2]; rfl)
    obtain ⟨ob1, k3, k4⟩ := ho r' ob' h3 (by rw [h4]; rfl)
    rw [h2] at k2
    rw [h4] at k4
    exact hf r r' ob ob' h1 h3 (h.2.one _ _ _ _ _ _ _ _ _ _ _ _ _ _ k1 k2 k3 k4)
theorem MapsOk.mono {w w' : World} {o o' : Store} {g g' : Gh} (h : MapsOk w o g) (ho : ∀ r ob, getA o' r = some ob → ob.kind.isMp = true → ∃ ob0, getA o r = some ob0 ∧ ob0.kind = ob.kind)
    (hb : ∀ b arr cl, w.heap[b]? = some (.map arr cl) → ¬ g.S b → w'.heap[b]? = some (.map arr cl) ∧ ¬ g'.S b) (hc : Calm w o g w' o' g') : MapsOk w' o' g' := h.ren id ho (fun _ _ _ _ _ _ e => e) hb hc
theorem MapsOk.of_none {w : World} {o : Store} {g : Gh} (h : ∀ r ob, getA o r = some ob → ob.kind.isMp = false) : MapsOk w o g := by
  refine ⟨fun r ob b es h1 h2 => ?_, ⟨fun r ob T e b row s h1 h2 => ?_, fun r ob T e b row s r' ob' T' e' b' row' s' h1 h2 => ?_⟩⟩ <;>
  · have h3 := h r ob h1
    rw [h2] at h3; cases h3
theorem MapsOk.nil (w : World) (g : Gh) : MapsOk w [] g := ⟨fun _ _ _ _ h => (by cases h), fun _ _ _ _ _ _ _ h => (by cases h), fun _ _ _ _ _ _ _ _ _ _ _ _ _ _ h => (by cases h)⟩
structure Rel (g0 : Gh) (w0 : World) (σ : St) (g : Gh) (a : Act) (w : World) : Prop where
  defers : a.defers = []
  size : a.tmps.size = σ.t.length
  tmps : ∀ i, i < σ.t.length → VR w σ.o g (σ.t.getD i (.x (.one .bad))) (a.tmps.getD i undef)
  heap : HeapRel w σ.o g
  keep : Keep g0 w0 g w
  loc : ∀ r ob, getA σ.l r = some ob → σ.d ≤ r.1
  out : ∀ r ob, getA σ.g r = some ob → r.1 < σ.d
  obj : ∀ r ob, getA σ.o r = some ob → okObj ob = true
  maps : MapsOk w σ.o g
  pin : Pin g0 w0 σ.g g w
def Weak (σ σ' : St) : Prop := ∀ g0 w0 g a w, Rel g0 w0 σ g a w → ∃ g', Rel g0 w0 σ' g' a w
theorem Weak.refl (σ : St) : Weak σ σ := fun _ _ _ _ _ h => ⟨_, h⟩
theorem Weak.trans {σ σ' σ'' : St} (h : Weak σ σ') (h' : Weak σ' σ'') : Weak σ σ'' := fun _ _ _ _ _ k => let ⟨_, k'⟩ := h _ _ _ _ _ k; h' _ _ _ _ _ k'
theorem Sh.mono {w w' : World} {S S' : Nat → Prop} (h : ∀ k, S k → S' k ∧ w'.heap[k]? = w.heap[k]?) {c : C} {y : Value} (hs : Sh w S c y) : Sh w' S' c y := by
  induction hs with
  | v x => exact .v x
  | nil sz => exact .nil sz
  | slice sz R a len cap vals hl hc hm hS hz hcell _ ih =>
    have hb : ∀ n m, ((a.add n).add m).block = a.block := fun n m => by unfold Addr.add; split <;> split <;> rfl
    exact .slice sz R a len cap vals hl hc hm (fun h0 => (h _ (hS h0)).1) hz (fun i j hi hj => by
      rw [← hcell i j hi hj]; exact World.cell?_of_block (w := w) (by rw [hb]; exact (h _ (hS (by omega))).2)) ih
  | ptr cs a vals hS hcell _ ih =>
    have hb : ∀ n, (a.add n).block = a.block := fun n => by unfold Addr.add; split <;> rfl
    exact .ptr cs a vals (h _ hS).1 (fun j hj => by
      rw [← hcell j hj]; exact World.cell?_of_block (w := w) (by rw [hb]; exact (h _ hS).2)) ih
  | bad x => exact .bad x
structure Goes (w : World) (o : Store) (g : Gh) (w' : World) (o' : Store) (g' : Gh) : Prop where
  S : ∀ k, g.S k → g'.S k ∧ w'.heap[k]? = w.heap[k]?
  live : ∀ r p sz R, Live o r p sz R → (∃ R', Live o' r p sz R' ∧ R.length ≤ R'.length) ∧ g'.G r p = g.G r p ∧
    ∀ b cells e f, g.G r p = some b → w.heap[b]? = some (.cells cells e f) → ∃ cells', w'.heap[b]? = some (.cells cells' e f) ∧ cells'.size = cells.size
theorem Pin.goes {g0 g g' : Gh} {w0 w w' : World} {l s s' o' : Store} (h : Pin g0 w0 s g w) (hg : Goes w (l ++ s) g w' o' g') (hk : ∀ r ob, getA s' r = some ob → ∃ ob', getA s r = some ob') : Pin g0 w0 s' g' w' := by
  have hl : ∀ r ob, getA s r = some ob → ∃ ob', getA (l ++ s) r = some ob' := fun r ob h1 => by
    rw [getA_append]
    cases getA l r with
    | some x => exact ⟨x, rfl⟩
    | none => exact ⟨ob, h1⟩
  refine ⟨fun r b hb ob' h' => ?_, fun r hb ob' h' => ?_, fun r ob' h' => ?_⟩
  · obtain ⟨ob, h1⟩ := hk r ob' h'
    obtain ⟨h2, h3⟩ := h.at_ r b hb ob h1
    obtain ⟨ob', h4⟩ := hl r ob h1
    obtain ⟨_, k2, k3⟩ := hg.live r [] _ _ ⟨ob', h4, rfl⟩
    refine ⟨by rw [k2]; exact h2, fun cells e f hc => ?_⟩
    obtain ⟨c1, e1, e2⟩ := h3 cells e f hc
    obtain ⟨c2, e3, e4⟩ := k3 b c1 e f h2 e1
    exact ⟨c2, e3, e4.trans e2⟩
  · obtain ⟨ob, h1⟩ := hk r ob' h'
    have h2 := h.nil_ r hb ob h1
    obtain ⟨ob', h4⟩ := hl r ob h1
    obtain ⟨_, k2, _⟩ := hg.live r [] _ _ ⟨ob', h4, rfl⟩
    rw [k2]; exact h2
  · obtain ⟨ob, h1⟩ := hk r ob' h'
    exact h.old r ob h1
theorem SlAt.goes {w w' : World} {g g' : Gh} {r : Root} {p : Path} {sz off len : Nat} {y : Value} (hG : g'.G r p = g.G r p)
    (hb : ∀ b cells e f, g.G r p = some b → w.heap[b]? = some (.cells cells e f) → ∃ cells', w'.heap[b]? = some (.cells cells' e f) ∧ cells'.size = cells.size)
    (h : SlAt g w r p sz off len y) : SlAt g' w' r p sz off len y := by
  unfold SlAt at *
  rw [hG]
  cases hg : g.G r p with
  | none => simpa [hg] using h
  | some b =>
    simp only [hg] at h ⊢
    obtain ⟨a, cap, e1, eb, e2, e3, e4, e5, e6⟩ := h
    refine ⟨a, cap, e1, eb, e2, e3, e4, fun h0 => ?_, fun h0 => ?_⟩
    · obtain ⟨f1, cells, e, f, f2, f3⟩ := e5 h0
      obtain ⟨cells', k1, k2⟩ := hb b cells e f hg f2
      exact ⟨f1, cells', e, f, k1, by rw [k2]; exact f3⟩
    · obtain ⟨cells, e, f, f2, f3⟩ := e6 h0
      obtain ⟨cells', k1, k2⟩ := hb b cells e f hg f2
      exact ⟨cells', e, f, k1, by rw [k2]; exact f3⟩
theorem Live.unique {o : Store} {r : Root} {p : Path} {sz sz' : Nat} {R R' : List (List C)} (h : Live o r p sz R) (h' : Live o r p sz' R') : sz = sz' ∧ R = R' := by
  obtain ⟨ob, h1, h2⟩ := h
  obtain ⟨ob', k1, k2⟩ := h'
  rw [h1] at k1; cases k1
  rw [h2] at k2; cases k2; exact ⟨rfl, rfl⟩
theorem CR.goes {w w' : World} {o o' : Store} {g g' : Gh} (h : Goes w o g w' o' g') {c : C} {y : Value} (hc : CR w o g none c y) : CR w' o' g' none c y := by
  cases c with
  | v x => exact hc
  | sh sz R => exact Sh.mono h.S hc
  | ps cs => exact Sh.mono h.S hc
  | own sz R => exact hc
  | rs r p sz off len =>
    obtain ⟨R, hl, hn, hs⟩ := hc
    obtain ⟨⟨R', hl', hle⟩, hG, hb⟩ := h.live r p sz R hl
    exact ⟨R', hl', by omega, SlAt.goes hG hb hs⟩
  | pt r p sz row off =>
    obtain ⟨R, b, hl, hn, hg, hy⟩ := hc
    obtain ⟨⟨R', hl', hle⟩, hG, hb⟩ := h.live r p sz R hl
    exact ⟨R', b, hl', by omega, by rw [hG]; exact hg, hy⟩
  | bad => trivial
theorem XR.goes {w w' : World} {o o' : Store} {g g' : Gh} (h : Goes w o g w' o' g') {c : X} {y : Value} (hc : XR w o g c y) : XR w' o' g' c y := by
  cases c with
  | one c => exact CR.goes h hc
  | agg cs => obtain ⟨ys, e1, e2, e3⟩ := hc; exact ⟨ys, e1, e2, fun j hj => CR.goes h (e3 j hj)⟩
theorem VR.goes {w w' : World} {o o' : Store} {g g' : Gh} (h : Goes w o g w' o' g') {c : V} {y : Value} (hc : VR w o g c y) : VR w' o' g' c y := by
  cases c with
  | x c => exact XR.goes h hc
  | tup cs => obtain ⟨ys, e1, e2, e3⟩ := hc; exact ⟨ys, e1, e2, fun j hj => XR.goes h (e3 j hj)⟩
end Go.Rx
namespace Go.Rx
open Go.RowKit
def tySz (P : Program) (t : TypeId) : Option Nat := (P.info? t).map (·.size)
def tyAgg (P : Program) (t : TypeId) : Option Bool := (P.underlying t).map fun | .struct _ => true | .array _ _ => true | _ => false
def tyFld (P : Program) (s : TypeId) (f : Nat) : Option (Nat × TypeId) :=
  match P.underlying s with
  | some (.struct fs) => (fs[f]?).map fun f => (f.offset, f.type)
  | _ => none
def tyElem (P : Program) (t : TypeId) : Option TypeId :=
  match P.underlying t with
  | some (.slice e) => some e
  | _ => none
def ofVal : Value → V
  | .agg ys => .x (.agg (ys.toList.map .v))
  | y => .x (.one (.v y))
def ev (σ : St) : Operand → V
  | .tmp t => σ.t.getD t (.x (.one .bad))
  | .const x => ofVal x
  | .func f => .x (.one (.v (.func (.func f) #[] #[])))
  | .global g => .x (.one (.v (.pointer (some ⟨g, 0, none⟩))))
def pureIn {α : Type} (P : Program) : Sem α → Option α
  | .pure a => some a
  | .program k => pureIn P (k P)
  | .mark _ k => pureIn P k
  | _ => none
theorem pureIn_run {α : Type} {P : Program} {s : Sem α} {r : α} (h : pureIn P s = some r) (w : World) : s.run P w = .ok r w := by
  induction s with
  | pure a => simp only [pureIn, Option.some.injEq] at h; subst h; rfl
  | program k ih => simp only [pureIn] at h; simp only [Sem.run]; exact ih P h
  | mark m k ih => simp only [pureIn] at h; simp only [Sem.run]; exact ih h
  | _ => simp [pureIn] at h
def vals : List C → Option (List Value)
  | [] => some []
  | .v x :: cs => (vals cs).map (x :: ·)
  | _ :: _ => none
def plain : V → Option Value
  | .x (.one (.v x)) => some x
  | .x (.agg cs) => (vals cs).map fun ys => .agg ys.toArray
  | _ => none
theorem vals_length {cs : List C} {ys : List Value} (h : vals cs = some ys) : ys.length = cs.length := by
  induction cs generalizing ys with
  | nil => simp [vals] at h; simp [h]
  | cons c cs ih =>
    cases c <;> simp [vals] at h
    obtain ⟨a, ha, rfl⟩ := h
    simp [ih ha]
theorem vals_get {cs : List C} {ys : List Value} (h : vals cs = some ys) (j : Nat) (hj : j < cs.length) : cs.getD j .bad = .v (ys.getD j undef) := by
  induction cs generalizing ys j with
  | nil => simp at hj
  | cons c cs ih =>
    cases c <;> simp [vals] at h
    obtain ⟨a, ha, rfl⟩ := h
    cases j with
    | zero => simp
    | succ j => simpa using ih ha j (by simpa using hj)
theorem list_ext_getD {ys zs : List Value} (h : ys.length = zs.length) (h' : ∀ j, j < ys.length → ys.getD j undef = zs.getD j undef) : ys = zs := by
  apply List.ext_getElem h
  intro i h1 h2
  have := h' i h1
  simpa [List.getD, List.getElem?_eq_getElem h1, List.getElem?_eq_getElem h2] using this
section
variable {P : Program} {w : World} {o : Store} {g : Gh}
theorem plain_eq {x : V} {y z : Value} (h : plain x = some z) (hx : VR w o g x y) : y = z := by
  cases x with
  | tup xs => simp [plain] at h
  | x x =>
    cases x with
    | one c =>
      cases c <;> simp [plain] at h
      subst h; exact hx
    | agg cs =>
      simp only [plain, Option.map_eq_some_iff] at h
      obtain ⟨ys, h1, rfl⟩ := h
      obtain ⟨zs, rfl, e2, e3⟩ := hx
      have hl := vals_length h1
      rw [list_ext_getD (ys := zs) (zs := ys) (by omega) (fun j hj => by
        have := e3 j (by omega)
        rw [vals_get h1 j (by omega)] at this
        exact this)]
theorem ofVal_rel (y : Value) : VR w o g (ofVal y) y := by
  unfold ofVal
  split
  · rename_i ys
    refine ⟨ys.toList, by simp, by simp, fun j hj => ?_⟩
    simp only [List.length_map] at hj
    simp [List.getD, List.getElem?_map, List.getElem?_eq_getElem hj, CR]
  · exact rfl
theorem ev_rel {g0 : Gh} {w0 : World} {σ : St} {a : Act} (h : Rel g0 w0 σ g a w) (x : Operand) : VR w σ.o g (ev σ x) (a.eval x) := by
  cases x with
  | tmp t =>
    by_cases ht : t < σ.t.length
    · exact h.tmps t ht
    · simp only [ev, List.getD, List.getElem?_eq_none (Nat.le_of_not_lt ht)]
      trivial
  | const y => exact ofVal_rel y
  | func f => exact rfl
  | global k => exact rfl
def deloc (r : Root) (p : Path) (row : Nat) (j : Nat) : C → C
  | .own sz R => .rs r (p ++ [(row, j)]) sz 0 R.length
  | c => c
def delocs (r : Root) (p : Path) (row : Nat) : Nat → List C → List C
  | _, [] => []
  | j, c :: cs => deloc r p row j c :: delocs r p row (j + 1) cs
theorem delocs_length (r : Root) (p : Path) (row j : Nat) (cs : List C) : (delocs r p row j cs).length = cs.length := by
  induction cs generalizing j with
  | nil => rfl
  | cons c cs ih => simp [delocs, ih]
theorem delocs_get (r : Root) (p : Path) (row j : Nat) (cs : List C) (k : Nat) (hk : k < cs.length) : (delocs r p row j cs).getD k .bad = deloc r p row (j + k) (cs.getD k .bad) := by
  induction cs generalizing j k with
  | nil => simp at hk
  | cons c cs ih =>
    cases k with
    | zero => simp [delocs]
    | succ k =>
      have := ih (j + 1) k (by simpa using hk)
      simp only [delocs, List.getD_cons_succ, this]
      rw [show j + 1 + k = j + (k + 1) by omega]
theorem rowsAt_snoc {sz n m : Nat} {R : List (List C)} {p : Path} {i j : Nat} {Q Q' : List (List C)} (h : rowsAt sz R p = some (n, Q)) (hi : i < Q.length) (hj : j < (Q.getD i []).length)
    (hc : cellAt Q i j = .own m Q') : rowsAt sz R (p ++ [(i, j)]) = some (m, Q') := by
  induction p generalizing R sz with
  | nil =>
    simp only [rowsAt, Option.some.injEq, Prod.mk.injEq] at h
    obtain ⟨rfl, rfl⟩ := h
    have h1 : R[i]? = some (R.getD i []) := by simp [List.getD, List.getElem?_eq_getElem hi]
    have h2 : (R.getD i [])[j]? = some (.own m Q') := by
      rw [← hc]; unfold cellAt; simp only [List.getD_eq_getElem?_getD] at hj ⊢
      rw [List.getElem?_eq_getElem hj]; rfl
    simp only [List.nil_append, rowsAt, h1, Option.bind_some, h2]
  | cons x p ih =>
    obtain ⟨a, b⟩ := x
    rw [List.cons_append]
    cases hq : (R[a]?).bind (·[b]?) with
    | none => simp [rowsAt, hq] at h
    | some c =>
      cases c <;> simp only [rowsAt, hq] at h ⊢ <;> first | exact ih h | cases h
theorem deloc_rel {r : Root} {p : Path} {i j sz : Nat} {R : List (List C)} {y : Value} (hl : Live o r p sz R) (hi : i < R.length) (hj : j < (R.getD i []).length)
    (hc : CR w o g (some (r, p, i, j)) (cellAt R i j) y) : CR w o g none (deloc r p i j (cellAt R i j)) y := by
  cases h : cellAt R i j with
  | own m Q =>
    rw [h] at hc
    obtain ⟨ob, h1, h2⟩ := hl
    exact ⟨Q, ⟨ob, h1, rowsAt_snoc h2 hi hj h⟩, by omega, hc⟩
  | _ => rw [h] at hc; exact hc
theorem add_lit (b n m : Nat) : (⟨b, n, none⟩ : Addr).add m = ⟨b, n + m, none⟩ := by
  unfold Addr.add; split <;> simp_all
theorem run_loadCellsFrom {a : Addr} (f : Nat → Value) (w : World) : ∀ (n i : Nat) (acc : Array Value), (∀ j, j < n → w.cell? (a.add (i + j)) = some (f (i + j))) →
    (loadCellsFrom a i n acc).run P w = .ok (acc ++ ((List.range n).map fun j => f (i + j)).toArray) w
  | 0, i, acc, _ => by simp [loadCellsFrom]
  | n + 1, i, acc, h => by
    have h0 := h 0 (by omega)
    simp only [Nat.add_zero] at h0
    have ih := run_loadCellsFrom f w n (i + 1) (acc.push (f i)) (fun j hj => by have := h (j + 1) (by omega); rw [show i + 1 + j = i + (j + 1) by omega]; exact this)
    simp only [loadCellsFrom, load, Sem.run_bind, Sem.run, h0, Result.andThen_ok, ih]
    congr 1
    apply Array.ext'
    simp only [Array.toList_append, Array.toList_push, List.append_assoc, List.range_succ_eq_map, List.map_cons, List.map_map]
    simp [Function.comp_def, Nat.add_assoc, Nat.add_comm 1]
theorem run_loadCells {a : Addr} (f : Nat → Value) (w : World) (n : Nat) (h : ∀ j, j < n → w.cell? (a.add j) = some (f j)) :
    (loadCells a n).run P w = .ok ((List.range n).map f).toArray w := by
  have := run_loadCellsFrom (P := P) f w n 0 #[] (by simpa using h)
  simpa [loadCells] using this
end
end Go.Rx
namespace Go.Rx
open Go.RowKit
def partX (ag : Bool) (sz off : Nat) (cs : List C) : Option X :=
  if ag then some (.agg ((cs.drop off).take sz)) else (cs[off]?).map .one
def plain2 (a b : V) : Option (Value × Value) :=
  match plain a, plain b with
  | some x, some y => some (x, y)
  | _, _ => none
def slNil : BinOp → V → V → Option Bool
  | .eql, .x (.one (.sh _ (_ :: _))), .x (.one (.v (.slice none _ _))) => some false
  | .neq, .x (.one (.sh _ (_ :: _))), .x (.one (.v (.slice none _ _))) => some true
  | _, _, _ => none
def isSlT (P : Program) (t : TypeId) : Bool := match P.underlying t with
  | some (.slice _) => true
  | _ => false
def binV (P : Program) (op : BinOp) (t : TypeId) (x y : Operand) (a b : V) : Option V :=
  match plain2 a b with
  | some (a, b) => (pureIn P (do eqGuard op t x y a b; binOp op t a b)).map ofVal
  | none => match slNil op a b with
    | some r => if isSlT P t = true then some (.x (.one (.v (.bool r)))) else none
    | none => none
def nilV : V → Option V
  | .x (.one (.pt r p sz i j)) => some (.x (.one (.pt r p sz i j)))
  | .x (.one (.ps cs)) => some (.x (.one (.ps cs)))
  | _ => none
def fieldV (P : Program) (t : TypeId) (f : Nat) : V → Option V
  | .x (.agg cs) => match tyFld P t f with
    | some (off, ft) => match tyAgg P ft, tySz P ft with
      | some ag, some sz => (partX ag sz off cs).map .x
      | _, _ => none
    | none => none
  | _ => none
def extractV (i : Nat) : V → Option V
  | .tup xs => (xs[i]?).map .x
  | _ => none
def fieldAddrV (P : Program) (s : TypeId) (f : Nat) (a : V) : Option V :=
  match tyFld P s f with
  | some (off, ft) => match tySz P ft with
    | some (_ + 1) => match a with
      | .x (.one (.pt r p sz i j)) => some (.x (.one (.pt r p sz i (j + off))))
      | .x (.one (.ps cs)) => some (.x (.one (.ps (cs.drop off))))
      | _ => none
    | _ => none
  | none => none
def indexAddrV (P : Program) (t : TypeId) (a i : V) : Option V :=
  match tyElem P t, plain i with
  | some e, some (.int _ n) => match tySz P e with
    | some s => match a with
      | .x (.one (.rs r p sz off len)) => if sz = s ∧ 0 ≤ n ∧ n < len then some (.x (.one (.pt r p sz (off + n.toNat) 0))) else none
      | .x (.one (.sh sz R)) => if sz = s ∧ 0 ≤ n ∧ n < R.length then some (.x (.one (.ps (R.getD n.toNat [])))) else none
      | _ => none
    | none => none
  | _, _ => none
def loadV (P : Program) (o : Store) (t : TypeId) (a : V) : Option V :=
  match tyAgg P t, tySz P t with
  | some ag, some n => match a with
    | .x (.one (.ps cs)) => if n ≤ cs.length ∧ (ag = true ∨ n = 1) then (partX ag n 0 cs).map .x else none
    | .x (.one (.pt r p sz i j)) => match getA o r with
      | some ob => match rowsAt ob.sz ob.rows p with
        | some (sz', R) => if sz' = sz ∧ i < R.length ∧ j + n ≤ sz ∧ (ag = true ∨ n = 1) then (partX ag n 0 (delocs r p i j (((R.getD i []).drop j).take n))).map .x else none
        | none => none
      | none => none
    | _ => none
  | _, _ => none
def lenV : V → Option V
  | .x (.one (.rs _ _ _ _ len)) => some (.x (.one (.v (.int .i64 len))))
  | .x (.one (.sh _ R)) => some (.x (.one (.v (.int .i64 R.length))))
  | .x (.one (.v (.string s))) => some (.x (.one (.v (.int .i64 s.size))))
  | .x (.one (.v (.slice none 0 0))) => some (.x (.one (.v (.int .i64 0))))
  | _ => none
section
variable {P : Program} {w : World} {o : Store} {g : Gh}
theorem partX_rel {ag : Bool} {sz off : Nat} {cs : List C} {x : X} {ys : List Value} (h : partX ag sz off cs = some x) (hl : ys.length = cs.length)
    (hc : ∀ j, j < cs.length → CR w o g none (cs.getD j .bad) (ys.getD j undef)) :
    XR w o g x (if ag then .agg ((ys.drop off).take sz).toArray else ys.getD off undef) ∧ (ag = false → off < ys.length) := by
  unfold partX at h
  cases ag with
  | true =>
    simp only [if_true, Option.some.injEq] at h ⊢
    subst h
    refine ⟨⟨_, rfl, by simp [hl], fun j hj => ?_⟩, by simp⟩
    have hj' : j < min sz (cs.length - off) := by simpa using hj
    have := hc (off + j) (by omega)
    simp only [List.getD_eq_getElem?_getD, List.getElem?_take, List.getElem?_drop] at this ⊢
    rw [if_pos (by omega), if_pos (by omega)]
    exact this
  | false =>
    simp only [Bool.false_eq_true, if_false, Option.map_eq_some_iff] at h ⊢
    obtain ⟨c, h1, rfl⟩ := h
    have hlt : off < cs.length := by
      rcases Nat.lt_or_ge off cs.length with h' | h'
      · exact h'
      · simp [List.getElem?_eq_none h'] at h1
    refine ⟨?_, fun _ => by omega⟩
    have := hc off hlt
    simp only [List.getD_eq_getElem?_getD, h1, Option.getD_some] at this
    simpa [XR, List.getD_eq_getElem?_getD] using this
theorem plain2_eq {a b : V} {x y x' y' : Value} (h : plain2 a b = some (x', y')) (ha : VR w o g a x) (hb : VR w o g b y) : x = x' ∧ y = y' := by
  unfold plain2 at h
  split at h
  · rename_i u v hu hv
    cases h
    exact ⟨plain_eq hu ha, plain_eq hv hb⟩
  · cases h
theorem tySz_run {t : TypeId} {n : Nat} (h : tySz P t = some n) (w : World) : (sizeOf t).run P w = .ok n w := by
  unfold tySz at h
  simp only [Option.map_eq_some_iff] at h
  obtain ⟨i, h1, rfl⟩ := h
  simp [sizeOf, typeInfo, program, h1, Sem.run]
theorem tyAgg_run {t : TypeId} {b : Bool} (h : tyAgg P t = some b) (w : World) : (isAgg t).run P w = .ok b w := by
  unfold tyAgg at h
  simp only [Option.map_eq_some_iff] at h
  obtain ⟨d, h1, rfl⟩ := h
  simp only [isAgg, Sem.run_bind, run_underlying h1, Result.andThen_ok]
  cases d <;> rfl
theorem tyFld_spec {s : TypeId} {f off : Nat} {ft : TypeId} (h : tyFld P s f = some (off, ft)) : ∃ fs fd, P.underlying s = some (.struct fs) ∧ fs[f]? = some fd ∧ fd.offset = off ∧ fd.type = ft := by
  unfold tyFld at h
  split at h
  · rename_i fs hfs
    simp only [Option.map_eq_some_iff, Prod.mk.injEq] at h
    obtain ⟨fd, h1, h2, h3⟩ := h
    exact ⟨fs, fd, hfs, h1, h2, h3⟩
  · cases h
theorem tyElem_spec {t e : TypeId} (h : tyElem P t = some e) : P.underlying t = some (.slice e) := by
  unfold tyElem at h
  split at h
  · rename_i e' he; cases h; exact he
  · cases h
theorem pure_bind' {P : Program} {α β : Type} {s : Sem α} {r : α} {k : α → Sem β} (h : pureIn P s = some r) : pureIn P (s.bind k) = pureIn P (k r) := by
  induction s with
  | pure a => simp only [pureIn, Option.some.injEq] at h; subst h; rfl
  | program q ih => simp only [pureIn] at h; exact ih P h
  | mark m q ih => simp only [pureIn] at h; exact ih h
  | _ => simp [pureIn] at h
theorem equalNil {P : Program} {t : TypeId} (h : isSlT P t = true) (a : Addr) (l c l' c' : Nat) : pureIn P (Op.equal t (.slice (some a) l c) (.slice none l' c')) = some false := by
  unfold isSlT at h
  split at h
  · rename_i e hu
    show pureIn P (Op.equalIn (9999 + 1) t (.slice (some a) l c) (.slice none l' c')) = _
    unfold Op.equalIn
    have hu : pureIn P (underlying t) = some (.slice e) := by
      show pureIn P (match P.underlying t with | some d => Sem.pure d | none => stuck "no such type") = _
      rw [hu]; rfl
    exact (pure_bind' hu).trans rfl
  · cases h
theorem binV_run {op : BinOp} {t : TypeId} {x y : Operand} {a b r : V} {u v : Value} (h : binV P op t x y a b = some r) (ha : VR w o g a u) (hb : VR w o g b v) :
    ∃ z, (do eqGuard op t x y u v; binOp op t u v : Sem Value).run P w = .ok z w ∧ VR w o g r z := by
  unfold binV at h
  split at h
  · rename_i a' b' hp
    obtain ⟨rfl, rfl⟩ := plain2_eq hp ha hb
    simp only [Option.map_eq_some_iff] at h
    obtain ⟨z, h1, rfl⟩ := h
    exact ⟨z, pureIn_run h1 w, ofVal_rel z⟩
  · split at h
    · rename_i r' hs
      split at h
      · rename_i ht
        cases h
        unfold slNil at hs
        split at hs
        · cases hs
          cases ha with
          | slice sz R a len cap vals h1 =>
            cases (show v = _ from hb)
            refine ⟨.bool false, ?_, rfl⟩
            refine pureIn_run ?_ w
            show pureIn P ((Op.equal t (.slice (some a) len cap) (.slice none _ _)).bind fun r => Sem.pure (Value.bool r)) = _
            rw [pure_bind' (equalNil ht a _ _ _ _)]; rfl
        · cases hs
          cases ha with
          | slice sz R a len cap vals h1 =>
            cases (show v = _ from hb)
            refine ⟨.bool true, ?_, rfl⟩
            refine pureIn_run ?_ w
            show pureIn P ((Op.equal t (.slice (some a) len cap) (.slice none _ _)).bind fun r => Sem.pure (Value.bool (!r))) = _
            rw [pure_bind' (equalNil ht a _ _ _ _)]; rfl
        · cases hs
      · cases h
    · cases h
theorem nilV_run {a r : V} {u : Value} (h : nilV a = some r) (ha : VR w o g a u) : r = a ∧ ∃ q, u = .pointer (some q) := by
  unfold nilV at h
  split at h
  · cases h
    obtain ⟨R, b, _, _, _, hy⟩ := ha
    exact ⟨rfl, _, hy⟩
  · cases h
    cases ha
    exact ⟨rfl, _, rfl⟩
  · cases h
theorem fieldV_run {t : TypeId} {f : Nat} {a r : V} {u : Value} (h : fieldV P t f a = some r) (ha : VR w o g a u) :
    ∃ z, (Instr.field t u f).run P w = .ok z w ∧ VR w o g r z := by
  unfold fieldV at h
  split at h
  · rename_i cs
    split at h
    · rename_i off ft hfld
      split at h
      · rename_i ag sz hag hsz
        simp only [Option.map_eq_some_iff] at h
        obtain ⟨x, h1, rfl⟩ := h
        obtain ⟨ys, rfl, hl, hc⟩ := ha
        obtain ⟨fs, fd, k1, k2, rfl, rfl⟩ := tyFld_spec hfld
        obtain ⟨r1, r2⟩ := partX_rel h1 hl hc
        refine ⟨_, ?_, r1⟩
        simp only [Instr.field, Sem.run_bind, run_underlying k1, Result.andThen_ok, k2, part, asAgg, Sem.run_pure, tyAgg_run hag]
        cases ag with
        | true =>
          simp only [if_true, Sem.run_bind, tySz_run hsz, Result.andThen_ok, Sem.run_pure]
          congr 2
          apply Array.ext'
          simp [Nat.add_sub_cancel_left]
        | false =>
          have := r2 rfl
          simp [List.getD_eq_getElem?_getD, List.getElem?_eq_getElem this]
      · cases h
    · cases h
  · cases h
theorem extractV_run {i : Nat} {a r : V} {u : Value} (h : extractV i a = some r) (ha : VR w o g a u) :
    ∃ z, (Instr.extract u i).run P w = .ok z w ∧ VR w o g r z := by
  unfold extractV at h
  split at h
  · rename_i xs
    simp only [Option.map_eq_some_iff] at h
    obtain ⟨x, h1, rfl⟩ := h
    obtain ⟨ys, rfl, hl, hc⟩ := ha
    have hlt : i < xs.length := by
      rcases Nat.lt_or_ge i xs.length with h' | h'
      · exact h'
      · simp [List.getElem?_eq_none h'] at h1
    have := hc i hlt
    refine ⟨ys.getD i undef, ?_, ?_⟩
    · simp [Instr.extract, List.getD_eq_getElem?_getD, List.getElem?_eq_getElem (show i < ys.length by omega)]
    · simpa [VR, List.getD_eq_getElem?_getD, h1] using this
  · cases h
theorem getD_drop {cs : List C} {n j : Nat} : (cs.drop n).getD j .bad = cs.getD (n + j) .bad := by
  simp [List.getD_eq_getElem?_getD, List.getElem?_drop]
theorem Addr.add_add (a : Addr) (n m : Nat) : (a.add n).add m = a.add (n + m) := by
  unfold Addr.add; split <;> split <;> simp_all <;> omega
theorem fieldAddrV_run {s : TypeId} {f : Nat} {a r : V} {u : Value} (h : fieldAddrV P s f a = some r) (ha : VR w o g a u) :
    ∃ z, (Instr.fieldAt s u f).run P w = .ok z w ∧ VR w o g r z := by
  unfold fieldAddrV at h
  split at h
  · rename_i off ft hfld
    split at h
    · rename_i n hsz
      obtain ⟨fs, fd, k1, k2, rfl, rfl⟩ := tyFld_spec hfld
      have hrun : ∀ q, (Instr.fieldAt s (.pointer (some q)) f).run P w = .ok (.pointer (some (q.add fd.offset))) w := fun q => by
        simp [Instr.fieldAt, run_underlying k1, k2, Instr.sureAddr, fieldPlace, tySz_run hsz]
      split at h
      · cases h
        obtain ⟨R, b, h1, h2, h3, rfl⟩ := ha
        refine ⟨_, hrun _, R, b, h1, h2, h3, ?_⟩
        rw [add_lit, Nat.add_assoc]
      · cases h
        rename_i cs
        cases ha with
        | ptr _ q vals hS hcell hsub =>
          refine ⟨_, hrun _, Sh.ptr _ _ (fun j => vals (fd.offset + j)) ?_ (fun j hj => ?_) (fun j hj => ?_)⟩
          · have : (q.add fd.offset).block = q.block := by unfold Addr.add; split <;> rfl
            rw [this]; exact hS
          · rw [Addr.add_add]; simp only [List.length_drop] at hj; exact hcell _ (by omega)
          · rw [getD_drop]; simp only [List.length_drop] at hj; exact hsub _ (by omega)
      · cases h
    · cases h
  · cases h
theorem indexAddrV_run {t : TypeId} {a i r : V} {u v : Value} (h : indexAddrV P t a i = some r) (ha : VR w o g a u) (hi : VR w o g i v) :
    ∃ z, (Instr.indexAt t u v).run P w = .ok z w ∧ VR w o g r z := by
  unfold indexAddrV at h
  split at h
  · rename_i e k n hel hpl
    obtain rfl := plain_eq hpl hi
    split at h
    · rename_i s hsz
      have hrun : ∀ (q : Addr) (len cap : Nat), 0 ≤ n → n < len → (Instr.indexAt t (.slice (some q) len cap) (.int k n)).run P w = .ok (.pointer (some (q.add (n.toNat * s)))) w := fun q len cap h0 h1 => by
        simp [Instr.indexAt, asIntOf, run_underlying (tyElem_spec hel), h0, h1, tySz_run hsz]
      split at h
      · rename_i rr p sz off len
        split at h
        · rename_i hc
          obtain ⟨rfl, h0, h1⟩ := hc
          cases h
          obtain ⟨R, hl, hn, hs⟩ := ha
          unfold SlAt at hs
          split at hs
          · omega
          · rename_i b hb
            obtain ⟨q, cap, rfl, _, _, _, hq, _⟩ := hs
            obtain rfl := hq (by omega)
            refine ⟨_, hrun _ _ _ h0 h1, R, b, hl, by omega, hb, ?_⟩
            rw [add_lit, Nat.add_zero, Nat.add_mul]
        · cases h
      · rename_i sz R
        split at h
        · rename_i hc
          obtain ⟨rfl, h0, h1⟩ := hc
          cases h
          cases ha with
          | nil => simp at h1; omega
          | slice _ _ q len cap vals hl hc hm hS hz hcell hsub =>
            refine ⟨_, hrun _ _ _ h0 (by omega), Sh.ptr _ _ (fun j => vals n.toNat j) ?_ (fun j hj => ?_) (fun j hj => ?_)⟩
            · have : (q.add (n.toNat * sz)).block = q.block := by unfold Addr.add; split <;> rfl
              rw [this]; exact hS (by omega)
            · rw [hz _ (by omega)] at hj; exact hcell _ _ (by omega) hj
            · rw [hz _ (by omega)] at hj; exact hsub _ _ (by omega) hj
        · cases h
      · cases h
    · cases h
  · cases h
theorem CR.of_sh {l : Option (Root × Path × Nat × Nat)} {c : C} {y : Value} (h : Sh w g.S c y) : CR w o g l c y := by
  cases h with
  | v x => exact rfl
  | nil sz => exact Sh.nil sz
  | slice sz R a len cap vals h1 h2 h3 h4 h5 h6 h7 => exact Sh.slice sz R a len cap vals h1 h2 h3 h4 h5 h6 h7
  | ptr cs a vals h1 h2 h3 => exact Sh.ptr cs a vals h1 h2 h3
  | bad x => trivial
theorem getD_take_drop {ys : List C} {i n j : Nat} (hj : j < n) : ((ys.drop i).take n).getD j .bad = ys.getD (i + j) .bad := by
  simp [List.getD_eq_getElem?_getD, List.getElem?_drop, hj]
theorem loadV_run (hh : HeapRel w o g) {t : TypeId} {a r : V} {u : Value} (h : loadV P o t a = some r) (ha : VR w o g a u) :
    ∃ z, (Instr.loadAt t u).run P w = .ok z w ∧ VR w o g r z := by
  unfold loadV at h
  split at h
  · rename_i ag n hag hsz
    have key : ∀ (q : Addr) (cs : List C) (f : Nat → Value) (x : X), (ag = true ∨ n = 1) → partX ag n 0 cs = some x → cs.length = n → (∀ j, j < n → w.cell? (q.add j) = some (f j)) →
        (∀ j, j < n → CR w o g none (cs.getD j .bad) (f j)) → ∃ z, (Instr.loadAt t (.pointer (some q))).run P w = .ok z w ∧ VR w o g (.x x) z := by
      intro q cs f x hn hp hcs hcell hcr
      have hys : ((List.range n).map f).length = cs.length := by simp [hcs]
      obtain ⟨r1, r2⟩ := partX_rel (w := w) (o := o) (g := g) (ys := (List.range n).map f) hp hys (fun j hj => by
        have := hcr j (by omega)
        have hj' : j < n := by omega
        simpa [List.getD_eq_getElem?_getD, List.getElem?_map, List.getElem?_range, hj'] using this)
      refine ⟨_, ?_, r1⟩
      simp only [Instr.loadAt, Instr.sureAddr, loadVar, Sem.run_bind, Sem.run_pure, Result.andThen_ok, tyAgg_run hag]
      cases ag with
      | true =>
        simp only [if_true, Sem.run_bind, tySz_run hsz, Result.andThen_ok, run_loadCells f w n hcell, Sem.run_pure]
        congr 2
        simp only [List.drop_zero]
        rw [List.take_of_length_le (by simp)]
      | false =>
        obtain rfl : n = 1 := by rcases hn with h | h; cases h; exact h
        have h0 := hcell 0 (by omega)
        have : q.add 0 = q := by simp [Addr.add]
        rw [this] at h0
        simp [load, Sem.run, h0]
    split at h
    · rename_i cs
      split at h
      · rename_i hc
        obtain ⟨hn, hg⟩ := hc
        simp only [Option.map_eq_some_iff] at h
        obtain ⟨x, h1, rfl⟩ := h
        cases ha with
        | ptr _ q vals hS hcell hsub =>
          have hp' : partX ag n 0 (cs.take n) = some x := by
            rw [← h1]; unfold partX
            cases ag with
            | true => simp [List.take_take]
            | false =>
              obtain rfl : n = 1 := by rcases hg with h | h; cases h; exact h
              cases cs <;> simp
          refine key q (cs.take n) vals x hg hp' (by simp; omega) (fun j hj => hcell j (by omega)) (fun j hj => ?_)
          have hs := hsub j (by omega)
          have : (cs.take n).getD j .bad = cs.getD j .bad := by simp [List.getD_eq_getElem?_getD, hj]
          rw [this]
          exact CR.of_sh hs
      · cases h
    · rename_i rr p sz i j
      split at h
      · rename_i ob hob
        split at h
        · rename_i sz' R hR
          split at h
          · rename_i hc
            obtain ⟨rfl, hi, hj, hg⟩ := hc
            simp only [Option.map_eq_some_iff] at h
            obtain ⟨x, h1, rfl⟩ := h
            obtain ⟨R', b, hl, hlt, hgb, rfl⟩ := ha
            have hlive : Live o rr p sz' R := ⟨ob, hob, hR⟩
            obtain ⟨_, rfl⟩ := Live.unique hlive hl
            obtain ⟨_, hlen, cells, e, f, hb, _, hsize, hcr⟩ := hh.rows rr p sz' R b hlive hgb
            have hrow := hlen i hi
            have hmul : (i + 1) * sz' ≤ R.length * sz' := Nat.mul_le_mul_right _ (by omega)
            rw [Nat.add_mul, Nat.one_mul] at hmul
            refine key _ _ (fun k => cells.getD (i * sz' + (j + k)) undef) x hg h1 ?_ (fun k hk => ?_) (fun k hk => ?_)
            · rw [delocs_length, List.length_take, List.length_drop, hrow]; omega
            · rw [add_lit]
              have hin : i * sz' + (j + k) < cells.size := by omega
              simp only [World.cell?, hb, Nat.add_assoc]
              simp [Array.getD, hin]
            · rw [delocs_get _ _ _ _ _ _ (by rw [List.length_take, List.length_drop, hrow]; omega), getD_take_drop hk]
              have := hcr i (j + k) hi (by omega)
              exact deloc_rel hlive hi (by omega) this
          · cases h
        · cases h
      · cases h
    · cases h
  · cases h
end
end Go.Rx
namespace Go.Rx
open Go.RowKit
def put (σ : St) (dst : Option Tmp) (v : V) : St :=
  match dst with
  | some d => { σ with t := σ.t.set d v }
  | none => σ
theorem put_o (σ : St) (dst : Option Tmp) (v : V) : (put σ dst v).o = σ.o := by cases dst <;> rfl
section
variable {P : Program} {w w0 : World} {g g0 : Gh} {σ : St} {a : Act}
theorem Act.put_defers (a : Act) (dst : Option Tmp) (v : Value) : (a.put dst v).defers = a.defers := by cases dst <;> rfl
theorem Rel.put (h : Rel g0 w0 σ g a w) (dst : Option Tmp) {v : V} {y : Value} (hv : VR w σ.o g v y) : Rel g0 w0 (put σ dst v) g (a.put dst y) w := by
  cases dst with
  | none => exact h
  | some d =>
    refine ⟨h.defers, by simp [Rx.put, Act.put, h.size], fun i hi => ?_, h.heap, h.keep, h.loc, h.out, h.obj, h.maps, h.pin⟩
    simp only [Rx.put, List.length_set] at hi
    show VR w σ.o g ((σ.t.set d v).getD i _) ((a.tmps.setIfInBounds d y).getD i undef)
    have hsz := h.size
    by_cases hd : d = i
    · subst hd
      simpa [List.getD_eq_getElem?_getD, List.getElem?_set, hi, Array.getD, hsz] using hv
    · have := h.tmps i hi
      simp only [List.getD_eq_getElem?_getD, List.getElem?_set, hd, if_false, Array.getD_eq_getD_getElem?, Array.getElem?_setIfInBounds_ne hd] at this ⊢
      exact this
def Gh.new (g : Gh) (r0 : Root) (b : Nat) : Gh := { g with G := fun r p => if r = r0 then (if p = [] then some b else none) else g.G r p }
def noOwn (R : List (List C)) : Prop := ∀ i j sz Q, i < R.length → j < (R.getD i []).length → cellAt R i j ≠ .own sz Q
theorem rowsAt_noOwn {sz n : Nat} {R Q : List (List C)} {p : Path} (h : noOwn R) (hr : rowsAt sz R p = some (n, Q)) : p = [] ∧ n = sz ∧ Q = R := by
  cases p with
  | nil => simp only [rowsAt, Option.some.injEq, Prod.mk.injEq] at hr; exact ⟨rfl, hr.1.symm, hr.2.symm⟩
  | cons x p =>
    obtain ⟨i, j⟩ := x
    simp only [rowsAt] at hr
    split at hr
    · rename_i sz' R' hq
      exfalso
      cases hi : R[i]? with
      | none => simp [hi] at hq
      | some row =>
        simp only [hi, Option.bind_some] at hq
        have h1 : i < R.length := by
          rcases Nat.lt_or_ge i R.length with h' | h'
          · exact h'
          · simp [List.getElem?_eq_none h'] at hi
        have h2 : R.getD i [] = row := by simp [List.getD_eq_getElem?_getD, hi]
        have h3 : j < row.length := by
          rcases Nat.lt_or_ge j row.length with h' | h'
          · exact h'
          · simp [List.getElem?_eq_none h'] at hq
        exact h i j sz' R' h1 (by rw [h2]; exact h3) (by unfold cellAt; rw [h2]; simp [List.getD_eq_getElem?_getD, hq])
    · cases hr
theorem CR.any {w : World} {o : Store} {g : Gh} {c : C} {y : Value} (l : Option (Root × Path × Nat × Nat)) (h : CR w o g none c y) : CR w o g l c y := by
  cases c <;> first | exact h | exact h.elim
theorem CR.goesAt {w w' : World} {o o' : Store} {g g' : Gh} (h : Goes w o g w' o' g') {r : Root} {p : Path} {i j sz : Nat} {R : List (List C)} {y : Value} (hl : Live o r p sz R)
    (hi : i < R.length) (hj : j < (R.getD i []).length) (hc : CR w o g (some (r, p, i, j)) (cellAt R i j) y) : CR w' o' g' (some (r, p, i, j)) (cellAt R i j) y := by
  cases hq : cellAt R i j with
  | own m Q =>
    rw [hq] at hc
    obtain ⟨ob, h1, h2⟩ := hl
    obtain ⟨_, hG, hb⟩ := h.live r _ m Q ⟨ob, h1, rowsAt_snoc h2 hi hj hq⟩
    exact SlAt.goes hG hb hc
  | v x => rw [hq] at hc; exact CR.any _ (CR.goes h (c := .v x) hc)
  | sh m Q => rw [hq] at hc; exact CR.any _ (CR.goes h (c := .sh m Q) hc)
  | rs r' p' m f n => rw [hq] at hc; exact CR.any _ (CR.goes h (c := .rs r' p' m f n) hc)
  | pt r' p' m f n => rw [hq] at hc; exact CR.any _ (CR.goes h (c := .pt r' p' m f n) hc)
  | ps cs => rw [hq] at hc; exact CR.any _ (CR.goes h (c := .ps cs) hc)
  | bad => trivial
theorem heap_alloc (w : World) (o : Obj) (k : Nat) (h : k < w.heap.size) : (w.alloc o).heap[k]? = w.heap[k]? := Below.heap_alloc w o k h
theorem heap_alloc_new (w : World) (o : Obj) : (w.alloc o).heap[w.heap.size]? = some o := by
  show (w.heap.push o)[w.heap.size]? = some o
  simp
theorem block_lt {w : World} {b : Nat} {o : Obj} (h : w.heap[b]? = some o) : b < w.heap.size := (Array.getElem?_eq_some_iff.1 h).1
theorem Rel.new' (h : Rel g0 w0 σ g a w) (n : Nat) (k : Kind) (sz : Nat) (R : List (List C)) (cells : Array Value) (e : TypeId) (fz : Nat × Nat) (hth : Thaw fz cells.size) (hf : getA σ.l (σ.d, n) = none) (hok : okObj ⟨k, sz, R⟩ = true)
    (hlen : ∀ i, i < R.length → (R.getD i []).length = sz) (hsize : R.length * sz ≤ cells.size)
    (hc : ∀ i j, i < R.length → j < sz → CR w σ.o g none (cellAt R i j) (cells.getD (i * sz + j) undef)) (hkm : k.isMp = false := by rfl) :
    Rel g0 w0 { σ with l := ((σ.d, n), ⟨k, sz, R⟩) :: σ.l } (g.new (σ.d, n) w.heap.size) a (w.alloc (.cells cells e fz)) ∧
      Goes w σ.o g (w.alloc (.cells cells e fz)) (((σ.d, n), ⟨k, sz, R⟩) :: σ.o) (g.new (σ.d, n) w.heap.size) := by
  have hfo : getA σ.o (σ.d, n) = none := by
    show getA (σ.l ++ σ.g) _ = none
    rw [getA_append, hf]
    cases hq : getA σ.g (σ.d, n) with
    | none => rfl
    | some ob => exact absurd (h.out _ _ hq) (Nat.lt_irrefl _)
  have hno : noOwn R := fun i j m Q hi hj hq => by
    have := hc i j hi (by rw [hlen i hi] at hj; exact hj)
    rw [hq] at this; exact this
  have hget : ∀ r, getA (((σ.d, n), (⟨k, sz, R⟩ : Obj')) :: σ.o) r = if (σ.d, n) = r then some ⟨k, sz, R⟩ else getA σ.o r := fun r => rfl
  have hne : ∀ r ob, getA σ.o r = some ob → r ≠ (σ.d, n) := fun r ob hr e => by rw [e, hfo] at hr; cases hr
  have hlive : ∀ r p m Q, Live σ.o r p m Q → Live (((σ.d, n), (⟨k, sz, R⟩ : Obj')) :: σ.o) r p m Q := fun r p m Q ⟨ob, h1, h2⟩ =>
    ⟨ob, by rw [hget, if_neg (fun e => hne r ob h1 e.symm)]; exact h1, h2⟩
  have hgoes : Goes w σ.o g (w.alloc (.cells cells e fz)) (((σ.d, n), ⟨k, sz, R⟩) :: σ.o) (g.new (σ.d, n) w.heap.size) := by
    refine ⟨fun b hb => ⟨hb, heap_alloc w _ b (h.heap.S b hb)⟩, fun r p m Q hl => ⟨⟨Q, hlive r p m Q hl, Nat.le_refl _⟩, ?_, fun b cs e' f' hg hb => ⟨cs, ?_, rfl⟩⟩⟩
    · obtain ⟨ob, h1, _⟩ := hl
      simp [Gh.new, hne r ob h1]
    · rw [heap_alloc w _ b (block_lt hb)]; exact hb
  have hsplit : ∀ r p m Q, Live (((σ.d, n), (⟨k, sz, R⟩ : Obj')) :: σ.o) r p m Q → (r = (σ.d, n) ∧ p = [] ∧ m = sz ∧ Q = R) ∨ Live σ.o r p m Q := by
    intro r p m Q ⟨ob, h1, h2⟩
    rw [hget] at h1
    by_cases hr : (σ.d, n) = r
    · rw [if_pos hr] at h1
      cases h1
      exact .inl ⟨hr.symm, rowsAt_noOwn hno h2⟩
    · rw [if_neg hr] at h1
      exact .inr ⟨ob, h1, h2⟩
  refine ⟨⟨h.defers, h.size, fun i hi => VR.goes hgoes (h.tmps i hi), ⟨?_, ?_, ?_, ?_⟩, ⟨h.keep.os, h.keep.tape, h.keep.output, ?_, h.keep.S, ?_⟩, ?_, h.out, ?_, h.maps.mono (fun r ob h1 h2 => ?_) (fun b arr cl h1 h2 => ⟨by rw [heap_alloc w _ b (block_lt h1)]; exact h1, h2⟩) (.ext (fun k hk _ => heap_alloc w _ k hk) (fun k _ hs => hs) fun r p m Q k hl hG hk => (by
      rcases hsplit r p m Q hl with ⟨rfl, rfl, rfl, rfl⟩ | hl'
      · simp only [Gh.new, if_true, Option.some.injEq] at hG
        omega
      · have hne' : r ≠ (σ.d, n) := by obtain ⟨ob, h1, _⟩ := hl'; exact hne r ob h1
        simp only [Gh.new, if_neg hne'] at hG
        exact ⟨_, _, _, _, hl', hG⟩)), h.pin.goes hgoes fun _ ob h => ⟨ob, h⟩⟩, hgoes⟩
  · intro r p m Q b hl hg
    rcases hsplit r p m Q hl with ⟨rfl, rfl, rfl, rfl⟩ | hl'
    · simp only [Gh.new, if_true, Option.some.injEq] at hg
      subst hg
      refine ⟨fun hs => absurd (h.heap.S _ hs) (Nat.lt_irrefl _), hlen, cells, e, fz, heap_alloc_new w _, hth, hsize, fun i j hi hj => ?_⟩
      exact CR.any _ (CR.goes hgoes (hc i j hi hj))
    · have hne' : r ≠ (σ.d, n) := by obtain ⟨ob, h1, _⟩ := hl'; exact hne r ob h1
      simp only [Gh.new, if_neg hne'] at hg
      obtain ⟨k1, k2, cs, e', f', k3, kf, k4, k5⟩ := h.heap.rows r p m Q b hl' hg
      refine ⟨k1, k2, cs, e', f', ?_, kf, k4, fun i j hi hj => CR.goesAt hgoes hl' hi (by rw [k2 i hi]; exact hj) (k5 i j hi hj)⟩
      rw [heap_alloc w _ b (block_lt k3)]; exact k3
  · intro r p ob m Q h1 h2 hg
    change getA (((σ.d, n), (⟨k, sz, R⟩ : Obj')) :: σ.o) r = some ob at h1
    rw [hget] at h1
    by_cases hr : (σ.d, n) = r
    · rw [if_pos hr] at h1
      cases h1
      obtain ⟨rfl, _, _⟩ := rowsAt_noOwn hno h2
      simp [Gh.new, hr.symm] at hg
    · rw [if_neg hr] at h1
      simp only [Gh.new, if_neg (fun e => hr e.symm : r ≠ (σ.d, n))] at hg
      exact h.heap.none r p ob m Q h1 h2 hg
  · intro r p m Q r' p' m' Q' b hl hl' hg hg'
    have old : ∀ r p m Q b, Live σ.o r p m Q → (g.new (σ.d, n) w.heap.size).G r p = some b → g.G r p = some b ∧ b < w.heap.size := fun r p m Q b hl hg => by
      have hne' : r ≠ (σ.d, n) := by obtain ⟨ob, h1, _⟩ := hl; exact hne r ob h1
      simp only [Gh.new, if_neg hne'] at hg
      obtain ⟨_, _, cs, e', f', k3, _⟩ := h.heap.rows r p m Q b hl hg
      exact ⟨hg, block_lt k3⟩
    rcases hsplit r p m Q hl with ⟨rfl, rfl, rfl, rfl⟩ | hl1 <;> rcases hsplit r' p' m' Q' hl' with ⟨rfl, rfl, rfl, rfl⟩ | hl2
    · exact ⟨rfl, rfl⟩
    · simp only [Gh.new, if_true, Option.some.injEq] at hg
      have := (old _ _ _ _ _ hl2 hg').2
      omega
    · simp only [Gh.new, if_true, Option.some.injEq] at hg'
      have := (old _ _ _ _ _ hl1 hg).2
      omega
    · exact h.heap.inj r p m Q r' p' m' Q' b hl1 hl2 (old _ _ _ _ _ hl1 hg).1 (old _ _ _ _ _ hl2 hg').1
  · intro b hb
    have := h.heap.S b hb
    simp; omega
  · have := h.keep.size
    simp; omega
  · intro b hb
    rw [heap_alloc w _ b (h.heap.S b (h.keep.S b hb))]
    exact h.keep.block b hb
  · intro r ob hr
    by_cases hk' : (σ.d, n) = r
    · rw [← hk']; exact Nat.le_refl _
    · simp only [getA, if_neg hk'] at hr
      exact h.loc r ob hr
  · intro r ob hr
    change getA (((σ.d, n), (⟨k, sz, R⟩ : Obj')) :: σ.o) r = some ob at hr
    rw [hget] at hr
    split at hr
    · cases hr; exact hok
    · exact h.obj r ob hr
  · change getA (((σ.d, n), (⟨k, sz, R⟩ : Obj')) :: σ.o) r = some ob at h1
    rw [hget] at h1
    split at h1
    · cases h1
      simp only at h2
      rw [h2] at hkm; cases hkm
    · exact ⟨ob, h1, rfl⟩
theorem Rel.new (h : Rel g0 w0 σ g a w) (n : Nat) (k : Kind) (sz : Nat) (R : List (List C)) (cells : Array Value) (e : TypeId) (hf : getA σ.l (σ.d, n) = none) (hok : okObj ⟨k, sz, R⟩ = true)
    (hlen : ∀ i, i < R.length → (R.getD i []).length = sz) (hsize : R.length * sz ≤ cells.size)
    (hc : ∀ i j, i < R.length → j < sz → CR w σ.o g none (cellAt R i j) (cells.getD (i * sz + j) undef)) (hkm : k.isMp = false := by rfl) :
    Rel g0 w0 { σ with l := ((σ.d, n), ⟨k, sz, R⟩) :: σ.l } (g.new (σ.d, n) w.heap.size) a (w.alloc (.cells cells e)) ∧
      Goes w σ.o g (w.alloc (.cells cells e)) (((σ.d, n), ⟨k, sz, R⟩) :: σ.o) (g.new (σ.d, n) w.heap.size) :=
  h.new' n k sz R cells e (0, 0) (fun _ _ h => absurd h.2 (Nat.not_lt_zero _)) hf hok hlen hsize hc hkm
end
end Go.Rx
namespace Go.Rx
open Go.RowKit
inductive Ex where
  | normal | exit (id : Nat) | ret
  deriving DecidableEq
def toEx : Exit → Option Ex
  | .normal => some .normal
  | .exit id => some (.exit id)
  | .ret => some .ret
  | _ => none
def gd (σ : St) (ops : Array Oper) (o : Oper) : Option Bool :=
  match o.guard with
  | none => some true
  | some (j, b) => match (ops[j]?).bind (·.dst) with
    | some d => match plain (σ.t.getD d (.x (.one .bad))) with
      | some (.bool t) => some (t == b)
      | some (.tuple _) => some false
      | _ => none
    | none => none
section
variable {P : Program} {g0 : Gh} {w0 : World}
theorem gd_spec {σ : St} {g : Gh} {a : Act} {w : World} (h : Rel g0 w0 σ g a w) {ops : Array Oper} {o : Oper} {b : Bool} (hg : gd σ ops o = some b) :
    Region.wanted o (yielded ops a.tmps) = b := by
  unfold gd at hg
  unfold Region.wanted
  split at hg
  · rename_i hn; rw [hn]; exact Option.some.inj hg
  · rename_i j c hn
    rw [hn]
    split at hg
    · rename_i d hd
      split at hg
      · rename_i t ht
        cases hg
        have hlt : d < σ.t.length := by
          rcases Nat.lt_or_ge d σ.t.length with h' | h'
          · exact h'
          · simp [List.getD_eq_getElem?_getD, List.getElem?_eq_none h', plain] at ht
        have hv := plain_eq ht (h.tmps d hlt)
        have hd2 : a.tmps[d]? = some (.bool t) := by
          have : d < a.tmps.size := by rw [h.size]; exact hlt
          rw [← hv, Array.getElem?_eq_getElem this]
          simp [Array.getD, this]
        simp only [yielded, hd, Option.bind_some, hd2]
        cases t <;> cases c <;> rfl
      · rename_i xs ht
        cases hg
        have hlt : d < σ.t.length := by
          rcases Nat.lt_or_ge d σ.t.length with h' | h'
          · exact h'
          · simp [List.getD_eq_getElem?_getD, List.getElem?_eq_none h', plain] at ht
        have hv := plain_eq ht (h.tmps d hlt)
        have hd2 : a.tmps[d]? = some (.tuple xs) := by
          have : d < a.tmps.size := by rw [h.size]; exact hlt
          rw [← hv, Array.getElem?_eq_getElem this]
          simp [Array.getD, this]
        simp only [yielded, hd, Option.bind_some, hd2]
        cases c <;> rfl
      · cases hg
    · cases hg
def Post (g0 : Gh) (w0 : World) (Q : Ex → St → Prop) : Exit → Act → World → Prop := fun e a w =>
  ∃ e', toEx e = some e' ∧ ∃ σ g, Q e' σ ∧ Rel g0 w0 σ g a w
theorem Post.mono {Q Q' : Ex → St → Prop} (h : ∀ e σ, Q e σ → Q' e σ) {e : Exit} {a : Act} {w : World} (hp : Post g0 w0 Q e a w) : Post g0 w0 Q' e a w := by
  obtain ⟨e', h1, σ, g, h2, h3⟩ := hp; exact ⟨e', h1, σ, g, h _ _ h2, h3⟩
abbrev OpW := Program → Oper → St → (St → Prop) → Prop
def Wlist (wo : OpW) (P : Program) (ops : Array Oper) : List Oper → St → (St → Prop) → Prop
  | [], σ, K => K σ
  | o :: rest, σ, K => match gd σ ops o with
    | some true => wo P o σ fun σ' => Wlist wo P ops rest σ' K
    | some false => Wlist wo P ops rest (put σ o.dst (.x (.one (.v (.tuple #[]))))) K
    | none => False
abbrev DrawW := Program → Array Oper → St → (St → Prop) → Prop
def W (wo : OpW) (wd : DrawW) (P : Program) : Code → St → (Ex → St → Prop) → Prop
  | .skip, σ, Q => Q .normal σ
  | .region _ ops false, σ, Q => Wlist wo P ops ops.toList σ (Q .normal)
  | .region _ ops true, σ, Q => wd P ops σ (Q .normal)
  | .seq x y, σ, Q => W wo wd P x σ fun e σ' => match e with | .normal => W wo wd P y σ' Q | e => Q e σ'
  | .cond c x y, σ, Q => ∃ t, plain (ev σ c) = some (.bool t) ∧ (t = true → W wo wd P x σ Q) ∧ (t = false → W wo wd P y σ Q)
  | .block id c, σ, Q => W wo wd P c σ fun e σ' => match e with | .exit id' => if id' = id then Q .normal σ' else Q (.exit id') σ' | e => Q e σ'
  | .loop c, σ, Q => ∀ X : St → Prop, (∀ s, W wo wd P c s (fun e s' => match e with | .normal => ∃ s'', Weak s' s'' ∧ X s'' | e => Q e s') → X s) → ∃ s0, Weak σ s0 ∧ X s0
  | .exit id, σ, Q => Q (.exit id) σ
  | .ret, σ, Q => Q .ret σ
  | _, _, _ => False
def OpSound (wo : OpW) (P : Program) : Prop := ∀ (g0 : Gh) (w0 : World) [Tb P g0 w0] (o : Oper) (σ : St) (g : Gh) (a : Act) (w : World) (K : St → Prop) (N : Act → World → Prop) (Q : Exit → Act → World → Prop),
  wo P o σ K → Rel g0 w0 σ g a w → (∀ σ' g' a' w', K σ' → Rel g0 w0 σ' g' a' w' → N a' w') → o.wp P a w N Q
def DrawSound (wd : DrawW) (P : Program) : Prop := ∀ (g0 : Gh) (w0 : World) [Tb P g0 w0] (id : Nat) (ops : Array Oper) (σ : St) (g : Gh) (a : Act) (w : World) (K : St → Prop),
  wd P ops σ K → Rel g0 w0 σ g a w → (Code.region id ops true).wp P (Post g0 w0 fun e σ' => e = .normal ∧ K σ') a w
theorem Wlist_sound [Tb P g0 w0] {wo : OpW} (hwo : OpSound wo P) (ops : Array Oper) : ∀ (l : List Oper) (σ : St) (g : Gh) (a : Act) (w : World) (K : St → Prop) (Q : Exit → Act → World → Prop),
    Wlist wo P ops l σ K → Rel g0 w0 σ g a w → (∀ σ' g' a' w', K σ' → Rel g0 w0 σ' g' a' w' → Q .normal a' w') → wpList P ops Q l a w
  | [], σ, g, a, w, K, Q, h, hr, hk => hk σ g a w h hr
  | o :: rest, σ, g, a, w, K, Q, h, hr, hk => by
    unfold Wlist at h
    refine wpList_step fun K' hK' => ?_
    split at h
    · rename_i hg
      rw [if_pos (gd_spec hr hg)]
      exact hwo g0 w0 o σ g a w _ K' Q h hr fun σ' g' a' w' hw hr' => hK' _ _ (Wlist_sound hwo ops rest σ' g' a' w' K Q hw hr' hk)
    · rename_i hg
      rw [if_neg (by rw [gd_spec hr hg]; simp)]
      exact hK' _ _ (Wlist_sound hwo ops rest _ g _ w K Q h (hr.put _ (v := .x (.one (.v (.tuple #[])))) (y := undef) rfl) hk)
    · exact h.elim
def LoopRest (P : Program) (c : Code) (Q : Exit → Act → World → Prop) (a : Act) (w : World) : Prop :=
  ∀ (b : Frame) (k : List Item) (cs : List Frame), ∃ e a' w', Q e a' w' ∧ Arrives P (lone (b.at a (.code c :: .inLoop c :: k)) cs w) b k cs e a' w'
theorem loopRest_wp {c : Code} {Q : Exit → Act → World → Prop} {a : Act} {w : World} (h : LoopRest P c Q a w) : (Code.loop c).wp P Q a w := fun b k cs =>
  let ⟨e, a', w', q, r⟩ := h b k cs; ⟨e, a', w', q, .of_steps (.one step_loop) r⟩
theorem loopRest_step {c : Code} {Q : Exit → Act → World → Prop} {a : Act} {w : World} (h : c.wp P (Exit.then (LoopRest P c Q) Q) a w) : LoopRest P c Q a w := by
  intro b k cs
  obtain ⟨e, a₁, w₁, hq, harr⟩ := h b (.inLoop c :: k) cs
  cases e with
  | normal =>
    obtain ⟨e₂, a₂, w₂, hq₂, harr₂⟩ := hq b k cs
    exact ⟨e₂, a₂, w₂, hq₂, .of_steps (Steps.trans harr (.one step_inLoop)) harr₂⟩
  | exit id => exact ⟨_, a₁, w₁, hq, .pass (x := .inLoop c) rfl (fun _ _ => .inl (by simp)) harr⟩
  | goto l => exact ⟨_, a₁, w₁, hq, .pass (x := .inLoop c) rfl (fun _ _ => .inl (by simp)) harr⟩
  | ret => exact ⟨_, a₁, w₁, hq, .pass (x := .inLoop c) rfl (fun _ _ => .inl (by simp)) harr⟩
  | panic ch => exact ⟨_, a₁, w₁, hq, .pass (x := .inLoop c) rfl (fun _ _ => .inl (by simp)) harr⟩
  | outgrown => exact ⟨_, a₁, w₁, hq, .pass (x := .inLoop c) rfl (fun _ _ => .inl (by simp)) harr⟩
theorem W_sound [Tb P g0 w0] {wo : OpW} {wd : DrawW} (hwo : OpSound wo P) (hwd : DrawSound wd P) (c : Code) : ∀ (σ : St) (g : Gh) (a : Act) (w : World) (Q : Ex → St → Prop),
    W wo wd P c σ Q → Rel g0 w0 σ g a w → c.wp P (Post g0 w0 Q) a w := by
  induction c with
  | skip => intro σ g a w Q h hr; exact wp_skip ⟨_, rfl, σ, g, h, hr⟩
  | region id ops draw =>
    intro σ g a w Q h hr
    cases draw with
    | false => exact wp_region_list (Wlist_sound hwo ops _ σ g a w (Q .normal) _ h hr fun σ' g' a' w' hk hr' => ⟨_, rfl, σ', g', hk, hr'⟩)
    | true => exact wp_mono (hwd g0 w0 id ops σ g a w (Q .normal) h hr) fun e a' w' hp => Post.mono (fun e' σ' ⟨he, hk⟩ => by rw [he]; exact hk) hp
  | seq x y ihx ihy =>
    intro σ g a w Q h hr
    refine wp_seq (wp_mono (ihx σ g a w _ h hr) fun e a' w' hp => ?_)
    obtain ⟨e', h1, σ', g', h2, h3⟩ := hp
    cases e with
    | normal => cases h1; exact ihy σ' g' a' w' Q h2 h3
    | exit id => cases h1; exact ⟨_, rfl, σ', g', h2, h3⟩
    | ret => cases h1; exact ⟨_, rfl, σ', g', h2, h3⟩
    | _ => cases h1
  | cond c x y ihx ihy =>
    intro σ g a w Q h hr
    obtain ⟨t, h1, h2, h3⟩ := h
    have hc := plain_eq h1 (ev_rel hr c)
    cases t with
    | true => exact wp_cond_true hc (ihx σ g a w Q (h2 rfl) hr)
    | false => exact wp_cond_false hc (ihy σ g a w Q (h3 rfl) hr)
  | block id c ih =>
    intro σ g a w Q h hr
    refine wp_block (wp_mono (ih σ g a w _ h hr) fun e a' w' hp => ?_)
    obtain ⟨e', h1, σ', g', h2, h3⟩ := hp
    cases e with
    | normal => cases h1; exact ⟨_, rfl, σ', g', h2, h3⟩
    | exit id' =>
      cases h1
      simp only [Exit.inBlock] at h2 ⊢
      by_cases hid : id' = id
      · rw [if_pos hid] at h2 ⊢; exact ⟨_, rfl, σ', g', h2, h3⟩
      · rw [if_neg hid] at h2 ⊢; exact ⟨_, rfl, σ', g', h2, h3⟩
    | ret => cases h1; exact ⟨_, rfl, σ', g', h2, h3⟩
    | _ => cases h1
  | loop c ih =>
    intro σ g a w Q h hr
    have hstep : ∀ s, W wo wd P c s (fun e s' => match e with | .normal => ∃ s'', Weak s' s'' ∧ (∀ g a w, Rel g0 w0 s'' g a w → LoopRest P c (Post g0 w0 Q) a w) | e => Q e s') →
        ∀ g a w, Rel g0 w0 s g a w → LoopRest P c (Post g0 w0 Q) a w := by
      intro s hs g a w hr
      refine loopRest_step (wp_mono (ih s g a w _ hs hr) fun e a' w' hp => ?_)
      obtain ⟨e', h1, σ', g', h2, h3⟩ := hp
      cases e with
      | normal => cases h1; obtain ⟨s'', hw, hx⟩ := h2; obtain ⟨g'', h4⟩ := hw _ _ _ _ _ h3; exact hx g'' a' w' h4
      | exit id => cases h1; exact ⟨_, rfl, σ', g', h2, h3⟩
      | ret => cases h1; exact ⟨_, rfl, σ', g', h2, h3⟩
      | _ => cases h1
    obtain ⟨s0, hs0, hX⟩ := h (fun s => ∀ g a w, Rel g0 w0 s g a w → LoopRest P c (Post g0 w0 Q) a w) hstep
    obtain ⟨g'', h4⟩ := hs0 _ _ _ _ _ hr
    exact loopRest_wp (hX g'' a w h4)
  | rangeFunc f ps x y _ _ => intro σ g a w Q h hr; exact h.elim
  | exit id => intro σ g a w Q h hr; exact wp_exit ⟨_, rfl, σ, g, h, hr⟩
  | scope c ih => intro σ g a w Q h hr; exact h.elim
  | label l => intro σ g a w Q h hr; exact h.elim
  | goto l => intro σ g a w Q h hr; exact h.elim
  | ret => intro σ g a w Q h hr; exact wp_ret ⟨_, rfl, σ, g, h, hr⟩
  | refuse why => intro σ g a w Q h hr; exact h.elim
end
end Go.Rx
namespace Go.Rx
open Go.RowKit
def un1 (P : Program) (f : Value → Sem Value) (a : V) : Option V :=
  match plain a with
  | some x => (pureIn P (f x)).map ofVal
  | none => none
def un2 (P : Program) (f : Value → Value → Sem Value) (a b : V) : Option V :=
  match plain2 a b with
  | some (x, y) => (pureIn P (f x y)).map ofVal
  | none => none
def plains : List V → Option (List Value)
  | [] => some []
  | a :: as => match plain a, plains as with
    | some x, some xs => some (x :: xs)
    | _, _ => none
def bnd (x : Option V) (n : Nat) : Option Nat :=
  match x with
  | none => some n
  | some v => match plain v with
    | some (.int _ i) => if 0 ≤ i then some i.toNat else none
    | _ => none
def sliceV (P : Program) (t : TypeId) (a : V) (lo hi : Option V) : Option V :=
  match a with
  | .x (.one (.rs r p sz off len)) => match tyElem P t with
    | some e => match tySz P e, bnd lo 0, bnd hi len with
      | some s, some l, some h => if s = sz ∧ l ≤ h ∧ h ≤ len then some (.x (.one (.rs r p sz (off + l) (h - l)))) else none
      | _, _, _ => none
    | none => none
  | .x (.one (.sh sz R)) => match tyElem P t with
    | some e => match tySz P e, bnd lo 0, bnd hi R.length with
      | some s, some l, some h => if s = sz ∧ l ≤ h ∧ h ≤ R.length then some (.x (.one (.sh sz ((R.drop l).take (h - l))))) else none
      | _, _, _ => none
    | none => none
  | .x (.one (.v (.string s))) => match P.underlying t, bnd lo 0, bnd hi s.size with
    | some .string, some l, some h => if l ≤ h ∧ h ≤ s.size then some (.x (.one (.v (.string (s.extract l h))))) else none
    | _, _, _ => none
  | .x (.one (.v (.slice none 0 0))) => match tyElem P t with
    | some e => match tySz P e, bnd lo 0, bnd hi 0 with
      | some _, some 0, some 0 => some (.x (.one (.v (.slice none 0 0))))
      | _, _, _ => none
    | none => none
  | .x (.one (.v (.slice (some q) 0 cap))) => match tyElem P t with
    | some e => match tySz P e, bnd lo 0, bnd hi 0 with
      | some _, some 0, some 0 => some (.x (.one (.v (.slice (some q) 0 cap))))
      | _, _, _ => none
    | none => none
  | _ => none
def lenA : List V → Option Nat
  | [.x (.one (.rs _ _ _ _ len))] => some len
  | [.x (.one (.sh _ R))] => some R.length
  | _ => none
def builtinV (P : Program) (b : Builtin) (ats : Array TypeId) (ty : TypeId) (consts : Array Bool) (args : List V) : Option V :=
  match plains args with
  | some xs => match pureIn P (builtin b ats ty consts xs.toArray) with
    | some (.value y) => some (ofVal y)
    | _ => none
  | none => match b with
    | .len => match lenA args, (ats[0]?).bind (tyElem P) with
      | some n, some _ => some (.x (.one (.v (.int .i64 n))))
      | _, _ => none
    | _ => none
def isC : Operand → Bool
  | .const _ => true
  | _ => false
def nums : List (List C) → Option (List Int)
  | [] => some []
  | [.v (.int .u8 n)] :: R => (nums R).map (n :: ·)
  | _ => none
def bytesV (o : Store) : V → Option (List Int)
  | .x (.one (.sh 1 R)) => nums R
  | .x (.one (.rs r p 1 off len)) => match getA o r with
    | some ob => match rowsAt ob.sz ob.rows p with
      | some (1, R) => if off = 0 then nums (R.take len) else none
      | _ => none
    | none => none
  | _ => none
def convV (P : Program) (o : Store) (src dst : TypeId) (a : V) : Option V :=
  match bytesV o a with
  | some ns => match tyElem P src with
    | some e => match P.underlying e, P.underlying dst with
      | some (.int .u8), some .string => some (.x (.one (.v (.string (strOfNums ns)))))
      | _, _ => none
    | none => none
  | none => un1 P (convert src dst) a
def opV (P : Program) (σ : St) (o : Oper) : Option V :=
  match o.op with
  | .move x => some (ev σ x)
  | .assign x => some (ev σ x)
  | .pick c a b => match plain (ev σ c) with
    | some (.bool t) => some (if t then ev σ a else ev σ b)
    | _ => none
  | .nilCheck x => nilV (ev σ x)
  | .binOp op t x y _ => binV P op t x y (ev σ x) (ev σ y)
  | .unOp op _ x => un1 P (Op.unary op) (ev σ x)
  | .convert src dst x => convV P σ.o src dst (ev σ x)
  | .field t x f => fieldV P t f (ev σ x)
  | .extract x i => extractV i (ev σ x)
  | .index t x i => un2 P (Instr.index t) (ev σ x) (ev σ i)
  | .fieldAddr s x f => fieldAddrV P s f (ev σ x)
  | .indexAddr t x i => indexAddrV P t (ev σ x) (ev σ i)
  | .slice t x lo hi none => sliceV P t (ev σ x) (lo.map (ev σ)) (hi.map (ev σ))
  | .load t x => loadV P σ.o t (ev σ x)
  | .call { callee := .builtin b, args := as, argTypes := ats } => builtinV P b ats o.type (as.map isC) (as.toList.map (ev σ))
  | _ => none
section
variable {P : Program} {w w0 : World} {g g0 : Gh} {σ : St} {a : Act} {o : Store}
theorem un1_run {f : Value → Sem Value} {x r : V} {u : Value} (h : un1 P f x = some r) (hx : VR w o g x u) : ∃ z, (f u).run P w = .ok z w ∧ VR w o g r z := by
  unfold un1 at h
  split at h
  · rename_i y hy
    obtain rfl := plain_eq hy hx
    simp only [Option.map_eq_some_iff] at h
    obtain ⟨z, h1, rfl⟩ := h
    exact ⟨z, pureIn_run h1 w, ofVal_rel z⟩
  · cases h
theorem nums_spec {R : List (List C)} {ns : List Int} (h : nums R = some ns) : ns.length = R.length ∧ ∀ i, i < R.length → cellAt R i 0 = .v (.int .u8 (ns.getD i 0)) ∧ (R.getD i []).length = 1 := by
  induction R generalizing ns with
  | nil => simp only [nums, Option.some.injEq] at h; subst h; exact ⟨rfl, fun i hi => absurd hi (Nat.not_lt_zero _)⟩
  | cons r R ih =>
    unfold nums at h
    split at h
    · rename_i he; cases he
    · rename_i n R' he
      cases he
      obtain ⟨ns', h1, rfl⟩ := Option.map_eq_some_iff.1 h
      obtain ⟨k1, k2⟩ := ih h1
      refine ⟨by simp [k1], fun i hi => ?_⟩
      cases i with
      | zero => exact ⟨rfl, rfl⟩
      | succ i => exact k2 i (by simpa using hi)
    · cases h
theorem bytesV_run {src e dst : TypeId} (hh : HeapRel w o g) {x : V} {u : Value} {ns : List Int} (h : bytesV o x = some ns) (hx : VR w o g x u) (hs : P.underlying src = some (.slice e)) (he : P.underlying e = some (.int .u8)) (hd : P.underlying dst = some .string) :
    (convert src dst u).run P w = .ok (.string (strOfNums ns)) w := by
  unfold bytesV at h
  split at h
  · rename_i R
    obtain ⟨k1, k2⟩ := nums_spec h
    have hx' : Sh w g.S (.sh 1 R) u := hx
    cases hx' with
    | nil => simp only [nums, Option.some.injEq] at h; subst h; exact run_convert_bytes_nil (P := P) w src e hs he 0 0 dst hd
    | slice _ _ a len cap vals hl hc hm hS hz hcell hsub =>
      rw [run_convert_bytes_string w src dst e _ len cap hs he hd]
      have hcv : ∀ j, j < len → w.cell? (a.add j) = some (Value.int .u8 (ns.getD j 0)) := fun j hj => by
        have h1 := hcell j 0 hj (by omega)
        have h2 := hsub j 0 hj (by omega)
        rw [(k2 j (by omega)).1] at h2
        have h3 : vals j 0 = .int .u8 (ns.getD j 0) := by generalize vals j 0 = z at h2; cases h2; rfl
        rw [← h3, ← h1]
        congr 1
        simp [Addr.add]
      have hload := run_loadCells (P := P) (fun j => Value.int .u8 (ns.getD j 0)) w len hcv
      have hlist : ((List.range len).map fun j => Value.int .u8 (ns.getD j 0)) = ns.map (Value.int .u8) := by
        apply List.ext_getElem
        · simp; omega
        · intro i h1 h2
          have h3 : i < ns.length := by simpa using h2
          simp [List.getD_eq_getElem?_getD, List.getElem?_eq_getElem h3]
      rw [hlist] at hload
      rw [run_bytesToString w a len cap ns hload, foldl_push_bytes]
      simp [strOfNums, ByteArray.empty, ByteArray.emptyWithCapacity]
      rfl
  · rename_i r p off len
    split at h
    · rename_i ob hob
      split at h
      · rename_i R hR
        split at h
        · rename_i ho
          subst ho
          obtain ⟨R', hl, hn, hsl⟩ := hx
          have hl2 : Live o r p 1 R := ⟨ob, hob, hR⟩
          obtain ⟨_, rfl⟩ := Live.unique hl hl2
          obtain ⟨k1, k2⟩ := nums_spec h
          have hlen : ns.length = len := by rw [k1, List.length_take]; omega
          unfold SlAt at hsl
          split at hsl
          · obtain ⟨rfl, rfl⟩ := hsl
            rw [List.take_zero] at h
            simp only [nums, Option.some.injEq] at h
            subst h
            exact run_convert_bytes_nil (P := P) w src e hs he 0 0 dst hd
          · rename_i b hb
            obtain ⟨a, cap, rfl, _, _, _, _, h5, _⟩ := hsl
            obtain ⟨rfl, _⟩ := h5 rfl
            obtain ⟨_, _, cells, e', f, hbl, _, hsz, hc⟩ := hh.rows r p 1 R' b hl2 hb
            refine run_convert_bytes_arg (P := P) w src e hs he b 0 len cap ns hlen (fun i hi => ?_) dst hd
            have h1 := hc i 0 (by omega) (by omega)
            have h2 := (k2 i (by rw [← k1]; omega)).1
            have h3 : cellAt (R'.take len) i 0 = cellAt R' i 0 := by
              unfold cellAt
              simp only [List.getD_eq_getElem?_getD, List.getElem?_take, if_pos hi]
            rw [← h3, h2] at h1
            have h4 : cells.getD (i * 1 + 0) undef = .int .u8 (ns.getD i 0) := h1
            rw [← h4]
            have h5 : i < cells.size := by omega
            simp [World.cell?, hbl, Array.getD, h5]
        · cases h
      · cases h
    · cases h
  · cases h
theorem convV_run {src dst : TypeId} (hh : HeapRel w o g) {x r : V} {u : Value} (h : convV P o src dst x = some r) (hx : VR w o g x u) : ∃ z, (convert src dst u).run P w = .ok z w ∧ VR w o g r z := by
  unfold convV at h
  split at h
  · rename_i ns hns
    split at h
    · rename_i e he
      split at h
      · rename_i h1 h2
        cases h
        exact ⟨_, bytesV_run hh hns hx (tyElem_spec he) h1 h2, rfl⟩
      · cases h
    · cases h
  · exact un1_run h hx
theorem un2_run {f : Value → Value → Sem Value} {x y r : V} {u v : Value} (h : un2 P f x y = some r) (hx : VR w o g x u) (hy : VR w o g y v) :
    ∃ z, (f u v).run P w = .ok z w ∧ VR w o g r z := by
  unfold un2 at h
  split at h
  · rename_i a b hp
    obtain ⟨rfl, rfl⟩ := plain2_eq hp hx hy
    simp only [Option.map_eq_some_iff] at h
    obtain ⟨z, h1, rfl⟩ := h
    exact ⟨z, pureIn_run h1 w, ofVal_rel z⟩
  · cases h
theorem plains_eq {xs : List V} {ys zs : List Value} (h : plains xs = some zs) (hl : ys.length = xs.length) (hx : ∀ i, i < xs.length → VR w o g (xs.getD i (.x (.one .bad))) (ys.getD i undef)) : ys = zs := by
  induction xs generalizing ys zs with
  | nil => simp [plains] at h; subst h; simpa using hl
  | cons x xs ih =>
    cases ys with
    | nil => simp at hl
    | cons y ys =>
      simp only [plains] at h
      split at h
      · rename_i u us hu hus
        cases h
        have h0 := plain_eq hu (by simpa using hx 0 (by simp))
        have ht := ih hus (by simpa using hl) (fun i hi => by simpa using hx (i + 1) (by simpa using hi))
        rw [← h0, ← ht]
      · cases h
theorem bnd_spec {x : Option V} {y : Option Value} {n l : Nat} (h : bnd x n = some l) (hx : ∀ v, x = some v → ∃ u, y = some u ∧ VR w o g v u) (hn : x = none → y = none) :
    (y = none ∧ l = n) ∨ ∃ k, y = some (.int k (l : Int)) := by
  unfold bnd at h
  split at h
  · cases h; exact .inl ⟨hn rfl, rfl⟩
  · rename_i v
    obtain ⟨u, rfl, hu⟩ := hx v rfl
    split at h
    · rename_i k i hi
      obtain rfl := plain_eq hi hu
      split at h
      · rename_i h0
        cases h
        exact .inr ⟨k, by rw [Int.toNat_of_nonneg h0]⟩
      · cases h
    · cases h
theorem run_bounds {len cap l h : Nat} (low high : Option Value) (b : Bool) (hl : (low = none ∧ l = 0) ∨ ∃ k, low = some (.int k (l : Int))) (hh : (high = none ∧ h = len) ∨ ∃ k, high = some (.int k (h : Int)))
    (h1 : l ≤ h) (h2 : h ≤ cap) (w : World) : (Instr.sliceBounds b len cap low high none).run P w = .ok (l, h, cap) w := by
  rcases hl with ⟨rfl, rfl⟩ | ⟨k, rfl⟩ <;> rcases hh with ⟨rfl, rfl⟩ | ⟨k', rfl⟩ <;>
    simp [Instr.sliceBounds, Instr.sliceBound, asIntOf, h1, h2]
theorem sliceV_run {t : TypeId} {x r : V} {lo hi : Option V} {u : Value} {lo' hi' : Option Value} (h : sliceV P t x lo hi = some r) (hx : VR w o g x u)
    (hlo : ∀ v, lo = some v → ∃ u, lo' = some u ∧ VR w o g v u) (hlon : lo = none → lo' = none) (hhi : ∀ v, hi = some v → ∃ u, hi' = some u ∧ VR w o g v u) (hhin : hi = none → hi' = none) :
    ∃ z, (Instr.sliceAt t u lo' hi' none).run P w = .ok z w ∧ VR w o g r z := by
  unfold sliceV at h
  split at h
  · rename_i rr p sz off len
    split at h
    · rename_i e he
      split at h
      · rename_i s l h' hs hl hh
        split at h
        · rename_i hc
          obtain ⟨rfl, c1, c2⟩ := hc
          cases h
          have b1 := bnd_spec hl hlo hlon
          have b2 := bnd_spec hh hhi hhin
          obtain ⟨R, hlive, hn, hsl⟩ := hx
          unfold SlAt at hsl
          split at hsl
          · rename_i hg
            obtain ⟨rfl, rfl⟩ := hsl
            obtain rfl : h' = 0 := by omega
            obtain rfl : l = 0 := by omega
            refine ⟨.slice none 0 0, ?_, R, hlive, by omega, ?_⟩
            · simp [Instr.sliceAt, run_underlying (tyElem_spec he), Instr.slice, run_bounds _ _ true b1 b2 c1 (Nat.le_refl 0), tySz_run hs]
            · unfold SlAt; rw [hg]; exact ⟨rfl, rfl⟩
          · rename_i b hg
            obtain ⟨q, cap, rfl, eb, e2, e3, e4, e5, e6⟩ := hsl
            refine ⟨.slice (some (if cap = l then q else q.add (l * s))) (h' - l) (cap - l), ?_, R, hlive, by omega, ?_⟩
            · simp only [Instr.sliceAt, Sem.run_bind, run_underlying (tyElem_spec he), Result.andThen_ok, Instr.slice, run_bounds _ _ true b1 b2 c1 (show h' ≤ cap by omega), tySz_run hs, Sem.run_pure]
              split <;> rfl
            · unfold SlAt
              rw [hg]
              refine ⟨_, cap - l, rfl, ?_, by omega, by omega, fun hp => ?_, fun h0 => ?_, fun hp => ?_⟩
              · split
                · exact eb
                · have : (q.add (l * s)).block = q.block := by unfold Addr.add; split <;> rfl
                  rw [this]; exact eb
              · rw [if_neg (by omega), e4 (by omega), add_lit, Nat.add_mul]
              · obtain rfl : off = 0 := by omega
                obtain rfl : l = 0 := by omega
                obtain ⟨f1, f2⟩ := e5 rfl
                refine ⟨?_, by simpa using f2⟩
                rw [f1]
                split
                · rfl
                · simp [Addr.add]
              · obtain ⟨cs6, t6, z6, f1, f2⟩ := e6 (by omega)
                exact ⟨cs6, t6, z6, f1, by rw [← f2]; congr 1; omega⟩
        · cases h
      · cases h
    · cases h
  · rename_i sz R
    split at h
    · rename_i e he
      split at h
      · rename_i s l h' hs hl hh
        split at h
        · rename_i hc
          obtain ⟨rfl, c1, c2⟩ := hc
          cases h
          have b1 := bnd_spec hl hlo hlon
          have b2 := bnd_spec hh hhi hhin
          cases hx with
          | nil =>
            simp only [List.length_nil] at c2 b2
            obtain rfl : h' = 0 := by omega
            obtain rfl : l = 0 := by omega
            refine ⟨.slice none 0 0, ?_, ?_⟩
            · simp [Instr.sliceAt, run_underlying (tyElem_spec he), Instr.slice, run_bounds _ _ true b1 b2 c1 (Nat.le_refl 0), tySz_run hs]
            · simp only [List.drop_nil, List.take_nil]; exact Sh.nil s
          | slice _ _ q len cap vals k1 k2 k3 k4 k5 k6 k7 =>
            subst k1
            refine ⟨.slice (some (if cap = l then q else q.add (l * s))) (h' - l) (cap - l), ?_, ?_⟩
            · simp only [Instr.sliceAt, Sem.run_bind, run_underlying (tyElem_spec he), Result.andThen_ok, Instr.slice, run_bounds _ _ true b1 b2 c1 (show h' ≤ cap by omega), tySz_run hs, Sem.run_pure]
              split <;> rfl
            · have hrow : ∀ i, i < h' - l → ((R.drop l).take (h' - l)).getD i [] = R.getD (l + i) [] := fun i hi => by
                simp [List.getD_eq_getElem?_getD, List.getElem?_drop, hi]
              refine Sh.slice s _ _ _ _ (fun i j => vals (l + i) j) ?_ (by omega) (by omega) ?_ (fun i hi => ?_) (fun i j hi hj => ?_) (fun i j hi hj => ?_)
              · simp; omega
              · intro h0
                split
                · exact k4 (by omega)
                · have : (q.add (l * s)).block = q.block := by unfold Addr.add; split <;> rfl
                  rw [this]; exact k4 (by omega)
              · rw [hrow i hi]; exact k5 _ (by omega)
              · rw [if_neg (by omega), Addr.add_add q (l * s) (i * s), ← Nat.add_mul]; exact k6 _ _ (by omega) hj
              · unfold cellAt; rw [hrow i hi]; exact k7 _ _ (by omega) hj
        · cases h
      · cases h
    · cases h
  · rename_i s
    split at h
    · rename_i l h' ht hl hh
      split at h
      · rename_i hc
        cases h
        cases hx
        refine ⟨_, ?_, rfl⟩
        have b1 := bnd_spec hl hlo hlon
        have b2 := bnd_spec hh hhi hhin
        simp [Instr.sliceAt, run_underlying ht, Instr.slice, run_bounds _ _ false b1 b2 hc.1 hc.2]
      · cases h
    · cases h
  · split at h
    · rename_i e he
      split at h
      · rename_i s hs hl hh
        cases h
        obtain rfl : u = .slice none 0 0 := hx
        have b1 := bnd_spec hl hlo hlon
        have b2 := bnd_spec hh hhi hhin
        refine ⟨.slice none 0 0, ?_, rfl⟩
        simp [Instr.sliceAt, run_underlying (tyElem_spec he), Instr.slice, run_bounds _ _ true b1 b2 (Nat.le_refl 0) (Nat.le_refl 0), tySz_run hs]
      · cases h
    · cases h
  · rename_i q cap
    split at h
    · rename_i e he
      split at h
      · rename_i s hs hl hh
        cases h
        obtain rfl : u = .slice (some q) 0 cap := hx
        have b1 := bnd_spec hl hlo hlon
        have b2 := bnd_spec hh hhi hhin
        refine ⟨.slice (some q) 0 cap, ?_, rfl⟩
        have hq : q.add 0 = q := by simp [Addr.add]
        simp [Instr.sliceAt, run_underlying (tyElem_spec he), Instr.slice, run_bounds _ _ true b1 b2 (Nat.le_refl 0) (Nat.zero_le cap), tySz_run hs, hq]
      · cases h
    · cases h
  · cases h
theorem lenA_spec {args : List V} {ys : List Value} {n : Nat} (h : lenA args = some n)
    (hl : ys.length = args.length) (hx : ∀ i, i < args.length → VR w o g (args.getD i (.x (.one .bad))) (ys.getD i undef)) : ∃ y, ys = [y] ∧ ∃ q cap, y = .slice q n cap := by
  unfold lenA at h
  split at h
  · cases h
    match ys, hl with
    | [y], _ =>
      refine ⟨y, rfl, ?_⟩
      have hr := hx 0 (by simp)
      simp only [List.getD_cons_zero] at hr
      obtain ⟨R, _, _, hs⟩ := hr
      unfold SlAt at hs
      split at hs
      · obtain ⟨rfl, rfl⟩ := hs; exact ⟨_, _, rfl⟩
      · obtain ⟨q, cap, rfl, _⟩ := hs; exact ⟨_, _, rfl⟩
  · cases h
    match ys, hl with
    | [y], _ =>
      refine ⟨y, rfl, ?_⟩
      have hr := hx 0 (by simp)
      simp only [List.getD_cons_zero] at hr
      cases hr with
      | nil => exact ⟨_, _, rfl⟩
      | slice _ _ q len cap vals k1 => subst k1; exact ⟨_, _, rfl⟩
  · cases h
theorem builtinV_run {b : Builtin} {ats : Array TypeId} {ty : TypeId} {consts : Array Bool} {args : List V} {ys : List Value} {r : V} (h : builtinV P b ats ty consts args = some r)
    (hl : ys.length = args.length) (hx : ∀ i, i < args.length → VR w o g (args.getD i (.x (.one .bad))) (ys.getD i undef)) :
    ∃ z, (builtin b ats ty consts ys.toArray).run P w = .ok (.value z) w ∧ VR w o g r z := by
  unfold builtinV at h
  split at h
  · rename_i xs hxs
    obtain rfl := plains_eq hxs hl hx
    split at h
    · rename_i y hy
      cases h
      exact ⟨y, pureIn_run hy w, ofVal_rel y⟩
    · cases h
  · split at h
    · split at h
      · rename_i n e hn he
        cases h
        obtain ⟨y, rfl, q, cap, rfl⟩ := lenA_spec hn hl hx
        simp only [Option.bind_eq_some_iff] at he
        obtain ⟨t, ht, he⟩ := he
        exact ⟨_, by simp [builtin, Builtin.len_, ht, run_underlying (tyElem_spec he), goInt], rfl⟩
      · cases h
    · cases h
theorem args_rel (h : Rel g0 w0 σ g a w) (as : Array Operand) : ∀ i, i < (as.toList.map (ev σ)).length →
    VR w σ.o g ((as.toList.map (ev σ)).getD i (.x (.one .bad))) ((as.toList.map a.eval).getD i undef) := fun i hi => by
  simp only [List.length_map] at hi
  have := ev_rel h (as.toList[i])
  simpa [List.getD_eq_getElem?_getD, List.getElem?_map, List.getElem?_eq_getElem hi] using this
theorem opt_rel (h : Rel g0 w0 σ g a w) (x : Option Operand) : ∀ v, x.map (ev σ) = some v → ∃ u, x.map a.eval = some u ∧ VR w σ.o g v u := fun v hv => by
  cases x with
  | none => cases hv
  | some x => simp only [Option.map_some, Option.some.injEq] at hv; subst hv; exact ⟨_, rfl, ev_rel h x⟩
theorem opV_run (h : Rel g0 w0 σ g a w) {op : Oper} {r : V} (hv : opV P σ op = some r) :
    ∃ z, (execOp a.eval op).run P w = .ok (.value z) w ∧ VR w σ.o g r z := by
  unfold opV at hv
  split at hv
  · rename_i x ho; cases hv; exact ⟨_, by simp [execOp, ho], ev_rel h x⟩
  · rename_i x ho; cases hv; exact ⟨_, by simp [execOp, ho], ev_rel h x⟩
  · rename_i c x y ho
    split at hv
    · rename_i t ht
      cases hv
      have hc := plain_eq ht (ev_rel h c)
      refine ⟨if t then a.eval x else a.eval y, by simp [execOp, ho, hc, asBool], ?_⟩
      cases t
      · exact ev_rel h y
      · exact ev_rel h x
    · cases hv
  · rename_i x ho
    obtain ⟨rfl, q, hq⟩ := nilV_run hv (ev_rel h x)
    exact ⟨a.eval x, by simp [execOp, ho, hq], ev_rel h x⟩
  · rename_i bop t x y _ ho
    obtain ⟨z, h1, h2⟩ := binV_run hv (ev_rel h x) (ev_rel h y)
    refine ⟨z, ?_, h2⟩
    simp only [execOp, ho]
    rw [Sem.run_bind, h1]; rfl
  · rename_i uop t x ho
    obtain ⟨z, h1, h2⟩ := un1_run hv (ev_rel h x)
    exact ⟨z, by simp only [execOp, ho]; rw [Sem.run_bind, h1]; rfl, h2⟩
  · rename_i s d x ho
    obtain ⟨z, h1, h2⟩ := convV_run h.heap hv (ev_rel h x)
    exact ⟨z, by simp only [execOp, ho]; rw [Sem.run_bind, h1]; rfl, h2⟩
  · rename_i t x f ho
    obtain ⟨z, h1, h2⟩ := fieldV_run hv (ev_rel h x)
    exact ⟨z, by simp only [execOp, ho]; rw [Sem.run_bind, h1]; rfl, h2⟩
  · rename_i x i ho
    obtain ⟨z, h1, h2⟩ := extractV_run (P := P) hv (ev_rel h x)
    exact ⟨z, by simp only [execOp, ho]; rw [Sem.run_bind, h1]; rfl, h2⟩
  · rename_i t x i ho
    obtain ⟨z, h1, h2⟩ := un2_run hv (ev_rel h x) (ev_rel h i)
    exact ⟨z, by simp only [execOp, ho]; rw [Sem.run_bind, h1]; rfl, h2⟩
  · rename_i s x f ho
    obtain ⟨z, h1, h2⟩ := fieldAddrV_run hv (ev_rel h x)
    exact ⟨z, by simp only [execOp, ho]; rw [Sem.run_bind, h1]; rfl, h2⟩
  · rename_i t x i ho
    obtain ⟨z, h1, h2⟩ := indexAddrV_run hv (ev_rel h x) (ev_rel h i)
    exact ⟨z, by simp only [execOp, ho]; rw [Sem.run_bind, h1]; rfl, h2⟩
  · rename_i t x lo hi ho
    obtain ⟨z, h1, h2⟩ := sliceV_run (lo' := lo.map a.eval) (hi' := hi.map a.eval) hv (ev_rel h x) (opt_rel h lo) (by cases lo <;> simp) (opt_rel h hi) (by cases hi <;> simp)
    exact ⟨z, by simp only [execOp, ho, Option.map_none]; rw [Sem.run_bind, h1]; rfl, h2⟩
  · rename_i t x ho
    obtain ⟨z, h1, h2⟩ := loadV_run h.heap hv (ev_rel h x)
    exact ⟨z, by simp only [execOp, ho]; rw [Sem.run_bind, h1]; rfl, h2⟩
  · rename_i b as ats ho
    obtain ⟨z, h1, h2⟩ := builtinV_run (ys := as.toList.map a.eval) hv (by simp) (args_rel h as)
    refine ⟨z, ?_, h2⟩
    simp only [execOp, ho, resolve, Sem.run_bind, Sem.run_pure, Result.andThen_ok, invoke]
    have e1 : as.map a.eval = (as.toList.map a.eval).toArray := by apply Array.ext'; simp
    have e2 : ∀ f : Operand → Bool, (∀ x, f x = isC x) → as.map f = as.map isC := fun f hf => by rw [funext hf]
    rw [e1, e2 _ (fun x => by cases x <;> rfl)]
    exact h1
  · cases hv
end
end Go.Rx
namespace Go.Rx
open Go.RowKit
def scalar : Value → Bool
  | .agg _ => false
  | .tuple _ => false
  | _ => true
def cellOk : C → Bool
  | .v x => scalar x
  | .bad => false
  | .own _ _ => false
  | _ => true
def cellsX : X → Option (List C)
  | .one c => if cellOk c then some [c] else none
  | .agg cs => if cs.all cellOk then some cs else none
section
variable {P : Program} {w w0 : World} {g g0 : Gh} {σ : St} {a : Act} {o : Store}
theorem CR.scalar {l : Option (Root × Path × Nat × Nat)} {c : C} {y : Value} (hc : cellOk c = true) (h : CR w o g l c y) : scalar y = true := by
  cases c with
  | v x => cases h; exact hc
  | sh sz R => cases h <;> rfl
  | ps cs => cases h; rfl
  | own sz R => cases hc
  | rs r p sz off len =>
    obtain ⟨R, _, _, hs⟩ := h
    unfold SlAt at hs
    split at hs
    · obtain ⟨rfl, _⟩ := hs; rfl
    · obtain ⟨q, cap, rfl, _⟩ := hs; rfl
  | pt r p sz row off => obtain ⟨R, b, _, _, _, rfl⟩ := h; rfl
  | bad => cases hc
theorem cells_scalar {y : Value} (h : scalar y = true) : y.cells = #[y] := by
  cases y <;> first | rfl | cases h
theorem cellsX_rel {x : X} {cs : List C} {y : Value} (h : cellsX x = some cs) (hx : XR w o g x y) :
    y.cells.toList.length = cs.length ∧ (∀ j, j < cs.length → CR w o g none (cs.getD j .bad) (y.cells.toList.getD j undef)) ∧ (∀ j, j < cs.length → cellOk (cs.getD j .bad) = true) := by
  cases x with
  | one c =>
    simp only [cellsX] at h
    split at h
    · rename_i hc
      cases h
      have := CR.scalar (l := none) hc (show CR w o g none c y from hx)
      rw [cells_scalar this]
      refine ⟨rfl, fun j hj => ?_, fun j hj => ?_⟩ <;>
      · obtain rfl : j = 0 := by simp at hj; omega
        first | exact hx | exact hc
    · cases h
  | agg ds =>
    simp only [cellsX] at h
    split at h
    · rename_i hc
      cases h
      obtain ⟨ys, rfl, hl, hr⟩ := hx
      refine ⟨by simpa [Value.cells] using hl, fun j hj => by simpa [Value.cells] using hr j hj, fun j hj => ?_⟩
      rw [List.all_eq_true] at hc
      have : cs.getD j .bad = cs[j] := by simp [List.getD_eq_getElem?_getD, List.getElem?_eq_getElem hj]
      rw [this]; exact hc _ (List.getElem_mem hj)
    · cases h
def setRange (row : List C) (off : Nat) (cs : List C) : List C := row.take off ++ cs ++ row.drop (off + cs.length)
theorem setRange_length {row cs : List C} {off : Nat} (h : off + cs.length ≤ row.length) : (setRange row off cs).length = row.length := by
  simp [setRange]; omega
theorem setRange_get {row cs : List C} {off : Nat} (h : off + cs.length ≤ row.length) (j : Nat) :
    (setRange row off cs).getD j .bad = if off ≤ j ∧ j < off + cs.length then cs.getD (j - off) .bad else row.getD j .bad := by
  have ht : (row.take off).length = off := by simp; omega
  simp only [setRange, List.getD_eq_getElem?_getD]
  by_cases h1 : j < off
  · rw [List.append_assoc, List.getElem?_append_left (by omega), List.getElem?_take, if_pos h1, if_neg (by omega)]
  · by_cases h2 : j < off + cs.length
    · rw [List.append_assoc, List.getElem?_append_right (by omega), ht, List.getElem?_append_left (by omega), if_pos ⟨by omega, h2⟩]
    · rw [List.getElem?_append_right (by simp; omega), List.getElem?_drop, if_neg (by omega)]
      simp only [List.length_append, ht]
      rw [show off + cs.length + (j - (off + cs.length)) = j by omega]
def updAt : List (List C) → Path → List (List C) → List (List C)
  | _, [], R' => R'
  | R, (i, j) :: p, R' => match (R[i]?).bind (·[j]?) with
    | some (.own sz Q) => R.set i ((R.getD i []).set j (.own sz (updAt Q p R')))
    | _ => R
def Alike (c c' : C) : Prop := c = c' ∨ ∃ sz Q Q', c = .own sz Q ∧ c' = .own sz Q' ∧ Q.length = Q'.length
structure Turned (R R' : List (List C)) (on : Nat → Nat → Prop) (new : Nat → Nat → C) : Prop where
  len : R'.length = R.length
  row : ∀ i, i < R.length → (R'.getD i []).length = (R.getD i []).length
  hit : ∀ i j, i < R.length → j < (R.getD i []).length → on i j → cellAt R' i j = new i j
  miss : ∀ i j, i < R.length → j < (R.getD i []).length → ¬ on i j → Alike (cellAt R i j) (cellAt R' i j)
theorem getD_set {R : List (List C)} {i k : Nat} {row : List C} (hi : i < R.length) : (R.set i row).getD k [] = if i = k then row else R.getD k [] := by
  simp only [List.getD_eq_getElem?_getD, List.getElem?_set]
  by_cases h : i = k
  · simp [h]; subst h; simp [hi]
  · simp [h]
theorem getD_setC {R : List C} {i k : Nat} {c : C} (hi : i < R.length) : (R.set i c).getD k .bad = if i = k then c else R.getD k .bad := by
  simp only [List.getD_eq_getElem?_getD, List.getElem?_set]
  by_cases h : i = k
  · simp [h]; subst h; simp [hi]
  · simp [h]
theorem bind_cell {R : List (List C)} {i j : Nat} {c : C} (h : (R[i]?).bind (·[j]?) = some c) : i < R.length ∧ j < (R.getD i []).length ∧ cellAt R i j = c := by
  cases hi : R[i]? with
  | none => simp [hi] at h
  | some row =>
    simp only [hi, Option.bind_some] at h
    have h1 : i < R.length := by
      rcases Nat.lt_or_ge i R.length with h' | h'
      · exact h'
      · simp [List.getElem?_eq_none h'] at hi
    have h2 : R.getD i [] = row := by simp [List.getD_eq_getElem?_getD, hi]
    refine ⟨h1, ?_, ?_⟩
    · rw [h2]
      rcases Nat.lt_or_ge j row.length with h' | h'
      · exact h'
      · simp [List.getElem?_eq_none h'] at h
    · unfold cellAt; rw [h2]; simp [List.getD_eq_getElem?_getD, h]
theorem cell_bind {R : List (List C)} {i j : Nat} (h1 : i < R.length) (h2 : j < (R.getD i []).length) : (R[i]?).bind (·[j]?) = some (cellAt R i j) := by
  have e1 : R[i]? = some (R.getD i []) := by simp [List.getD_eq_getElem?_getD, List.getElem?_eq_getElem h1]
  rw [e1, Option.bind_some]
  unfold cellAt
  rw [List.getD_eq_getElem?_getD (l := R.getD i []), List.getElem?_eq_getElem h2]; rfl
theorem rowsAt_updAt {row off : Nat} {cs : List C} : ∀ (p : Path) (sz n : Nat) (R Q : List (List C)), rowsAt sz R p = some (n, Q) → row < Q.length → off + cs.length ≤ (Q.getD row []).length →
    (∀ j, off ≤ j → j < off + cs.length → ∀ m K, cellAt Q row j ≠ .own m K) → (∀ j, j < cs.length → ∀ m K, cs.getD j .bad ≠ .own m K) →
    (updAt R p (Q.set row (setRange (Q.getD row []) off cs))).length = R.length ∧
    ∀ q m K', rowsAt sz (updAt R p (Q.set row (setRange (Q.getD row []) off cs))) q = some (m, K') →
      ∃ K, rowsAt sz R q = some (m, K) ∧ Turned K K' (fun i j => q = p ∧ i = row ∧ off ≤ j ∧ j < off + cs.length) (fun _ j => cs.getD (j - off) .bad)
  | [], sz, n, R, Q, hR, hrow, hoff, hold, hnew => by
    simp only [rowsAt, Option.some.injEq, Prod.mk.injEq] at hR
    obtain ⟨rfl, rfl⟩ := hR
    simp only [updAt]
    refine ⟨by simp, fun q m K' hq => ?_⟩
    have hget : ∀ i, (R.set row (setRange (R.getD row []) off cs)).getD i [] = if row = i then setRange (R.getD row []) off cs else R.getD i [] := fun i => getD_set hrow
    cases q with
    | nil =>
      simp only [rowsAt, Option.some.injEq, Prod.mk.injEq] at hq
      obtain ⟨rfl, rfl⟩ := hq
      refine ⟨R, rfl, by simp, fun i hi => ?_, fun i j hi hj hh => ?_, fun i j hi hj hh => ?_⟩
      · rw [hget]; split
        · subst_vars; exact setRange_length hoff
        · rfl
      · obtain ⟨_, rfl, h1, h2⟩ := hh
        simp only [cellAt, hget, if_true]
        rw [setRange_get hoff, if_pos ⟨h1, h2⟩]
      · left
        simp only [cellAt, hget]
        split
        · rename_i e; subst e
          rw [setRange_get hoff, if_neg (fun h => hh ⟨rfl, rfl, h.1, h.2⟩)]
        · rfl
    | cons x q =>
      obtain ⟨i, j⟩ := x
      simp only [rowsAt] at hq
      split at hq
      · rename_i sz' R' hc
        obtain ⟨h1, h2, h3⟩ := bind_cell hc
        simp only [List.length_set] at h1
        rw [hget] at h2
        have h3' : cellAt R i j = .own sz' R' := by
          simp only [cellAt, hget] at h3
          split at h3
          · rename_i e; subst e
            rw [setRange_get hoff] at h3
            split at h3
            · rename_i hin
              exact absurd h3 (hnew _ (by omega) _ _)
            · exact h3
          · exact h3
        have h2' : j < (R.getD i []).length := by
          split at h2
          · subst_vars; rw [setRange_length hoff] at h2; exact h2
          · exact h2
        refine ⟨K', ?_, rfl, fun _ _ => rfl, fun _ _ _ _ hh => absurd hh.1 (by simp), fun _ _ _ _ _ => .inl rfl⟩
        simp only [rowsAt, cell_bind h1 h2', h3']
        exact hq
      · cases hq
  | (a, b) :: p, sz, n, R, Q, hR, hrow, hoff, hold, hnew => by
    simp only [rowsAt] at hR
    split at hR
    · rename_i s1 Q1 hc
      obtain ⟨h1, h2, h3⟩ := bind_cell hc
      obtain ⟨ihl, ih⟩ := rowsAt_updAt p s1 n Q1 Q hR hrow hoff hold hnew
      simp only [updAt, hc]
      refine ⟨by simp, fun q m K' hq => ?_⟩
      generalize hU : updAt Q1 p (Q.set row (setRange (Q.getD row []) off cs)) = U at *
      have hget : ∀ i, (R.set a ((R.getD a []).set b (.own s1 U))).getD i [] = if a = i then (R.getD a []).set b (.own s1 U) else R.getD i [] := fun i => getD_set h1
      have hcell : ∀ i j, cellAt (R.set a ((R.getD a []).set b (.own s1 U))) i j = if a = i ∧ b = j then .own s1 U else cellAt R i j := fun i j => by
        simp only [cellAt, hget]
        by_cases e1 : a = i
        · subst e1
          simp only [if_true, true_and]
          rw [getD_setC h2]
        · simp [e1]
      cases q with
      | nil =>
        simp only [rowsAt, Option.some.injEq, Prod.mk.injEq] at hq
        obtain ⟨rfl, rfl⟩ := hq
        refine ⟨R, rfl, by simp, fun i hi => ?_, fun i j hi hj hh => absurd hh.1 (by simp), fun i j hi hj hh => ?_⟩
        · rw [hget]; split
          · subst_vars; simp
          · rfl
        · rw [hcell]
          split
          · rename_i e
            obtain ⟨rfl, rfl⟩ := e
            exact .inr ⟨s1, Q1, U, h3, rfl, ihl.symm⟩
          · exact .inl rfl
      | cons x q =>
        obtain ⟨i, j⟩ := x
        simp only [rowsAt] at hq
        split at hq
        · rename_i sz' R' hc'
          obtain ⟨k1, k2, k3⟩ := bind_cell hc'
          simp only [List.length_set] at k1
          rw [hcell] at k3
          by_cases e : a = i ∧ b = j
          · rw [if_pos e] at k3
            obtain ⟨rfl, rfl⟩ := e
            cases k3
            obtain ⟨K, hK, hT⟩ := ih q m K' hq
            refine ⟨K, ?_, hT.len, hT.row, fun i j hi hj hh => hT.hit i j hi hj ⟨(List.cons.inj hh.1).2, hh.2⟩, fun i j hi hj hh => hT.miss i j hi hj fun h' => hh ⟨by rw [h'.1], h'.2⟩⟩
            simp only [rowsAt, hc]
            exact hK
          · rw [if_neg e] at k3
            have k2' : j < (R.getD i []).length := by
              rw [hget] at k2
              split at k2
              · subst_vars; simpa using k2
              · exact k2
            refine ⟨K', ?_, rfl, fun _ _ => rfl, fun _ _ _ _ hh => ?_, fun _ _ _ _ _ => .inl rfl⟩
            · simp only [rowsAt, cell_bind k1 k2', k3]
              exact hq
            · exact absurd (List.cons.inj hh.1).1 (fun e' => e (by cases e'; exact ⟨rfl, rfl⟩))
        · cases hq
    · cases hR
end
end Go.Rx
namespace Go.Rx
open Go.RowKit
section
variable {P : Program} {w w0 : World} {g g0 : Gh} {σ : St} {a : Act} {o : Store}
theorem rowsAt_updAt_old {row off : Nat} {cs : List C} : ∀ (p : Path) (sz n : Nat) (R Q : List (List C)), rowsAt sz R p = some (n, Q) → row < Q.length → off + cs.length ≤ (Q.getD row []).length →
    (∀ j, off ≤ j → j < off + cs.length → ∀ m K, cellAt Q row j ≠ .own m K) →
    ∀ q m K, rowsAt sz R q = some (m, K) → ∃ K', rowsAt sz (updAt R p (Q.set row (setRange (Q.getD row []) off cs))) q = some (m, K')
  | [], sz, n, R, Q, hR, hrow, hoff, hold => by
    simp only [rowsAt, Option.some.injEq, Prod.mk.injEq] at hR
    obtain ⟨rfl, rfl⟩ := hR
    simp only [updAt]
    intro q m K hq
    have hget : ∀ i, (R.set row (setRange (R.getD row []) off cs)).getD i [] = if row = i then setRange (R.getD row []) off cs else R.getD i [] := fun i => getD_set hrow
    cases q with
    | nil =>
      simp only [rowsAt, Option.some.injEq, Prod.mk.injEq] at hq
      obtain ⟨rfl, rfl⟩ := hq
      exact ⟨_, rfl⟩
    | cons x q =>
      obtain ⟨i, j⟩ := x
      simp only [rowsAt] at hq
      split at hq
      · rename_i sz' R' hc
        obtain ⟨h1, h2, h3⟩ := bind_cell hc
        refine ⟨K, ?_⟩
        have hlen : j < ((R.set row (setRange (R.getD row []) off cs)).getD i []).length := by
          rw [hget]; split
          · subst_vars; rw [setRange_length hoff]; exact h2
          · exact h2
        have hcell : cellAt (R.set row (setRange (R.getD row []) off cs)) i j = .own sz' R' := by
          simp only [cellAt, hget]
          split
          · rename_i e; subst e
            rw [setRange_get hoff, if_neg]
            · exact h3
            · intro hin; exact hold j hin.1 hin.2 _ _ h3
          · exact h3
        simp only [rowsAt, cell_bind (by simpa using h1) hlen, hcell]
        exact hq
      · cases hq
  | (a, b) :: p, sz, n, R, Q, hR, hrow, hoff, hold => by
    simp only [rowsAt] at hR
    split at hR
    · rename_i s1 Q1 hc
      obtain ⟨h1, h2, h3⟩ := bind_cell hc
      have ih := rowsAt_updAt_old p s1 n Q1 Q hR hrow hoff hold
      simp only [updAt, hc]
      generalize hU : updAt Q1 p (Q.set row (setRange (Q.getD row []) off cs)) = U at *
      have hget : ∀ i, (R.set a ((R.getD a []).set b (.own s1 U))).getD i [] = if a = i then (R.getD a []).set b (.own s1 U) else R.getD i [] := fun i => getD_set h1
      have hcell : ∀ i j, cellAt (R.set a ((R.getD a []).set b (.own s1 U))) i j = if a = i ∧ b = j then .own s1 U else cellAt R i j := fun i j => by
        simp only [cellAt, hget]
        by_cases e1 : a = i
        · subst e1
          simp only [if_true, true_and]
          rw [getD_setC h2]
        · simp [e1]
      intro q m K hq
      cases q with
      | nil =>
        simp only [rowsAt, Option.some.injEq, Prod.mk.injEq] at hq
        obtain ⟨rfl, rfl⟩ := hq
        exact ⟨_, rfl⟩
      | cons x q =>
        obtain ⟨i, j⟩ := x
        simp only [rowsAt] at hq
        split at hq
        · rename_i sz' R' hc'
          obtain ⟨k1, k2, k3⟩ := bind_cell hc'
          have hlen : j < ((R.set a ((R.getD a []).set b (.own s1 U))).getD i []).length := by
            rw [hget]; split
            · subst_vars; simpa using k2
            · exact k2
          by_cases e : a = i ∧ b = j
          · obtain ⟨rfl, rfl⟩ := e
            rw [h3] at k3
            cases k3
            obtain ⟨K', hK'⟩ := ih q m K hq
            refine ⟨K', ?_⟩
            simp only [rowsAt, cell_bind (by simpa using k1) hlen, hcell, and_self, if_true]
            exact hK'
          · refine ⟨K, ?_⟩
            simp only [rowsAt, cell_bind (by simpa using k1) hlen, hcell, if_neg e, k3]
            exact hq
        · cases hq
    · cases hR
def setRows (σ : St) (r : Root) (p : Path) (Q' : List (List C)) : St :=
  match getA σ.l r with
  | some ob => { σ with l := setA σ.l r { ob with rows := updAt ob.rows p Q' } }
  | none => match getA σ.g r with
    | some ob => { σ with g := setA σ.g r { ob with rows := updAt ob.rows p Q' } }
    | none => σ
theorem setRows_get {r : Root} {ob : Obj'} (h : getA σ.o r = some ob) (p : Path) (Q' : List (List C)) (r' : Root) :
    getA (setRows σ r p Q').o r' = if r = r' then some { ob with rows := updAt ob.rows p Q' } else getA σ.o r' := by
  have h0 : getA (σ.l ++ σ.g) r = some ob := h
  rw [getA_append] at h0
  unfold setRows
  cases hl : getA σ.l r with
  | some ob' =>
    simp only [hl, Option.some.injEq] at h0
    subst h0
    show getA (setA σ.l r _ ++ σ.g) r' = _
    rw [getA_append, getA_setA]
    by_cases e : r = r'
    · subst e; simp [hl]
    · simp only [if_neg e]; show _ = getA (σ.l ++ σ.g) r'; rw [getA_append]
  | none =>
    simp only [hl] at h0
    simp only [h0]
    show getA (σ.l ++ setA σ.g r _) r' = _
    rw [getA_append, getA_setA]
    by_cases e : r = r'
    · subst e; simp [hl, h0]
    · simp only [if_neg e]; show _ = getA (σ.l ++ σ.g) r'; rw [getA_append]
theorem setRows_t (r : Root) (p : Path) (Q' : List (List C)) : (setRows σ r p Q').t = σ.t ∧ (setRows σ r p Q').d = σ.d := by
  unfold setRows; split
  · exact ⟨rfl, rfl⟩
  · split <;> exact ⟨rfl, rfl⟩
theorem setRows_loc (h : ∀ r ob, getA σ.l r = some ob → σ.d ≤ r.1) (h' : ∀ r ob, getA σ.g r = some ob → r.1 < σ.d) (r : Root) (p : Path) (Q' : List (List C)) :
    (∀ r' ob, getA (setRows σ r p Q').l r' = some ob → σ.d ≤ r'.1) ∧ (∀ r' ob, getA (setRows σ r p Q').g r' = some ob → r'.1 < σ.d) := by
  unfold setRows
  split
  · refine ⟨fun r' ob hr => ?_, h'⟩
    simp only [getA_setA] at hr
    split at hr
    · simp only [Option.map_eq_some_iff] at hr
      obtain ⟨x, hx, _⟩ := hr
      exact h r' x hx
    · exact h r' ob hr
  · split
    · refine ⟨h, fun r' ob hr => ?_⟩
      simp only [getA_setA] at hr
      split at hr
      · simp only [Option.map_eq_some_iff] at hr
        obtain ⟨x, hx, _⟩ := hr
        exact h' r' x hx
      · exact h' r' ob hr
    · exact ⟨h, h'⟩
theorem setCells_world (b : Nat) : ∀ (vs : List Value) (o : Nat) (w : World), (w.setCells b o vs).os = w.os ∧ (w.setCells b o vs).tape = w.tape ∧ (w.setCells b o vs).output = w.output ∧
    (w.setCells b o vs).heap.size = w.heap.size ∧ ∀ k, k ≠ b → (w.setCells b o vs).heap[k]? = w.heap[k]?
  | [], _, _ => ⟨rfl, rfl, rfl, rfl, fun _ _ => rfl⟩
  | v :: vs, o, w => by
    obtain ⟨h1, h2, h3, h4, h5⟩ := setCells_world b vs (o + 1) (w.setCell ⟨b, o, none⟩ v)
    refine ⟨h1, h2, h3, ?_, fun k hk => ?_⟩
    · rw [World.setCells, h4, World.size_setCell]
    · rw [World.setCells, h5 k hk, Below.heap_setCell _ _ _ _ hk]
theorem setCells_block (b : Nat) : ∀ (vs : List Value) (o : Nat) (w : World) (cur : Array Value) (e : TypeId) (f : Nat × Nat), w.heap[b]? = some (.cells cur e f) → o + vs.length ≤ cur.size →
    ∃ cur', (w.setCells b o vs).heap[b]? = some (.cells cur' e f) ∧ cur'.size = cur.size ∧ ∀ k, cur'.getD k undef = if o ≤ k ∧ k < o + vs.length then vs.getD (k - o) undef else cur.getD k undef
  | [], o, w, cur, e, f, h, _ => ⟨cur, h, rfl, fun k => by rw [if_neg (by simp only [List.length_nil]; omega)]⟩
  | v :: vs, o, w, cur, e, f, h, hs => by
    simp only [List.length_cons] at hs
    have h1 : (w.setCell ⟨b, o, none⟩ v).heap[b]? = some (.cells (cur.setIfInBounds o v) e f) := by
      simp [World.setCell, Array.getElem?_modify, h]
    obtain ⟨cur', k1, k2, k3⟩ := setCells_block b vs (o + 1) _ _ e f h1 (by simp; omega)
    refine ⟨cur', k1, by rw [k2]; simp, fun k => ?_⟩
    rw [k3]
    simp only [List.length_cons]
    by_cases hk : o + 1 ≤ k ∧ k < o + 1 + vs.length
    · rw [if_pos hk, if_pos (by omega)]
      obtain ⟨n, rfl⟩ : ∃ n, k = o + 1 + n := ⟨k - (o + 1), by omega⟩
      rw [show o + 1 + n - (o + 1) = n by omega, show o + 1 + n - o = n + 1 by omega]; rfl
    · rw [if_neg hk]
      by_cases hk' : k = o
      · subst hk'
        rw [if_pos (by omega), Nat.sub_self]
        have hlt : k < cur.size := by omega
        simp [Array.getD_eq_getD_getElem?, hlt]
      · rw [if_neg (by omega)]
        simp only [Array.getD_eq_getD_getElem?, Array.getElem?_setIfInBounds_ne (show o ≠ k by omega)]
theorem Rel.store' (h : Rel g0 w0 σ g a w) {r : Root} {p : Path} {sz row off b : Nat} {Q : List (List C)} {cs : List C} {ys : List Value} (hlive : Live σ.o r p sz Q) (hg : g.G r p = some b)
    {w1 : World} (wos : w1.os = w.os) (wtape : w1.tape = w.tape) (wout : w1.output = w.output) (wsize : w1.heap.size = w.heap.size) (wother : ∀ k, k ≠ b → w1.heap[k]? = w.heap[k]?)
    (hblock : ∀ cells e f, w.heap[b]? = some (.cells cells e f) → row * sz + off + ys.length ≤ cells.size → ∃ cells', w1.heap[b]? = some (.cells cells' e f) ∧ cells'.size = cells.size ∧
      ∀ k, k < Q.length * sz → cells'.getD k undef = if row * sz + off ≤ k ∧ k < row * sz + off + ys.length then ys.getD (k - (row * sz + off)) undef else cells.getD k undef)
    (hrow : row < Q.length) (hoff : off + cs.length ≤ sz) (hold : ∀ j, off ≤ j → j < off + cs.length → ∀ m K, cellAt Q row j ≠ .own m K)
    (hok : ∀ ob, getA σ.o r = some ob → okObj { ob with rows := updAt ob.rows p (Q.set row (setRange (Q.getD row []) off cs)) } = true)
    (hys : ys.length = cs.length) (hcr : ∀ j, j < cs.length → CR w σ.o g none (cs.getD j .bad) (ys.getD j undef)) :
    Rel g0 w0 (setRows σ r p (Q.set row (setRange (Q.getD row []) off cs))) g a w1 ∧
    Goes w σ.o g w1 (setRows σ r p (Q.set row (setRange (Q.getD row []) off cs))).o g := by
  obtain ⟨ob, hob, hat⟩ := hlive
  have hl : Live σ.o r p sz Q := ⟨ob, hob, hat⟩
  obtain ⟨hnS, hlen, cells, e, f, hb, hthaw, hsize, hcells⟩ := h.heap.rows r p sz Q b hl hg
  have hrl : (Q.getD row []).length = sz := hlen row hrow
  have hmul : (row + 1) * sz ≤ Q.length * sz := Nat.mul_le_mul_right _ (by omega)
  rw [Nat.add_mul, Nat.one_mul] at hmul
  have hno : ∀ j, j < cs.length → ∀ m K, cs.getD j .bad ≠ .own m K := fun j hj m K he => by
    have := hcr j hj
    rw [he] at this; exact this
  have hback := rowsAt_updAt (row := row) (off := off) (cs := cs) p ob.sz sz ob.rows Q hat hrow (by rw [hrl]; exact hoff) hold hno
  have hforth := rowsAt_updAt_old (row := row) (off := off) (cs := cs) p ob.sz sz ob.rows Q hat hrow (by rw [hrl]; exact hoff) hold
  generalize hQ' : Q.set row (setRange (Q.getD row []) off cs) = Q' at *
  have hget := setRows_get hob p Q'
  obtain ⟨cells', hb', hcs, hval⟩ := hblock cells e f hb (by omega)
  have hnew : ∀ r' q m K', Live (setRows σ r p Q').o r' q m K' → ∃ K, Live σ.o r' q m K ∧
      Turned K K' (fun i j => (r' = r ∧ q = p) ∧ i = row ∧ off ≤ j ∧ j < off + cs.length) (fun _ j => cs.getD (j - off) .bad) := by
    rintro r' q m K' ⟨ob', h1, h2⟩
    rw [hget] at h1
    by_cases er : r = r'
    · subst er
      rw [if_pos rfl] at h1
      cases h1
      obtain ⟨K, hK, hT⟩ := hback.2 q m K' h2
      exact ⟨K, ⟨ob, hob, hK⟩, hT.len, hT.row, fun i j hi hj hh => hT.hit i j hi hj ⟨hh.1.2, hh.2⟩, fun i j hi hj hh => hT.miss i j hi hj fun h' => hh ⟨⟨rfl, h'.1⟩, h'.2⟩⟩
    · rw [if_neg er] at h1
      exact ⟨K', ⟨ob', h1, h2⟩, rfl, fun _ _ => rfl, fun _ _ _ _ hh => absurd hh.1.1.symm er, fun _ _ _ _ _ => .inl rfl⟩
  have hgoes : Goes w σ.o g w1 (setRows σ r p Q').o g := by
    refine ⟨fun k hk => ⟨hk, wother k (fun e' => hnS (e' ▸ hk))⟩, fun r' q m K hK => ⟨?_, rfl, fun b' cs' e' f' _ hb2 => ?_⟩⟩
    · obtain ⟨ob', h1, h2⟩ := hK
      by_cases er : r = r'
      · subst er
        rw [hob] at h1
        cases h1
        obtain ⟨K', hK'⟩ := hforth q m K h2
        obtain ⟨K2, hK2, hT⟩ := hback.2 q m K' hK'
        rw [h2] at hK2
        cases hK2
        exact ⟨K', ⟨_, by rw [hget, if_pos rfl], hK'⟩, by rw [hT.len]; exact Nat.le_refl _⟩
      · exact ⟨K, ⟨ob', by rw [hget, if_neg er]; exact h1, h2⟩, Nat.le_refl _⟩
    · by_cases eb : b' = b
      · subst eb
        rw [hb] at hb2
        cases hb2
        exact ⟨cells', hb', hcs⟩
      · exact ⟨cs', by rw [wother b' eb]; exact hb2, rfl⟩
  refine ⟨⟨h.defers, by rw [(setRows_t r p Q').1]; exact h.size, fun i hi => ?_, ⟨?_, ?_, ?_, ?_⟩, ⟨wos.trans h.keep.os, wtape.trans h.keep.tape, wout.trans h.keep.output, by rw [wsize]; exact h.keep.size, h.keep.S, ?_⟩, ?_, ?_, ?_, ?_, h.pin.goes hgoes fun r' ob' h' => ?_⟩, hgoes⟩
  · rw [(setRows_t r p Q').1] at hi ⊢
    exact VR.goes hgoes (h.tmps i hi)
  · intro r' q m K' b' hl' hg'
    obtain ⟨K, hK, hT⟩ := hnew r' q m K' hl'
    obtain ⟨k1, k2, cs2, e2, f2, k3, kf, k4, k5⟩ := h.heap.rows r' q m K b' hK hg'
    have hat' : ∀ i j, i < K'.length → j < m → i < K.length ∧ j < (K.getD i []).length := fun i j hi hj => by
      have hi' : i < K.length := by rw [← hT.len]; exact hi
      exact ⟨hi', by rw [k2 i hi']; exact hj⟩
    have hlenK : ∀ i, i < K'.length → (K'.getD i []).length = m := fun i hi => by
      have hi' : i < K.length := by rw [← hT.len]; exact hi
      rw [hT.row i hi', k2 i hi']
    have hmiss : ∀ i j y, i < K'.length → j < m → ¬ ((r' = r ∧ q = p) ∧ i = row ∧ off ≤ j ∧ j < off + cs.length) → CR w σ.o g (some (r', q, i, j)) (cellAt K i j) y →
        CR w1 (setRows σ r p Q').o g (some (r', q, i, j)) (cellAt K' i j) y := by
      intro i j y hi hj hh hc
      obtain ⟨hi', hj'⟩ := hat' i j hi hj
      have := CR.goesAt hgoes hK hi' hj' hc
      rcases hT.miss i j hi' hj' hh with heq | ⟨s1, Q1, Q2, e1, e2', e3⟩
      · rw [← heq]; exact this
      · rw [e1] at this
        rw [e2']
        simp only [CR] at this ⊢
        rw [← e3]; exact this
    by_cases eb : b' = b
    · subst eb
      obtain ⟨rfl, rfl⟩ := h.heap.inj r' q m K r p sz Q b' hK hl hg' hg
      obtain ⟨rfl, rfl⟩ := Live.unique hK hl
      rw [hb] at k3
      cases k3
      refine ⟨k1, hlenK, cells', e, f, hb', by rw [hcs]; exact kf, by rw [hcs, hT.len]; exact k4, fun i j hi hj => ?_⟩
      have hi' : i < K.length := by rw [← hT.len]; exact hi
      rw [hval _ (by have := Nat.mul_le_mul_right m (show i + 1 ≤ K.length by omega); rw [Nat.add_mul, Nat.one_mul] at this; omega)]
      by_cases hh : i = row ∧ off ≤ j ∧ j < off + cs.length
      · obtain ⟨rfl, h1, h2⟩ := hh
        rw [if_pos (by omega), hT.hit i j hi' (by rw [k2 i hi']; exact hj) ⟨⟨rfl, rfl⟩, rfl, h1, h2⟩]
        have hthis := hcr (j - off) (by omega)
        rw [show i * m + j - (i * m + off) = j - off by omega]
        exact CR.any _ (CR.goes hgoes hthis)
      · have hne : ¬ (row * m + off ≤ i * m + j ∧ i * m + j < row * m + off + ys.length) := by
          intro hin
          apply hh
          have h1 : i = row := by
            rcases Nat.lt_trichotomy i row with hlt | heq | hgt
            · have : (i + 1) * m ≤ row * m := Nat.mul_le_mul_right _ hlt
              rw [Nat.add_mul, Nat.one_mul] at this
              omega
            · exact heq
            · have : (row + 1) * m ≤ i * m := Nat.mul_le_mul_right _ hgt
              rw [Nat.add_mul, Nat.one_mul] at this
              omega
          subst h1
          omega
        rw [if_neg hne]
        exact hmiss i j _ hi hj (fun h' => hh h'.2) (k5 i j hi' hj)
    · refine ⟨k1, hlenK, cs2, e2, f2, by rw [wother b' eb]; exact k3, kf, by rw [hT.len]; exact k4, fun i j hi hj => ?_⟩
      have hi' : i < K.length := by rw [← hT.len]; exact hi
      refine hmiss i j _ hi hj (fun h' => ?_) (k5 i j hi' hj)
      obtain ⟨⟨rfl, rfl⟩, _⟩ := h'
      rw [hg] at hg'
      exact eb (Option.some.inj hg').symm
  · intro r' q ob' m K' h1 h2 hgn
    obtain ⟨K, ⟨ob2, k1, k2⟩, hT⟩ := hnew r' q m K' ⟨ob', h1, h2⟩
    rcases h.heap.none r' q ob2 m K k1 k2 hgn with hnil | ⟨hk1, hk2⟩
    · left
      have := hT.len
      rw [hnil] at this
      exact List.length_eq_zero_iff.1 this
    · right
      refine ⟨?_, hk2⟩
      rw [hget] at h1
      by_cases er : r = r'
      · subst er
        rw [if_pos rfl] at h1
        rw [hob] at k1
        cases h1; cases k1; exact hk1
      · rw [if_neg er] at h1
        rw [h1] at k1; cases k1; exact hk1
  · intro r1 p1 m1 K1 r2 p2 m2 K2 b' hl1 hl2 hg1 hg2
    obtain ⟨K1', hK1, _⟩ := hnew _ _ _ _ hl1
    obtain ⟨K2', hK2, _⟩ := hnew _ _ _ _ hl2
    exact h.heap.inj _ _ _ _ _ _ _ _ b' hK1 hK2 hg1 hg2
  · intro k hk
    rw [wsize]; exact h.heap.S k hk
  · intro k hk
    rw [wother k (fun e' => hnS (e' ▸ h.keep.S k hk))]
    exact h.keep.block k hk
  · rw [(setRows_t r p Q').2]; exact (setRows_loc h.loc h.out r p Q').1
  · rw [(setRows_t r p Q').2]; exact (setRows_loc h.loc h.out r p Q').2
  · intro r' ob' hr
    rw [hget] at hr
    split at hr
    · cases hr; exact hok ob hob
    · exact h.obj r' ob' hr
  · refine h.maps.mono (fun r' ob' h1 h2 => ?_) (fun b' arr cl h1 h2 => ⟨?_, h2⟩) (.ext (fun k _ hk => wother k fun e => hk r p sz Q hl (e ▸ hg)) (fun _ _ hs => hs) fun r' q m K k hK hG _ => (by
      obtain ⟨K0, h1, _⟩ := hnew r' q m K hK
      exact ⟨_, _, _, _, h1, hG⟩))
    · rw [hget] at h1
      split at h1
      · rename_i er
        cases h1
        exact ⟨ob, er ▸ hob, rfl⟩
      · exact ⟨ob', h1, rfl⟩
    · rw [wother b' (fun e' => by subst e'; rw [hb] at h1; cases h1)]; exact h1
  · unfold setRows at h'
    split at h'
    · exact ⟨ob', h'⟩
    · split at h'
      · simp only [getA_setA] at h'
        split at h'
        · cases hq : getA σ.g r' with
          | some x => exact ⟨x, rfl⟩
          | none => rw [hq] at h'; cases h'
        · exact ⟨ob', h'⟩
      · exact ⟨ob', h'⟩
theorem Rel.store (h : Rel g0 w0 σ g a w) {r : Root} {p : Path} {sz row off b : Nat} {Q : List (List C)} {cs : List C} {ys : List Value} (hlive : Live σ.o r p sz Q) (hg : g.G r p = some b)
    (hrow : row < Q.length) (hoff : off + cs.length ≤ sz) (hold : ∀ j, off ≤ j → j < off + cs.length → ∀ m K, cellAt Q row j ≠ .own m K)
    (hok : ∀ ob, getA σ.o r = some ob → okObj { ob with rows := updAt ob.rows p (Q.set row (setRange (Q.getD row []) off cs)) } = true)
    (hys : ys.length = cs.length) (hcr : ∀ j, j < cs.length → CR w σ.o g none (cs.getD j .bad) (ys.getD j undef)) :
    Rel g0 w0 (setRows σ r p (Q.set row (setRange (Q.getD row []) off cs))) g a (w.setCells b (row * sz + off) ys) ∧
    Goes w σ.o g (w.setCells b (row * sz + off) ys) (setRows σ r p (Q.set row (setRange (Q.getD row []) off cs))).o g := by
  obtain ⟨wos, wtape, wout, wsize, wother⟩ := setCells_world b ys (row * sz + off) w
  refine h.store' hlive hg wos wtape wout wsize wother (fun cells e f hb hle => ?_) hrow hoff hold hok hys hcr
  obtain ⟨cells', hb', hcs, hval⟩ := setCells_block b ys (row * sz + off) w cells e f hb hle
  exact ⟨cells', hb', hcs, fun k _ => hval k⟩
end
end Go.Rx
namespace Go.Rx
open Go.RowKit
mutual
def toSh : C → C
  | .own sz R => .sh sz (toShRR R)
  | .v x => .v x
  | .sh sz R => .sh sz R
  | .ps cs => .ps cs
  | _ => .bad
def toShR : List C → List C
  | [] => []
  | c :: cs => toSh c :: toShR cs
def toShRR : List (List C) → List (List C)
  | [] => []
  | r :: rs => toShR r :: toShRR rs
end
mutual
def po : C → Bool
  | .own _ R => poRR R
  | .v _ => true
  | _ => false
def poR : List C → Bool
  | [] => true
  | c :: cs => po c && poR cs
def poRR : List (List C) → Bool
  | [] => true
  | r :: rs => poR r && poRR rs
end
theorem toShR_length (cs : List C) : (toShR cs).length = cs.length := by induction cs <;> simp_all [toShR]
theorem toShRR_length (R : List (List C)) : (toShRR R).length = R.length := by induction R <;> simp_all [toShRR]
theorem toShR_get (cs : List C) (j : Nat) : (toShR cs).getD j .bad = toSh (cs.getD j .bad) := by
  induction cs generalizing j with
  | nil => simp [toShR, toSh]
  | cons c cs ih => cases j <;> simp [toShR] ; exact ih _
theorem toShRR_get (R : List (List C)) (i : Nat) : (toShRR R).getD i [] = toShR (R.getD i []) := by
  induction R generalizing i with
  | nil => simp [toShRR, toShR]
  | cons r R ih => cases i <;> simp [toShRR] ; exact ih _
theorem toSh_cell (R : List (List C)) (i j : Nat) : cellAt (toShRR R) i j = toSh (cellAt R i j) := by
  unfold cellAt; rw [toShRR_get, toShR_get]
theorem nrR_get {cs : List C} (h : nrR cs = true) (j : Nat) : nr (cs.getD j .bad) = true := by
  induction cs generalizing j with
  | nil => simp [nr]
  | cons c cs ih =>
    simp only [nrR, Bool.and_eq_true] at h
    cases j with
    | zero => simpa using h.1
    | succ j => simpa using ih h.2 j
theorem nrRR_get {R : List (List C)} (h : nrRR R = true) (i j : Nat) : nr (cellAt R i j) = true := by
  unfold cellAt
  apply nrR_get
  induction R generalizing i with
  | nil => simp [nrR]
  | cons r R ih =>
    simp only [nrRR, Bool.and_eq_true] at h
    cases i with
    | zero => simpa using h.1
    | succ i => simpa using ih h.2 i
theorem poR_get {cs : List C} (h : poR cs = true) (j : Nat) (hj : j < cs.length) : po (cs.getD j .bad) = true := by
  induction cs generalizing j with
  | nil => simp at hj
  | cons c cs ih =>
    simp only [poR, Bool.and_eq_true] at h
    cases j with
    | zero => simpa using h.1
    | succ j => simpa using ih h.2 j (by simpa using hj)
theorem poRR_get {R : List (List C)} (h : poRR R = true) (i j : Nat) (hi : i < R.length) (hj : j < (R.getD i []).length) : po (cellAt R i j) = true := by
  unfold cellAt
  refine poR_get ?_ j hj
  clear hj
  induction R generalizing i with
  | nil => simp at hi
  | cons r R ih =>
    simp only [poRR, Bool.and_eq_true] at h
    cases i with
    | zero => simpa using h.1
    | succ i => simpa using ih h.2 i (by simpa using hi)
theorem nrRR_rowsAt {sz n : Nat} {R Q : List (List C)} {p : Path} (h : nrRR R = true) (hr : rowsAt sz R p = some (n, Q)) : nrRR Q = true := by
  induction p generalizing R sz with
  | nil => simp only [rowsAt, Option.some.injEq, Prod.mk.injEq] at hr; rw [← hr.2]; exact h
  | cons x p ih =>
    obtain ⟨i, j⟩ := x
    simp only [rowsAt] at hr
    split at hr
    · rename_i s R' hc
      obtain ⟨_, _, h3⟩ := bind_cell hc
      have := nrRR_get h i j
      rw [h3] at this
      exact ih (by simpa [nr] using this) hr
    · cases hr
theorem poRR_rowsAt {sz n : Nat} {R Q : List (List C)} {p : Path} (h : poRR R = true) (hr : rowsAt sz R p = some (n, Q)) : poRR Q = true := by
  induction p generalizing R sz with
  | nil => simp only [rowsAt, Option.some.injEq, Prod.mk.injEq] at hr; rw [← hr.2]; exact h
  | cons x p ih =>
    obtain ⟨i, j⟩ := x
    simp only [rowsAt] at hr
    split at hr
    · rename_i s R' hc
      obtain ⟨h1, h2, h3⟩ := bind_cell hc
      have := poRR_get h i j h1 h2
      rw [h3] at this
      exact ih (by simpa [po] using this) hr
    · cases hr
theorem rowsAt_append {sz n m : Nat} {R Q K : List (List C)} {p q : Path} (h : rowsAt sz R p = some (n, Q)) (hq : rowsAt n Q q = some (m, K)) : rowsAt sz R (p ++ q) = some (m, K) := by
  induction p generalizing R sz with
  | nil => simp only [rowsAt, Option.some.injEq, Prod.mk.injEq] at h; obtain ⟨rfl, rfl⟩ := h; exact hq
  | cons x p ih =>
    obtain ⟨i, j⟩ := x
    rw [List.cons_append]
    cases hc : (R[i]?).bind (·[j]?) with
    | none => simp [rowsAt, hc] at h
    | some c =>
      cases c <;> simp only [rowsAt, hc] at h ⊢ <;> first | exact ih h | cases h
theorem sizeOf_cell {sz : Nat} {R : List (List C)} {i j : Nat} (hi : i < R.length) (hj : j < (R.getD i []).length) : SizeOf.sizeOf (cellAt R i j) < SizeOf.sizeOf (C.own sz R) := by
  have h1 : R.getD i [] ∈ R := by
    rw [List.getD_eq_getElem?_getD, List.getElem?_eq_getElem hi]; exact List.getElem_mem hi
  have h2 : cellAt R i j ∈ R.getD i [] := by
    unfold cellAt; rw [List.getD_eq_getElem?_getD (l := R.getD i []), List.getElem?_eq_getElem hj]; exact List.getElem_mem hj
  have h3 := List.sizeOf_lt_of_mem h1
  have h4 := List.sizeOf_lt_of_mem h2
  simp only [C.own.sizeOf_spec]
  omega
def Sall (w : World) : Gh := { G := fun _ _ => none, S := fun k => k < w.heap.size }
section
variable {P : Program} {w w0 w' : World} {g g0 gr : Gh} {σ : St} {a : Act} {o : Store}
theorem cell_of_block {w : World} {b n : Nat} {cells : Array Value} {e : TypeId} {f : Nat × Nat} (h : w.heap[b]? = some (.cells cells e f)) (hn : n < cells.size) :
    w.cell? ⟨b, n, none⟩ = some (cells.getD n undef) := by
  simp [World.cell?, h, Array.getD, hn]
theorem Sh.of_own (hh : HeapRel w o g) : ∀ (n : Nat) (c : C), SizeOf.sizeOf c < n → ∀ r p i j sz R y, Live o r p sz R → i < R.length → j < (R.getD i []).length → cellAt R i j = c →
    CR w o g (some (r, p, i, j)) c y → Sh w (Sall w).S (toSh c) y := by
  intro n
  induction n with
  | zero => intro c h; omega
  | succ n ih =>
    intro c hc r p i j sz R y hl hi hj hcell hcr
    have mono : ∀ {c' : C} {y' : Value}, Sh w g.S c' y' → Sh w (Sall w).S c' y' := fun h => Sh.mono (fun k hk => ⟨hh.S k hk, rfl⟩) h
    cases c with
    | v x => cases hcr; exact .v _
    | sh m Q => exact mono hcr
    | ps cs => exact mono hcr
    | rs => exact .bad _
    | pt => exact .bad _
    | bad => exact .bad _
    | own m Q =>
      obtain ⟨ob, h1, h2⟩ := hl
      have hl' : Live o r (p ++ [(i, j)]) m Q := ⟨ob, h1, rowsAt_snoc h2 hi hj hcell⟩
      simp only [toSh]
      have hs : SlAt g w r (p ++ [(i, j)]) m 0 Q.length y := hcr
      unfold SlAt at hs
      split at hs
      · obtain ⟨rfl, h0⟩ := hs
        rw [List.length_eq_zero_iff.1 h0]
        exact .nil m
      · rename_i b hb
        obtain ⟨q, cap, rfl, _, e2, e3, _, e5, _⟩ := hs
        obtain ⟨rfl, _⟩ := e5 rfl
        obtain ⟨_, k2, cells, e, f, k3, _, k4, k5⟩ := hh.rows r _ m Q b hl' hb
        refine .slice m _ _ _ _ (fun i j => cells.getD (i * m + j) undef) (toShRR_length Q) e2 e3 (fun _ => block_lt k3) (fun i hi => ?_) (fun i j hi hj => ?_) (fun i j hi hj => ?_)
        · rw [toShRR_get, toShR_length]; exact k2 i hi
        · rw [add_lit, add_lit, Nat.zero_add]
          have : (i + 1) * m ≤ Q.length * m := Nat.mul_le_mul_right _ hi
          rw [Nat.add_mul, Nat.one_mul] at this
          exact cell_of_block k3 (by omega)
        · rw [toSh_cell]
          have hj' : j < (Q.getD i []).length := by rw [k2 i hi]; exact hj
          have hlt := sizeOf_cell (sz := m) hi hj'
          exact ih _ (by omega) r _ i j m Q _ hl' hi hj' rfl (k5 i j hi hj)
def viewC (o : Store) : C → Option C
  | .v x => some (.v x)
  | .sh sz R => some (.sh sz R)
  | .ps cs => some (.ps cs)
  | .rs r p sz off len => match getA o r with
    | some ob => match rowsAt ob.sz ob.rows p with
      | some (sz', R) => if sz' = sz then some (.sh sz (toShRR ((R.drop off).take len))) else none
      | none => none
    | none => none
  | .pt r p sz i j => match getA o r with
    | some ob => match rowsAt ob.sz ob.rows p with
      | some (sz', R) => if sz' = sz then some (.ps (toShR ((R.getD i []).drop j))) else none
      | none => none
    | none => none
  | .bad => some .bad
  | .own _ _ => none
def viewCs (o : Store) : List C → Option (List C)
  | [] => some []
  | c :: cs => match viewC o c, viewCs o cs with
    | some c, some cs => some (c :: cs)
    | _, _ => none
def viewX (o : Store) : X → Option X
  | .one c => (viewC o c).map .one
  | .agg cs => (viewCs o cs).map .agg
theorem toShRR_take_drop (R : List (List C)) (n m i : Nat) (hi : i < m) : ((R.drop n).take m).getD i [] = R.getD (n + i) [] := by
  simp [List.getD_eq_getElem?_getD, List.getElem?_drop, hi]
theorem viewC_rel (hh : HeapRel w o g) {c c' : C} {y : Value} (hv : viewC o c = some c') (hc : CR w o g none c y) : Sh w (Sall w).S c' y := by
  have mono : ∀ {c' : C} {y' : Value}, Sh w g.S c' y' → Sh w (Sall w).S c' y' := fun h => Sh.mono (fun k hk => ⟨hh.S k hk, rfl⟩) h
  unfold viewC at hv
  split at hv
  · cases hv; cases hc; exact .v _
  · cases hv; exact mono hc
  · cases hv; exact mono hc
  · rename_i r p sz off len
    split at hv
    · rename_i ob hob
      split at hv
      · rename_i sz' R hR
        split at hv
        · rename_i e
          subst e
          cases hv
          have hl : Live o r p sz' R := ⟨ob, hob, hR⟩
          obtain ⟨R', hl', hle, hs⟩ := hc
          obtain ⟨_, rfl⟩ := Live.unique hl hl'
          unfold SlAt at hs
          split at hs
          · obtain ⟨rfl, rfl⟩ := hs
            simp only [List.take_zero, toShRR]; exact .nil _
          · rename_i b hb
            obtain ⟨q, cap, rfl, eb, e2, e3, e4, e5⟩ := hs
            obtain ⟨_, k2, cells, e, f, k3, _, k4, k5⟩ := hh.rows r p sz' R b hl hb
            by_cases h0 : len = 0
            · subst h0
              simp only [List.take_zero, toShRR]
              refine .slice sz' [] q 0 cap (fun _ _ => undef) rfl e2 e3 ?_ (fun i hi => absurd hi (Nat.not_lt_zero _)) (fun i j hi => absurd hi (Nat.not_lt_zero _)) (fun i j hi => absurd hi (Nat.not_lt_zero _))
              rw [eb]; exact fun _ => block_lt k3
            · obtain rfl := e4 (by omega)
              refine .slice sz' _ _ _ _ (fun i j => cells.getD ((off + i) * sz' + j) undef) ?_ e2 e3 (fun _ => block_lt k3) (fun i hi => ?_) (fun i j hi hj => ?_) (fun i j hi hj => ?_)
              · rw [toShRR_length]; simp; omega
              · rw [toShRR_get, toShR_length, toShRR_take_drop _ _ _ _ hi]; exact k2 _ (by omega)
              · rw [add_lit, add_lit]
                have : (off + i + 1) * sz' ≤ R.length * sz' := Nat.mul_le_mul_right _ (by omega)
                rw [Nat.add_mul, Nat.one_mul, Nat.add_mul] at this
                rw [Nat.add_mul]
                exact cell_of_block k3 (by omega)
              · rw [toSh_cell]
                have e1 : cellAt ((R.drop off).take len) i j = cellAt R (off + i) j := by unfold cellAt; rw [toShRR_take_drop _ _ _ _ hi]
                rw [e1]
                have hj' : j < (R.getD (off + i) []).length := by rw [k2 _ (by omega)]; exact hj
                exact Sh.of_own hh _ _ (Nat.lt_succ_self _) r p (off + i) j sz' R _ hl (by omega) hj' rfl (k5 _ _ (by omega) hj)
        · cases hv
      · cases hv
    · cases hv
  · rename_i r p sz i j
    split at hv
    · rename_i ob hob
      split at hv
      · rename_i sz' R hR
        split at hv
        · rename_i e
          subst e
          cases hv
          have hl : Live o r p sz' R := ⟨ob, hob, hR⟩
          obtain ⟨R', b, hl', hlt, hb, rfl⟩ := hc
          obtain ⟨_, rfl⟩ := Live.unique hl hl'
          obtain ⟨_, k2, cells, e, f, k3, _, k4, k5⟩ := hh.rows r p sz' R b hl hb
          have hmul : (i + 1) * sz' ≤ R.length * sz' := Nat.mul_le_mul_right _ (by omega)
          rw [Nat.add_mul, Nat.one_mul] at hmul
          refine .ptr _ _ (fun k => cells.getD (i * sz' + (j + k)) undef) (block_lt k3) (fun k hk => ?_) (fun k hk => ?_)
          · rw [toShR_length, List.length_drop, k2 i hlt] at hk
            rw [add_lit, Nat.add_assoc]
            exact cell_of_block k3 (by omega)
          · rw [toShR_length, List.length_drop, k2 i hlt] at hk
            rw [toShR_get, getD_drop]
            have hj' : j + k < (R.getD i []).length := by rw [k2 i hlt]; omega
            exact Sh.of_own hh _ _ (Nat.lt_succ_self _) r p i (j + k) sz' R _ hl hlt hj' rfl (k5 i (j + k) hlt (by omega))
        · cases hv
      · cases hv
    · cases hv
  · cases hv; exact .bad _
  · cases hv
end
end Go.Rx
