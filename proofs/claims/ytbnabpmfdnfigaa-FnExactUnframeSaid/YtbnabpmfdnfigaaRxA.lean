/- An abstract machine over data: what a temporary and a place hold, and how that stands to the model's values and worlds. -/
import Derived.Below
import Derived.Deep.Draws
import Derived.Tactics
import Derived.WalkKit
namespace Go.Rx
open Go.RowKit

/-- A root of memory of the activation's own: (depth, number). -/
abbrev Root := Nat × Nat
/-- From a root's rows down: (row, cell), (row, cell) .. -/
abbrev Path := List (Nat × Nat)

/-- What one cell holds. 'v': just this value. 'sh': a slice over rows that nobody writes. 'own': a slice over rows of its own.
'rs': a slice over (part of) the rows at a path. 'pt': a pointer into these. 'ps': a pointer to cells that nobody writes. 'bad': whatever.
'sz': how many cells an element has. -/
inductive C where
  | v (x : Value)
  | sh (sz : Nat) (rows : List (List C))
  | own (sz : Nat) (rows : List (List C))
  | rs (r : Root) (p : Path) (sz off len : Nat)
  | pt (r : Root) (p : Path) (sz row off : Nat)
  | ps (cs : List C)
  | bad
  deriving Inhabited

inductive X where
  | one (c : C)
  | agg (cs : List C)
  deriving Inhabited

inductive V where
  | x (x : X)
  | tup (xs : List X)
  deriving Inhabited

/-- What a root is: a variable, a slice's rows, a row of results. -/
inductive Kind where
  | box | sl | vr
  deriving DecidableEq, Inhabited

structure Obj' where
  kind : Kind
  sz : Nat
  rows : List (List C)
  deriving Inhabited

abbrev Store := List (Root × Obj')

def getA : Store → Root → Option Obj'
  | [], _ => none
  | (k, ob) :: s, r => if k = r then some ob else getA s r
def setA : Store → Root → Obj' → Store
  | [], _, _ => []
  | (k, o) :: s, r, ob => if k = r then (k, ob) :: s else (k, o) :: setA s r ob
def delA : Store → Root → Store
  | [], _ => []
  | (k, o) :: s, r => if k = r then delA s r else (k, o) :: delA s r

theorem getA_setA (s : Store) (r r' : Root) (ob : Obj') : getA (setA s r ob) r' = if r = r' then (getA s r').map (fun _ => ob) else getA s r' := by
  induction s with
  | nil => simp [setA, getA]
  | cons h s ih =>
    obtain ⟨k, o⟩ := h
    by_cases hk : k = r
    · subst hk
      by_cases hr : k = r' <;> simp [setA, getA, hr]
    · by_cases hr : k = r'
      · subst hr
        have : ¬ r = k := fun h => hk h.symm
        simp [setA, getA, hk, this]
      · simp [setA, getA, hk, hr, ih]
theorem getA_delA (s : Store) (r r' : Root) : getA (delA s r) r' = if r = r' then none else getA s r' := by
  induction s with
  | nil => simp [delA, getA]
  | cons h s ih =>
    obtain ⟨k, o⟩ := h
    by_cases hk : k = r
    · subst hk
      simp only [delA, if_true, ih, getA]
      split <;> rfl
    · by_cases hr : k = r'
      · subst hr
        have : ¬ r = k := fun h => hk h.symm
        simp [delA, getA, hk, this]
      · simp [delA, getA, hk, hr, ih]

def rowsAt : Nat → List (List C) → Path → Option (Nat × List (List C))
  | sz, R, [] => some (sz, R)
  | _, R, (i, j) :: p => match (R[i]?).bind (·[j]?) with
    | some (.own sz' R') => rowsAt sz' R' p
    | _ => none

/-- What is not in the data: where each row of one's own lies, which blocks nobody writes. -/
structure Gh where
  G : Root → Path → Option Nat
  S : Nat → Prop

def Live (o : Store) (r : Root) (p : Path) (sz : Nat) (R : List (List C)) : Prop := ∃ ob, getA o r = some ob ∧ rowsAt ob.sz ob.rows p = some (sz, R)

def cellAt (R : List (List C)) (i j : Nat) : C := (R.getD i []).getD j .bad

inductive Sh (w : World) (S : Nat → Prop) : C → Value → Prop
  | v (x : Value) : Sh w S (.v x) x
  | nil (sz : Nat) : Sh w S (.sh sz []) (.slice none 0 0)
  | slice (sz : Nat) (R : List (List C)) (a : Addr) (len cap : Nat) (vals : Nat → Nat → Value) (hl : R.length = len) (hc : len ≤ cap) (hm : cap ≤ maxLen)
      (hS : 0 < len → S a.block) (hz : ∀ i, i < len → (R.getD i []).length = sz)
      (hcell : ∀ i j, i < len → j < sz → w.cell? ((a.add (i * sz)).add j) = some (vals i j))
      (hsub : ∀ i j, i < len → j < sz → Sh w S (cellAt R i j) (vals i j)) : Sh w S (.sh sz R) (.slice (some a) len cap)
  | ptr (cs : List C) (a : Addr) (vals : Nat → Value) (hS : S a.block)
      (hcell : ∀ j, j < cs.length → w.cell? (a.add j) = some (vals j))
      (hsub : ∀ j, j < cs.length → Sh w S (cs.getD j .bad) (vals j)) : Sh w S (.ps cs) (.pointer (some a))
  | bad (x : Value) : Sh w S .bad x

def SlAt (g : Gh) (w : World) (r : Root) (p : Path) (sz off len : Nat) (y : Value) : Prop :=
  match g.G r p with
  | none => y = .slice none 0 0 ∧ len = 0
  | some b => ∃ a cap, y = .slice (some a) len cap ∧ a.block = b ∧ len ≤ cap ∧ cap ≤ maxLen ∧ (0 < len → a = ⟨b, off * sz, none⟩) ∧
      (off = 0 → a = ⟨b, 0, none⟩ ∧ ∃ cells e f, w.heap[b]? = some (.cells cells e f) ∧ cap * sz = cells.size)

/-- What a cell's value is, by what it is said to hold. 'l': where the cell stands, of a cell in rows of one's own. -/
def CR (w : World) (o : Store) (g : Gh) (l : Option (Root × Path × Nat × Nat)) (c : C) (y : Value) : Prop :=
  match c with
  | .v x => y = x
  | .sh sz R => Sh w g.S (.sh sz R) y
  | .ps cs => Sh w g.S (.ps cs) y
  | .own sz R => match l with
    | some (r, p, i, j) => SlAt g w r (p ++ [(i, j)]) sz 0 R.length y
    | none => False
  | .rs r p sz off len => ∃ R, Live o r p sz R ∧ off + len ≤ R.length ∧ SlAt g w r p sz off len y
  | .pt r p sz row off => ∃ R b, Live o r p sz R ∧ row < R.length ∧ g.G r p = some b ∧ y = .pointer (some ⟨b, row * sz + off, none⟩)
  | .bad => True

def XR (w : World) (o : Store) (g : Gh) : X → Value → Prop
  | .one c, y => CR w o g none c y
  | .agg cs, y => ∃ ys : List Value, y = .agg ys.toArray ∧ ys.length = cs.length ∧ ∀ j, j < cs.length → CR w o g none (cs.getD j .bad) (ys.getD j undef)

def VR (w : World) (o : Store) (g : Gh) : V → Value → Prop
  | .x x, y => XR w o g x y
  | .tup xs, y => ∃ ys : List Value, y = .tuple ys.toArray ∧ ys.length = xs.length ∧ ∀ j, j < xs.length → XR w o g (xs.getD j (.one .bad)) (ys.getD j undef)

/-- None of a block's cells is one that a string shares. -/
def Thaw (f : Nat × Nat) (n : Nat) : Prop := ∀ i, i < n → ¬ (f.1 ≤ i ∧ i < f.2)

structure HeapRel (w : World) (o : Store) (g : Gh) : Prop where
  /-- rows in memory -/
  rows : ∀ r p sz R b, Live o r p sz R → g.G r p = some b → ¬ g.S b ∧ (∀ i, i < R.length → (R.getD i []).length = sz) ∧ ∃ cells e f, w.heap[b]? = some (.cells cells e f) ∧ Thaw f cells.size ∧
    R.length * sz ≤ cells.size ∧ ∀ i j, i < R.length → j < sz → CR w o g (some (r, p, i, j)) (cellAt R i j) (cells.getD (i * sz + j) undef)
  /-- rows that are nowhere -/
  none : ∀ r p ob sz R, getA o r = some ob → rowsAt ob.sz ob.rows p = some (sz, R) → g.G r p = none → R = [] ∨ (ob.kind = .vr ∧ p = [])
  inj : ∀ r p sz R r' p' sz' R' b, Live o r p sz R → Live o r' p' sz' R' → g.G r p = some b → g.G r' p' = some b → r = r' ∧ p = p'
  S : ∀ k, g.S k → k < w.heap.size

mutual
/-- No reference to a root. -/
def nr : C → Bool
  | .own _ R => nrRR R
  | .rs .. => false
  | .pt .. => false
  | _ => true
def nrR : List C → Bool
  | [] => true
  | c :: cs => nr c && nrR cs
def nrRR : List (List C) → Bool
  | [] => true
  | r :: rs => nrR r && nrRR rs
end

/-- A variable's cell may be a reference; behind it, and in a slice's rows, there is none. -/
def refOr : C → Bool
  | .rs .. => true
  | .pt .. => true
  | c => nr c
def refRoot : C → Option Root
  | .rs r _ _ _ _ => some r
  | .pt r _ _ _ _ => some r
  | _ => none
def okObj (ob : Obj') : Bool :=
  match ob.kind with
  | .sl => nrRR ob.rows
  | .box => ob.rows.all fun row => row.all refOr
  | .vr => false

/-- What an activation has: its temporaries, how deep it lies, its own roots, and the roots of those that called it. -/
structure St where
  t : List V
  d : Nat
  l : Store
  g : Store
def St.o (σ : St) : Store := σ.l ++ σ.g

theorem getA_append (s s' : Store) (r : Root) : getA (s ++ s') r = match getA s r with | some ob => some ob | none => getA s' r := by
  induction s with
  | nil => rfl
  | cons h s ih =>
    obtain ⟨k, ob⟩ := h
    by_cases hk : k = r <;> simp [getA, hk, ih]

/-- Nobody writes what nobody may write; the streams stay. -/
structure Keep (g0 : Gh) (w0 : World) (g : Gh) (w : World) : Prop where
  os : w.os = w0.os
  tape : w.tape = w0.tape
  output : w.output = w0.output
  size : w0.heap.size ≤ w.heap.size
  S : ∀ k, g0.S k → g.S k
  block : ∀ k, g0.S k → w.heap[k]? = w0.heap[k]?

/-- The callers' roots that are asked about stay where they were. -/
def Pin (g0 : Gh) (w0 : World) (s : Store) (g : Gh) (w : World) : Prop := ∀ r b, g0.G r [] = some b →
  (∃ ob, getA s r = some ob) ∧ g.G r [] = some b ∧ ∀ cells e f, w0.heap[b]? = some (.cells cells e f) → ∃ cells', w.heap[b]? = some (.cells cells' e f) ∧ cells'.size = cells.size

structure Rel (g0 : Gh) (w0 : World) (σ : St) (g : Gh) (a : Act) (w : World) : Prop where
  defers : a.defers = []
  size : a.tmps.size = σ.t.length
  tmps : ∀ i, i < σ.t.length → VR w σ.o g (σ.t.getD i (.x (.one .bad))) (a.tmps.getD i undef)
  heap : HeapRel w σ.o g
  keep : Keep g0 w0 g w
  loc : ∀ r ob, getA σ.l r = some ob → r.1 = σ.d
  out : ∀ r ob, getA σ.g r = some ob → r.1 < σ.d
  obj : ∀ r ob, getA σ.o r = some ob → okObj ob = true
  gref : ∀ r ob, getA σ.g r = some ob → ∀ i j r', i < ob.rows.length → j < (ob.rows.getD i []).length → refRoot (cellAt ob.rows i j) = some r' → r'.1 < σ.d
  pin : Pin g0 w0 σ.g g w

/-- Whatever the first state says of memory, the second does not say too much. -/
def Weak (σ σ' : St) : Prop := ∀ g0 w0 g a w, Rel g0 w0 σ g a w → ∃ g', Rel g0 w0 σ' g' a w
theorem Weak.refl (σ : St) : Weak σ σ := fun _ _ _ _ _ h => ⟨_, h⟩
theorem Weak.trans {σ σ' σ'' : St} (h : Weak σ σ') (h' : Weak σ' σ'') : Weak σ σ'' := fun _ _ _ _ _ k => let ⟨_, k'⟩ := h _ _ _ _ _ k; h' _ _ _ _ _ k'


theorem Sh.mono {w w' : World} {S S' : Nat → Prop} (h : ∀ k, S k → S' k ∧ w'.heap[k]? = w.heap[k]?) {c : C} {y : Value} (hs : Sh w S c y) : Sh w' S' c y := by
  induction hs with
  | v x => exact .v x
  | nil sz => exact .nil sz
  | slice sz R a len cap vals hl hc hm hS hz hcell _ ih =>
    have hb : ∀ n m, ((a.add n).add m).block = a.block := fun n m => by unfold Addr.add; split <;> split <;> rfl
    exact .slice sz R a len cap vals hl hc hm (fun h0 => (h _ (hS h0)).1) hz (fun i j hi hj => by
      rw [← hcell i j hi hj]; exact World.cell?_of_block (w := w) (by rw [hb]; exact (h _ (hS (by omega))).2)) ih
  | ptr cs a vals hS hcell _ ih =>
    have hb : ∀ n, (a.add n).block = a.block := fun n => by unfold Addr.add; split <;> rfl
    exact .ptr cs a vals (h _ hS).1 (fun j hj => by
      rw [← hcell j hj]; exact World.cell?_of_block (w := w) (by rw [hb]; exact (h _ hS).2)) ih
  | bad x => exact .bad x

/-- Two states of memory of which the second has all that the first has, in its place. -/
structure Goes (w : World) (o : Store) (g : Gh) (w' : World) (o' : Store) (g' : Gh) : Prop where
  S : ∀ k, g.S k → g'.S k ∧ w'.heap[k]? = w.heap[k]?
  live : ∀ r p sz R, Live o r p sz R → (∃ R', Live o' r p sz R' ∧ R.length ≤ R'.length) ∧ g'.G r p = g.G r p ∧
    ∀ b cells e f, g.G r p = some b → w.heap[b]? = some (.cells cells e f) → ∃ cells', w'.heap[b]? = some (.cells cells' e f) ∧ cells'.size = cells.size

theorem Pin.goes {g0 g g' : Gh} {w0 w w' : World} {l s s' o' : Store} (h : Pin g0 w0 s g w) (hg : Goes w (l ++ s) g w' o' g') (hk : ∀ r ob, getA s r = some ob → ∃ ob', getA s' r = some ob') : Pin g0 w0 s' g' w' := by
  intro r b hb
  obtain ⟨⟨ob, h1⟩, h2, h3⟩ := h r b hb
  have hl : ∃ ob', getA (l ++ s) r = some ob' := by
    rw [getA_append]
    cases getA l r with
    | some x => exact ⟨x, rfl⟩
    | none => exact ⟨ob, h1⟩
  obtain ⟨ob', h4⟩ := hl
  obtain ⟨_, k2, k3⟩ := hg.live r [] _ _ ⟨ob', h4, rfl⟩
  refine ⟨hk r ob h1, by rw [k2]; exact h2, fun cells e f hc => ?_⟩
  obtain ⟨c1, e1, e2⟩ := h3 cells e f hc
  obtain ⟨c2, e3, e4⟩ := k3 b c1 e f h2 e1
  exact ⟨c2, e3, e4.trans e2⟩

theorem SlAt.goes {w w' : World} {g g' : Gh} {r : Root} {p : Path} {sz off len : Nat} {y : Value} (hG : g'.G r p = g.G r p)
    (hb : ∀ b cells e f, g.G r p = some b → w.heap[b]? = some (.cells cells e f) → ∃ cells', w'.heap[b]? = some (.cells cells' e f) ∧ cells'.size = cells.size)
    (h : SlAt g w r p sz off len y) : SlAt g' w' r p sz off len y := by
  unfold SlAt at *
  rw [hG]
  cases hg : g.G r p with
  | none => simpa [hg] using h
  | some b =>
    simp only [hg] at h ⊢
    obtain ⟨a, cap, e1, eb, e2, e3, e4, e5⟩ := h
    refine ⟨a, cap, e1, eb, e2, e3, e4, fun h0 => ?_⟩
    obtain ⟨f1, cells, e, f, f2, f3⟩ := e5 h0
    obtain ⟨cells', k1, k2⟩ := hb b cells e f hg f2
    exact ⟨f1, cells', e, f, k1, by rw [k2]; exact f3⟩

theorem Live.unique {o : Store} {r : Root} {p : Path} {sz sz' : Nat} {R R' : List (List C)} (h : Live o r p sz R) (h' : Live o r p sz' R') : sz = sz' ∧ R = R' := by
  obtain ⟨ob, h1, h2⟩ := h
  obtain ⟨ob', k1, k2⟩ := h'
  rw [h1] at k1; cases k1
  rw [h2] at k2; cases k2; exact ⟨rfl, rfl⟩

/-- A cell that stands nowhere (a temporary's). -/
theorem CR.goes {w w' : World} {o o' : Store} {g g' : Gh} (h : Goes w o g w' o' g') {c : C} {y : Value} (hc : CR w o g none c y) : CR w' o' g' none c y := by
  cases c with
  | v x => exact hc
  | sh sz R => exact Sh.mono h.S hc
  | ps cs => exact Sh.mono h.S hc
  | own sz R => exact hc
  | rs r p sz off len =>
    obtain ⟨R, hl, hn, hs⟩ := hc
    obtain ⟨⟨R', hl', hle⟩, hG, hb⟩ := h.live r p sz R hl
    exact ⟨R', hl', by omega, SlAt.goes hG hb hs⟩
  | pt r p sz row off =>
    obtain ⟨R, b, hl, hn, hg, hy⟩ := hc
    obtain ⟨⟨R', hl', hle⟩, hG, hb⟩ := h.live r p sz R hl
    exact ⟨R', b, hl', by omega, by rw [hG]; exact hg, hy⟩
  | bad => trivial

theorem XR.goes {w w' : World} {o o' : Store} {g g' : Gh} (h : Goes w o g w' o' g') {c : X} {y : Value} (hc : XR w o g c y) : XR w' o' g' c y := by
  cases c with
  | one c => exact CR.goes h hc
  | agg cs => obtain ⟨ys, e1, e2, e3⟩ := hc; exact ⟨ys, e1, e2, fun j hj => CR.goes h (e3 j hj)⟩

theorem VR.goes {w w' : World} {o o' : Store} {g g' : Gh} (h : Goes w o g w' o' g') {c : V} {y : Value} (hc : VR w o g c y) : VR w' o' g' c y := by
  cases c with
  | x c => exact XR.goes h hc
  | tup cs => obtain ⟨ys, e1, e2, e3⟩ := hc; exact ⟨ys, e1, e2, fun j hj => XR.goes h (e3 j hj)⟩

end Go.Rx
