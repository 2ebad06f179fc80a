/- New memory, and the step of one operation over data. -/
import Derived.Test.YtbnabpmfdnfigaaRxC
namespace Go.Rx
open Go.RowKit

def put (σ : St) (dst : Option Tmp) (v : V) : St :=
  match dst with
  | some d => { σ with t := σ.t.set d v }
  | none => σ

theorem put_o (σ : St) (dst : Option Tmp) (v : V) : (put σ dst v).o = σ.o := by cases dst <;> rfl

section
variable {P : Program} {w w0 : World} {g g0 : Gh} {σ : St} {a : Act}

theorem Act.put_defers (a : Act) (dst : Option Tmp) (v : Value) : (a.put dst v).defers = a.defers := by cases dst <;> rfl

theorem Rel.put (h : Rel g0 w0 σ g a w) (dst : Option Tmp) {v : V} {y : Value} (hv : VR w σ.o g v y) : Rel g0 w0 (put σ dst v) g (a.put dst y) w := by
  cases dst with
  | none => exact h
  | some d =>
    refine ⟨h.defers, by simp [Rx.put, Act.put, h.size], fun i hi => ?_, h.heap, h.keep, h.loc, h.out, h.obj, h.gref, h.pin⟩
    simp only [Rx.put, List.length_set] at hi
    show VR w σ.o g ((σ.t.set d v).getD i _) ((a.tmps.setIfInBounds d y).getD i undef)
    have hsz := h.size
    by_cases hd : d = i
    · subst hd
      simpa [List.getD_eq_getElem?_getD, List.getElem?_set, hi, Array.getD, hsz] using hv
    · have := h.tmps i hi
      simp only [List.getD_eq_getElem?_getD, List.getElem?_set, hd, if_false, Array.getD_eq_getD_getElem?, Array.getElem?_setIfInBounds_ne hd] at this ⊢
      exact this

/-! ### a new root -/

theorem Goes.rfl' (w : World) (o : Store) (g : Gh) : Goes w o g w o g :=
  ⟨fun _ hk => ⟨hk, rfl⟩, fun _ _ _ R hl => ⟨⟨R, hl, Nat.le_refl _⟩, rfl, fun _ cells _ _ _ hc => ⟨cells, hc, rfl⟩⟩⟩

def Gh.new (g : Gh) (r0 : Root) (b : Nat) : Gh := { g with G := fun r p => if r = r0 then (if p = [] then some b else none) else g.G r p }

def noOwn (R : List (List C)) : Prop := ∀ i j sz Q, i < R.length → j < (R.getD i []).length → cellAt R i j ≠ .own sz Q

theorem rowsAt_noOwn {sz n : Nat} {R Q : List (List C)} {p : Path} (h : noOwn R) (hr : rowsAt sz R p = some (n, Q)) : p = [] ∧ n = sz ∧ Q = R := by
  cases p with
  | nil => simp only [rowsAt, Option.some.injEq, Prod.mk.injEq] at hr; exact ⟨rfl, hr.1.symm, hr.2.symm⟩
  | cons x p =>
    obtain ⟨i, j⟩ := x
    simp only [rowsAt] at hr
    split at hr
    · rename_i sz' R' hq
      exfalso
      cases hi : R[i]? with
      | none => simp [hi] at hq
      | some row =>
        simp only [hi, Option.bind_some] at hq
        have h1 : i < R.length := by
          rcases Nat.lt_or_ge i R.length with h' | h'
          · exact h'
          · simp [List.getElem?_eq_none h'] at hi
        have h2 : R.getD i [] = row := by simp [List.getD_eq_getElem?_getD, hi]
        have h3 : j < row.length := by
          rcases Nat.lt_or_ge j row.length with h' | h'
          · exact h'
          · simp [List.getElem?_eq_none h'] at hq
        exact h i j sz' R' h1 (by rw [h2]; exact h3) (by unfold cellAt; rw [h2]; simp [List.getD_eq_getElem?_getD, hq])
    · cases hr

theorem CR.any {w : World} {o : Store} {g : Gh} {c : C} {y : Value} (l : Option (Root × Path × Nat × Nat)) (h : CR w o g none c y) : CR w o g l c y := by
  cases c <;> first | exact h | exact h.elim

theorem CR.notOwn {w : World} {o : Store} {g : Gh} {sz : Nat} {Q : List (List C)} {y : Value} (h : CR w o g none (.own sz Q) y) : False := h

/-- A cell of one's own rows, where all that there was is still there. -/
theorem CR.goesAt {w w' : World} {o o' : Store} {g g' : Gh} (h : Goes w o g w' o' g') {r : Root} {p : Path} {i j sz : Nat} {R : List (List C)} {y : Value} (hl : Live o r p sz R)
    (hi : i < R.length) (hj : j < (R.getD i []).length) (hc : CR w o g (some (r, p, i, j)) (cellAt R i j) y) : CR w' o' g' (some (r, p, i, j)) (cellAt R i j) y := by
  cases hq : cellAt R i j with
  | own m Q =>
    rw [hq] at hc
    obtain ⟨ob, h1, h2⟩ := hl
    obtain ⟨_, hG, hb⟩ := h.live r _ m Q ⟨ob, h1, rowsAt_snoc h2 hi hj hq⟩
    exact SlAt.goes hG hb hc
  | v x => rw [hq] at hc; exact CR.any _ (CR.goes h (c := .v x) hc)
  | sh m Q => rw [hq] at hc; exact CR.any _ (CR.goes h (c := .sh m Q) hc)
  | rs r' p' m f n => rw [hq] at hc; exact CR.any _ (CR.goes h (c := .rs r' p' m f n) hc)
  | pt r' p' m f n => rw [hq] at hc; exact CR.any _ (CR.goes h (c := .pt r' p' m f n) hc)
  | ps cs => rw [hq] at hc; exact CR.any _ (CR.goes h (c := .ps cs) hc)
  | bad => trivial

theorem heap_alloc (w : World) (o : Obj) (k : Nat) (h : k < w.heap.size) : (w.alloc o).heap[k]? = w.heap[k]? := Below.heap_alloc w o k h
theorem heap_alloc_new (w : World) (o : Obj) : (w.alloc o).heap[w.heap.size]? = some o := by
  show (w.heap.push o)[w.heap.size]? = some o
  simp

theorem block_lt {w : World} {b : Nat} {o : Obj} (h : w.heap[b]? = some o) : b < w.heap.size := (Array.getElem?_eq_some_iff.1 h).1

/-- One more root, over one new block. -/
theorem Rel.new' (h : Rel g0 w0 σ g a w) (n : Nat) (k : Kind) (sz : Nat) (R : List (List C)) (cells : Array Value) (e : TypeId) (fz : Nat × Nat) (hth : Thaw fz cells.size) (hf : getA σ.l (σ.d, n) = none) (hok : okObj ⟨k, sz, R⟩ = true)
    (hlen : ∀ i, i < R.length → (R.getD i []).length = sz) (hsize : R.length * sz ≤ cells.size)
    (hc : ∀ i j, i < R.length → j < sz → CR w σ.o g none (cellAt R i j) (cells.getD (i * sz + j) undef)) :
    Rel g0 w0 { σ with l := ((σ.d, n), ⟨k, sz, R⟩) :: σ.l } (g.new (σ.d, n) w.heap.size) a (w.alloc (.cells cells e fz)) ∧
      Goes w σ.o g (w.alloc (.cells cells e fz)) (((σ.d, n), ⟨k, sz, R⟩) :: σ.o) (g.new (σ.d, n) w.heap.size) := by
  have hfo : getA σ.o (σ.d, n) = none := by
    show getA (σ.l ++ σ.g) _ = none
    rw [getA_append, hf]
    cases hq : getA σ.g (σ.d, n) with
    | none => rfl
    | some ob => exact absurd (h.out _ _ hq) (Nat.lt_irrefl _)
  have hno : noOwn R := fun i j m Q hi hj hq => by
    have := hc i j hi (by rw [hlen i hi] at hj; exact hj)
    rw [hq] at this; exact this
  have hget : ∀ r, getA (((σ.d, n), (⟨k, sz, R⟩ : Obj')) :: σ.o) r = if (σ.d, n) = r then some ⟨k, sz, R⟩ else getA σ.o r := fun r => rfl
  have hne : ∀ r ob, getA σ.o r = some ob → r ≠ (σ.d, n) := fun r ob hr e => by rw [e, hfo] at hr; cases hr
  have hlive : ∀ r p m Q, Live σ.o r p m Q → Live (((σ.d, n), (⟨k, sz, R⟩ : Obj')) :: σ.o) r p m Q := fun r p m Q ⟨ob, h1, h2⟩ =>
    ⟨ob, by rw [hget, if_neg (fun e => hne r ob h1 e.symm)]; exact h1, h2⟩
  have hgoes : Goes w σ.o g (w.alloc (.cells cells e fz)) (((σ.d, n), ⟨k, sz, R⟩) :: σ.o) (g.new (σ.d, n) w.heap.size) := by
    refine ⟨fun b hb => ⟨hb, heap_alloc w _ b (h.heap.S b hb)⟩, fun r p m Q hl => ⟨⟨Q, hlive r p m Q hl, Nat.le_refl _⟩, ?_, fun b cs e' f' hg hb => ⟨cs, ?_, rfl⟩⟩⟩
    · obtain ⟨ob, h1, _⟩ := hl
      simp [Gh.new, hne r ob h1]
    · rw [heap_alloc w _ b (block_lt hb)]; exact hb
  have hsplit : ∀ r p m Q, Live (((σ.d, n), (⟨k, sz, R⟩ : Obj')) :: σ.o) r p m Q → (r = (σ.d, n) ∧ p = [] ∧ m = sz ∧ Q = R) ∨ Live σ.o r p m Q := by
    intro r p m Q ⟨ob, h1, h2⟩
    rw [hget] at h1
    by_cases hr : (σ.d, n) = r
    · rw [if_pos hr] at h1
      cases h1
      exact .inl ⟨hr.symm, rowsAt_noOwn hno h2⟩
    · rw [if_neg hr] at h1
      exact .inr ⟨ob, h1, h2⟩
  refine ⟨⟨h.defers, h.size, fun i hi => VR.goes hgoes (h.tmps i hi), ⟨?_, ?_, ?_, ?_⟩, ⟨h.keep.os, h.keep.tape, h.keep.output, ?_, h.keep.S, ?_⟩, ?_, h.out, ?_, h.gref, h.pin.goes hgoes fun _ ob h => ⟨ob, h⟩⟩, hgoes⟩
  · intro r p m Q b hl hg
    rcases hsplit r p m Q hl with ⟨rfl, rfl, rfl, rfl⟩ | hl'
    · simp only [Gh.new, if_true, Option.some.injEq] at hg
      subst hg
      refine ⟨fun hs => absurd (h.heap.S _ hs) (Nat.lt_irrefl _), hlen, cells, e, fz, heap_alloc_new w _, hth, hsize, fun i j hi hj => ?_⟩
      exact CR.any _ (CR.goes hgoes (hc i j hi hj))
    · have hne' : r ≠ (σ.d, n) := by obtain ⟨ob, h1, _⟩ := hl'; exact hne r ob h1
      simp only [Gh.new, if_neg hne'] at hg
      obtain ⟨k1, k2, cs, e', f', k3, kf, k4, k5⟩ := h.heap.rows r p m Q b hl' hg
      refine ⟨k1, k2, cs, e', f', ?_, kf, k4, fun i j hi hj => CR.goesAt hgoes hl' hi (by rw [k2 i hi]; exact hj) (k5 i j hi hj)⟩
      rw [heap_alloc w _ b (block_lt k3)]; exact k3
  · intro r p ob m Q h1 h2 hg
    change getA (((σ.d, n), (⟨k, sz, R⟩ : Obj')) :: σ.o) r = some ob at h1
    rw [hget] at h1
    by_cases hr : (σ.d, n) = r
    · rw [if_pos hr] at h1
      cases h1
      obtain ⟨rfl, _, _⟩ := rowsAt_noOwn hno h2
      simp [Gh.new, hr.symm] at hg
    · rw [if_neg hr] at h1
      simp only [Gh.new, if_neg (fun e => hr e.symm : r ≠ (σ.d, n))] at hg
      exact h.heap.none r p ob m Q h1 h2 hg
  · intro r p m Q r' p' m' Q' b hl hl' hg hg'
    have old : ∀ r p m Q b, Live σ.o r p m Q → (g.new (σ.d, n) w.heap.size).G r p = some b → g.G r p = some b ∧ b < w.heap.size := fun r p m Q b hl hg => by
      have hne' : r ≠ (σ.d, n) := by obtain ⟨ob, h1, _⟩ := hl; exact hne r ob h1
      simp only [Gh.new, if_neg hne'] at hg
      obtain ⟨_, _, cs, e', f', k3, _⟩ := h.heap.rows r p m Q b hl hg
      exact ⟨hg, block_lt k3⟩
    rcases hsplit r p m Q hl with ⟨rfl, rfl, rfl, rfl⟩ | hl1 <;> rcases hsplit r' p' m' Q' hl' with ⟨rfl, rfl, rfl, rfl⟩ | hl2
    · exact ⟨rfl, rfl⟩
    · simp only [Gh.new, if_true, Option.some.injEq] at hg
      have := (old _ _ _ _ _ hl2 hg').2
      omega
    · simp only [Gh.new, if_true, Option.some.injEq] at hg'
      have := (old _ _ _ _ _ hl1 hg).2
      omega
    · exact h.heap.inj r p m Q r' p' m' Q' b hl1 hl2 (old _ _ _ _ _ hl1 hg).1 (old _ _ _ _ _ hl2 hg').1
  · intro b hb
    have := h.heap.S b hb
    simp; omega
  · have := h.keep.size
    simp; omega
  · intro b hb
    rw [heap_alloc w _ b (h.heap.S b (h.keep.S b hb))]
    exact h.keep.block b hb
  · intro r ob hr
    by_cases hk' : (σ.d, n) = r
    · rw [← hk']
    · simp only [getA, if_neg hk'] at hr
      exact h.loc r ob hr
  · intro r ob hr
    change getA (((σ.d, n), (⟨k, sz, R⟩ : Obj')) :: σ.o) r = some ob at hr
    rw [hget] at hr
    split at hr
    · cases hr; exact hok
    · exact h.obj r ob hr

theorem Rel.new (h : Rel g0 w0 σ g a w) (n : Nat) (k : Kind) (sz : Nat) (R : List (List C)) (cells : Array Value) (e : TypeId) (hf : getA σ.l (σ.d, n) = none) (hok : okObj ⟨k, sz, R⟩ = true)
    (hlen : ∀ i, i < R.length → (R.getD i []).length = sz) (hsize : R.length * sz ≤ cells.size)
    (hc : ∀ i j, i < R.length → j < sz → CR w σ.o g none (cellAt R i j) (cells.getD (i * sz + j) undef)) :
    Rel g0 w0 { σ with l := ((σ.d, n), ⟨k, sz, R⟩) :: σ.l } (g.new (σ.d, n) w.heap.size) a (w.alloc (.cells cells e)) ∧
      Goes w σ.o g (w.alloc (.cells cells e)) (((σ.d, n), ⟨k, sz, R⟩) :: σ.o) (g.new (σ.d, n) w.heap.size) :=
  h.new' n k sz R cells e (0, 0) (fun _ _ h => absurd h.2 (Nat.not_lt_zero _)) hf hok hlen hsize hc

end
end Go.Rx
