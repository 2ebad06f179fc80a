/- The operations that only compute or read: what they come to over data, and that the model's run comes to the same. -/
import Derived.Test.YtbnabpmfdnfigaaRxA
namespace Go.Rx
open Go.RowKit

def tySz (P : Program) (t : TypeId) : Option Nat := (P.info? t).map (·.size)
def tyAgg (P : Program) (t : TypeId) : Option Bool := (P.underlying t).map fun | .struct _ => true | .array _ _ => true | _ => false
def tyFld (P : Program) (s : TypeId) (f : Nat) : Option (Nat × TypeId) :=
  match P.underlying s with
  | some (.struct fs) => (fs[f]?).map fun f => (f.offset, f.type)
  | _ => none
def tyElem (P : Program) (t : TypeId) : Option TypeId :=
  match P.underlying t with
  | some (.slice e) => some e
  | _ => none

def ofVal : Value → V
  | .agg ys => .x (.agg (ys.toList.map .v))
  | y => .x (.one (.v y))

def ev (σ : St) : Operand → V
  | .tmp t => σ.t.getD t (.x (.one .bad))
  | .const x => ofVal x
  | .func f => .x (.one (.v (.func (.func f) #[] #[])))
  | .global g => .x (.one (.v (.pointer (some ⟨g, 0, none⟩))))

/-- What a run comes to that neither looks at the world nor turns it. -/
def pureIn {α : Type} (P : Program) : Sem α → Option α
  | .pure a => some a
  | .program k => pureIn P (k P)
  | .mark _ k => pureIn P k
  | _ => none

theorem pureIn_run {α : Type} {P : Program} {s : Sem α} {r : α} (h : pureIn P s = some r) (w : World) : s.run P w = .ok r w := by
  induction s with
  | pure a => simp only [pureIn, Option.some.injEq] at h; subst h; rfl
  | program k ih => simp only [pureIn] at h; simp only [Sem.run]; exact ih P h
  | mark m k ih => simp only [pureIn] at h; simp only [Sem.run]; exact ih h
  | _ => simp [pureIn] at h

/-- The value itself, where no memory of anyone's is in it. -/
def vals : List C → Option (List Value)
  | [] => some []
  | .v x :: cs => (vals cs).map (x :: ·)
  | _ :: _ => none
def plain : V → Option Value
  | .x (.one (.v x)) => some x
  | .x (.agg cs) => (vals cs).map fun ys => .agg ys.toArray
  | _ => none

theorem vals_length {cs : List C} {ys : List Value} (h : vals cs = some ys) : ys.length = cs.length := by
  induction cs generalizing ys with
  | nil => simp [vals] at h; simp [h]
  | cons c cs ih =>
    cases c <;> simp [vals] at h
    obtain ⟨a, ha, rfl⟩ := h
    simp [ih ha]

theorem vals_get {cs : List C} {ys : List Value} (h : vals cs = some ys) (j : Nat) (hj : j < cs.length) : cs.getD j .bad = .v (ys.getD j undef) := by
  induction cs generalizing ys j with
  | nil => simp at hj
  | cons c cs ih =>
    cases c <;> simp [vals] at h
    obtain ⟨a, ha, rfl⟩ := h
    cases j with
    | zero => simp
    | succ j => simpa using ih ha j (by simpa using hj)

theorem list_ext_getD {ys zs : List Value} (h : ys.length = zs.length) (h' : ∀ j, j < ys.length → ys.getD j undef = zs.getD j undef) : ys = zs := by
  apply List.ext_getElem h
  intro i h1 h2
  have := h' i h1
  simpa [List.getD, List.getElem?_eq_getElem h1, List.getElem?_eq_getElem h2] using this

section
variable {P : Program} {w : World} {o : Store} {g : Gh}

theorem plain_eq {x : V} {y z : Value} (h : plain x = some z) (hx : VR w o g x y) : y = z := by
  cases x with
  | tup xs => simp [plain] at h
  | x x =>
    cases x with
    | one c =>
      cases c <;> simp [plain] at h
      subst h; exact hx
    | agg cs =>
      simp only [plain, Option.map_eq_some_iff] at h
      obtain ⟨ys, h1, rfl⟩ := h
      obtain ⟨zs, rfl, e2, e3⟩ := hx
      have hl := vals_length h1
      rw [list_ext_getD (ys := zs) (zs := ys) (by omega) (fun j hj => by
        have := e3 j (by omega)
        rw [vals_get h1 j (by omega)] at this
        exact this)]

theorem ofVal_rel (y : Value) : VR w o g (ofVal y) y := by
  unfold ofVal
  split
  · rename_i ys
    refine ⟨ys.toList, by simp, by simp, fun j hj => ?_⟩
    simp only [List.length_map] at hj
    simp [List.getD, List.getElem?_map, List.getElem?_eq_getElem hj, CR]
  · exact rfl

theorem ev_rel {g0 : Gh} {w0 : World} {σ : St} {a : Act} (h : Rel g0 w0 σ g a w) (x : Operand) : VR w σ.o g (ev σ x) (a.eval x) := by
  cases x with
  | tmp t =>
    by_cases ht : t < σ.t.length
    · exact h.tmps t ht
    · simp only [ev, List.getD, List.getElem?_eq_none (Nat.le_of_not_lt ht)]
      trivial
  | const y => exact ofVal_rel y
  | func f => exact rfl
  | global k => exact rfl

/-! ### cells -/

def deloc (r : Root) (p : Path) (row : Nat) (j : Nat) : C → C
  | .own sz R => .rs r (p ++ [(row, j)]) sz 0 R.length
  | c => c

def delocs (r : Root) (p : Path) (row : Nat) : Nat → List C → List C
  | _, [] => []
  | j, c :: cs => deloc r p row j c :: delocs r p row (j + 1) cs

theorem delocs_length (r : Root) (p : Path) (row j : Nat) (cs : List C) : (delocs r p row j cs).length = cs.length := by
  induction cs generalizing j with
  | nil => rfl
  | cons c cs ih => simp [delocs, ih]

theorem delocs_get (r : Root) (p : Path) (row j : Nat) (cs : List C) (k : Nat) (hk : k < cs.length) : (delocs r p row j cs).getD k .bad = deloc r p row (j + k) (cs.getD k .bad) := by
  induction cs generalizing j k with
  | nil => simp at hk
  | cons c cs ih =>
    cases k with
    | zero => simp [delocs]
    | succ k =>
      have := ih (j + 1) k (by simpa using hk)
      simp only [delocs, List.getD_cons_succ, this]
      rw [show j + 1 + k = j + (k + 1) by omega]

theorem rowsAt_snoc {sz n m : Nat} {R : List (List C)} {p : Path} {i j : Nat} {Q Q' : List (List C)} (h : rowsAt sz R p = some (n, Q)) (hi : i < Q.length) (hj : j < (Q.getD i []).length)
    (hc : cellAt Q i j = .own m Q') : rowsAt sz R (p ++ [(i, j)]) = some (m, Q') := by
  induction p generalizing R sz with
  | nil =>
    simp only [rowsAt, Option.some.injEq, Prod.mk.injEq] at h
    obtain ⟨rfl, rfl⟩ := h
    have h1 : R[i]? = some (R.getD i []) := by simp [List.getD, List.getElem?_eq_getElem hi]
    have h2 : (R.getD i [])[j]? = some (.own m Q') := by
      rw [← hc]; unfold cellAt; simp only [List.getD_eq_getElem?_getD] at hj ⊢
      rw [List.getElem?_eq_getElem hj]; rfl
    simp only [List.nil_append, rowsAt, h1, Option.bind_some, h2]
  | cons x p ih =>
    obtain ⟨a, b⟩ := x
    rw [List.cons_append]
    cases hq : (R[a]?).bind (·[b]?) with
    | none => simp [rowsAt, hq] at h
    | some c =>
      cases c <;> simp only [rowsAt, hq] at h ⊢ <;> first | exact ih h | cases h

theorem deloc_rel {r : Root} {p : Path} {i j sz : Nat} {R : List (List C)} {y : Value} (hl : Live o r p sz R) (hi : i < R.length) (hj : j < (R.getD i []).length)
    (hc : CR w o g (some (r, p, i, j)) (cellAt R i j) y) : CR w o g none (deloc r p i j (cellAt R i j)) y := by
  cases h : cellAt R i j with
  | own m Q =>
    rw [h] at hc
    obtain ⟨ob, h1, h2⟩ := hl
    exact ⟨Q, ⟨ob, h1, rowsAt_snoc h2 hi hj h⟩, by omega, hc⟩
  | _ => rw [h] at hc; exact hc

theorem add_lit (b n m : Nat) : (⟨b, n, none⟩ : Addr).add m = ⟨b, n + m, none⟩ := by
  unfold Addr.add; split <;> simp_all

theorem run_loadCellsFrom {a : Addr} (f : Nat → Value) (w : World) : ∀ (n i : Nat) (acc : Array Value), (∀ j, j < n → w.cell? (a.add (i + j)) = some (f (i + j))) →
    (loadCellsFrom a i n acc).run P w = .ok (acc ++ ((List.range n).map fun j => f (i + j)).toArray) w
  | 0, i, acc, _ => by simp [loadCellsFrom]
  | n + 1, i, acc, h => by
    have h0 := h 0 (by omega)
    simp only [Nat.add_zero] at h0
    have ih := run_loadCellsFrom f w n (i + 1) (acc.push (f i)) (fun j hj => by have := h (j + 1) (by omega); rw [show i + 1 + j = i + (j + 1) by omega]; exact this)
    simp only [loadCellsFrom, load, Sem.run_bind, Sem.run, h0, Result.andThen_ok, ih]
    congr 1
    apply Array.ext'
    simp only [Array.toList_append, Array.toList_push, List.append_assoc, List.range_succ_eq_map, List.map_cons, List.map_map]
    simp [Function.comp_def, Nat.add_assoc, Nat.add_comm 1]

theorem run_loadCells {a : Addr} (f : Nat → Value) (w : World) (n : Nat) (h : ∀ j, j < n → w.cell? (a.add j) = some (f j)) :
    (loadCells a n).run P w = .ok ((List.range n).map f).toArray w := by
  have := run_loadCellsFrom (P := P) f w n 0 #[] (by simpa using h)
  simpa [loadCells] using this

end
end Go.Rx
