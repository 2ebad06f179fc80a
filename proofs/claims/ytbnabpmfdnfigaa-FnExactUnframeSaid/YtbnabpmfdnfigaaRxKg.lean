/- A struct's literal. -/
import Derived.Test.YtbnabpmfdnfigaaRxKf
namespace Go.Rx
open Go.RowKit

/-- Every field's type has a size. -/
def fldsOk (P : Program) (t : TypeId) : Bool := match P.underlying t with
  | some (.struct fs) => fs.toList.all fun f => (P.info? f.type).isSome
  | _ => false

def buildCells (P : Program) (t : TypeId) : List C → List (Nat × V) → Option (List C)
  | cs, [] => some cs
  | cs, (f, .x x) :: ps => match tyFld P t f with
    | some (off, ft) => match tySz P ft, cellsX x with
      | some n, some ds => if ds.length = n ∧ off + n ≤ cs.length then buildCells P t (setRange cs off ds) ps else none
      | _, _ => none
    | none => none
  | _, (_, .tup _) :: _ => none

section
variable {P : Program} {w : World} {g : Gh} {o : Store}

theorem sizes_run (w : World) : ∀ fs : List Field, (fs.all fun f => (P.info? f.type).isSome) = true →
    (fs.mapM (fun (f : Field) => do pure (f.offset, ← sizeOf f.type))).run P w = .ok (fs.map fun f => (f.offset, ((P.info? f.type).map (·.size)).getD 0)) w
  | [], _ => rfl
  | f :: fs, h => by
    simp only [List.all_cons, Bool.and_eq_true] at h
    obtain ⟨i, hi⟩ := Option.isSome_iff_exists.1 h.1
    have hs : (sizeOf f.type).run P w = .ok i.size w := by simp [sizeOf, typeInfo, hi]
    rw [List.mapM_cons, Sem.run_bind, Sem.run_bind, hs, Result.andThen_ok, Sem.run_pure, Result.andThen_ok, Sem.run_bind, sizes_run w fs h.2, Result.andThen_ok, Sem.run_pure]
    simp [hi]

theorem buildCells_rel {t : TypeId} {place : Nat → Option (Nat × Nat)} (hp : ∀ f off ft n, tyFld P t f = some (off, ft) → tySz P ft = some n → place f = some (off, n)) :
    ∀ (ps : List (Nat × V)) (vs : List (Nat × Value)) (cs ds : List C) (A : Array Value), ps.length = vs.length →
      (∀ (k f : Nat) (v : V), ps[k]? = some (f, v) → ∃ y, vs[k]? = some (f, y) ∧ VR w o g v y) → buildCells P t cs ps = some ds → A.size = cs.length → (∀ j, j < cs.length → CR w o g none (cs.getD j .bad) (A.getD j undef)) →
      ∃ B, Instr.fill place A vs = some B ∧ B.size = ds.length ∧ ∀ j, j < ds.length → CR w o g none (ds.getD j .bad) (B.getD j undef)
  | [], [], cs, ds, A, _, _, h, hs, hc => by
    simp only [buildCells, Option.some.injEq] at h
    subst h
    exact ⟨A, rfl, hs, hc⟩
  | [], _ :: _, _, _, _, hl, _, _, _, _ => by simp at hl
  | _ :: _, [], _, _, _, hl, _, _, _, _ => by simp at hl
  | (f, v) :: ps, (f', y) :: vs, cs, ds, A, hl, hv, h, hs, hc => by
    obtain ⟨y', e1, e2⟩ := hv 0 f v rfl
    simp only [List.getElem?_cons_zero, Option.some.injEq, Prod.mk.injEq] at e1
    obtain ⟨rfl, rfl⟩ := e1
    cases v with
    | tup _ => simp [buildCells] at h
    | x x =>
      simp only [buildCells] at h
      split at h
      case h_2 => cases h
      rename_i off ft hf
      split at h
      case h_2 => cases h
      rename_i n es hn hes
      split at h
      case isFalse => cases h
      rename_i hle
      obtain ⟨c1, c2, c3⟩ := cellsX_rel hes e2
      have hys : y.cells.size = n := by rw [← hle.1, ← c1]; simp
      have hyl : y.cells.toList.length = n := by simpa using hys
      obtain ⟨f1, f2⟩ := foldl_set y.cells.toList off 0 A (by rw [hyl, hs]; omega)
      have hstep : Instr.fill place A ((f', y) :: vs) = Instr.fill place ((y.cells.toList.zipIdx 0).foldl (fun (B : Array Value) (x : Value × Nat) => B.setIfInBounds (off + x.2) x.1) A) vs := by
        simp only [Instr.fill, hp f' off ft n hf hn]
        rw [if_neg (by simp only [hys, ne_eq, not_true_eq_false, decide_false, Bool.false_or, decide_eq_true_eq]; omega)]
        congr 1
        rw [← Array.foldl_toList, Array.toList_zipIdx]
      have hsl : (setRange cs off es).length = cs.length := setRange_length (by omega)
      obtain ⟨B, b1, b2, b3⟩ := buildCells_rel hp ps vs (setRange cs off es) ds _ (by simpa using hl) (fun k f v hk => hv (k + 1) f v (by simpa using hk)) h (by rw [f1, hsl, hs]) (fun j hj => by
        rw [setRange_get (by omega), f2]
        rw [hsl] at hj
        by_cases hq : off ≤ j ∧ j < off + es.length
        · rw [if_pos hq, if_pos (by rw [hyl]; omega)]
          exact c2 (j - off) (by omega)
        · rw [if_neg hq, if_neg (by rw [hyl]; omega)]
          exact hc j hj)
      exact ⟨B, hstep.trans b1, b2, b3⟩
end
end Go.Rx
