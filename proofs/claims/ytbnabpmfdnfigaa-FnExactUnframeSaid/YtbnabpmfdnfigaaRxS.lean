/- What simp runs. -/
import Derived.Test.YtbnabpmfdnfigaaRxR
namespace Go.Rx
open Go.RowKit

abbrev isCall := semOp

def stepG (P : Program) (σ : St) (s : SOp) : Option St :=
  match gdS σ.t s with
  | some true => stepO P σ s.oper
  | some false => some (put σ s.dst (.x (.one .bad)))
  | none => none
def opG (P : Program) (σ : St) (s : SOp) : Option V :=
  match gdS σ.t s with
  | some true => opV P σ s.oper
  | some false => some (.x (.one .bad))
  | none => none

def GoM (P : Program) (s : Option St) (l : List SOp) (k : List Fr) (Q : Ex → St → Prop) : Prop :=
  match s with
  | some σ => GoL P l k σ Q
  | none => False
def GoN (P : Program) (v : Option V) (dst : Option Tmp) (l : List SOp) (L : Store) (k : List Fr) (σ : St) (Q : Ex → St → Prop) : Prop :=
  match v with
  | some v => GoD P l L k (put σ dst v) Q
  | none => False

/-- A test whose outcome is this value. -/
def GoC (P : Program) (v : Option Value) (x y : SC) (k : List Fr) (σ : St) (Q : Ex → St → Prop) : Prop :=
  match v with
  | some (.bool t) => (t = true → Go P x k σ Q) ∧ (t = false → Go P y k σ Q)
  | _ => False

section
variable {P : Program} {k : List Fr} {σ : St} {Q : Ex → St → Prop} {l : List SOp} {s : SOp} {L : Store}

theorem Go_test {c : Operand} {x y : SC} : Go P (.cond c x y) k σ Q = GoC P (plain (ev σ c)) x y k σ Q := by
  rw [Go_cond_eq]
  unfold GoC
  apply propext
  constructor
  · rintro ⟨t, h1, h2⟩
    rw [h1]; exact h2
  · intro h
    split at h
    · rename_i t ht; exact ⟨t, ht, h⟩
    · exact h.elim
theorem GoC_true {x y : SC} : GoC P (some (.bool true)) x y k σ Q = Go P x k σ Q := by simp [GoC]
theorem GoC_false {x y : SC} : GoC P (some (.bool false)) x y k σ Q = Go P y k σ Q := by simp [GoC]
theorem GoC_split {x y : SC} {t : Bool} (hx : t = true → Go P x k σ Q) (hy : t = false → Go P y k σ Q) : GoC P (some (.bool t)) x y k σ Q := ⟨hx, hy⟩

theorem isCall_spec {op : Op} (h : isCall op = false) : ∀ f as ats, op ≠ .call { callee := .value (.func f), args := as, argTypes := ats } := by
  intro f as ats e; subst e; cases h
theorem isCall_map {op : Op} (h : isCall op = false) : (∀ t r, op ≠ .makeMap t r) ∧ (∀ a b c d, op ≠ .lookup a b c d) ∧ (∀ a b c d, op ≠ .mapUpdate a b c d) :=
  ⟨fun _ _ e => (by subst e; cases h), fun _ _ _ _ e => (by subst e; cases h), fun _ _ _ _ e => (by subst e; cases h)⟩

theorem GoL_eq0 (h : isCall s.op = false) : GoL P (s :: l) k σ Q = GoM P (stepG P σ s) l k Q := by
  have hs := isCall_spec h
  unfold GoL stepL stepG GoM
  cases hg : gdS σ.t s with
  | none => rfl
  | some b =>
    cases b with
    | false => rfl
    | true =>
      simp only
      apply propext
      constructor
      · intro hw
        unfold wop at hw
        split at hw
        · rename_i f as ats ho; exact absurd ho (hs f as ats)
        · rename_i ho; exact absurd ho ((isCall_map h).1 _ _)
        · rename_i ho; exact absurd ho ((isCall_map h).2.1 _ _ _ _)
        · rename_i ho; exact absurd ho ((isCall_map h).2.2 _ _ _ _)
        · obtain ⟨σ', h1, h2⟩ := hw
          rw [h1]; exact h2
      · intro hw
        split at hw
        · rename_i σ' h1
          unfold wop
          split
          · rename_i f as ats ho; exact absurd ho (hs f as ats)
          · rename_i ho; exact absurd ho ((isCall_map h).1 _ _)
          · rename_i ho; exact absurd ho ((isCall_map h).2.1 _ _ _ _)
          · rename_i ho; exact absurd ho ((isCall_map h).2.2 _ _ _ _)
          · exact ⟨σ', h1, hw⟩
        · exact hw.elim

theorem GoM_some {σ' : St} : GoM P (some σ') l k Q = GoL P l k σ' Q := rfl

theorem GoD_eq0 (h : isCall s.op = false) : GoD P (s :: l) L k σ Q = GoN P (opG P σ s) s.dst l L k σ Q := by
  have hs := isCall_spec h
  unfold GoD drawL opG GoN
  cases hg : gdS σ.t s with
  | none => rfl
  | some b =>
    cases b with
    | false => rfl
    | true =>
      simp only
      apply propext
      constructor
      · rintro ⟨v, m, h1, h2, h3⟩
        unfold OpE at h1
        split at h1
        · rename_i f as ats ho; exact absurd ho (hs f as ats)
        · obtain ⟨e1, rfl⟩ := h1
          rw [e1]; exact h3
      · intro hw
        split at hw
        · rename_i v h1
          refine ⟨v, [], ?_, rfl, hw⟩
          unfold OpE
          split
          · rename_i f as ats ho; exact absurd ho (hs f as ats)
          · exact ⟨h1, rfl⟩
        · exact hw.elim

theorem GoL_eq {d : Option Tmp} {op : Op} {ty : TypeId} {g : Option (Tmp × Bool)} (h : isCall op = false) : GoL P (⟨d, op, ty, g⟩ :: l) k σ Q = GoM P (stepG P σ ⟨d, op, ty, g⟩) l k Q := GoL_eq0 h
theorem GoD_eq {d : Option Tmp} {op : Op} {ty : TypeId} {g : Option (Tmp × Bool)} (h : isCall op = false) : GoD P (⟨d, op, ty, g⟩ :: l) L k σ Q = GoN P (opG P σ ⟨d, op, ty, g⟩) d l L k σ Q := GoD_eq0 h
theorem nc_box {e : TypeId} {x : Operand} : isCall (.box e x) = false := rfl
theorem nc_alloc {e : TypeId} : isCall (.alloc e) = false := rfl
theorem nc_makeSlice {t : TypeId} {x y : Operand} : isCall (.makeSlice t x y) = false := rfl
theorem nc_store {t : TypeId} {x y : Operand} : isCall (.store t x y) = false := rfl
theorem nc_move {x : Operand} : isCall (.move x) = false := rfl
theorem nc_assign {x : Operand} : isCall (.assign x) = false := rfl
theorem nc_pick {c x y : Operand} : isCall (.pick c x y) = false := rfl
theorem nc_nilCheck {x : Operand} : isCall (.nilCheck x) = false := rfl
theorem nc_binOp {o : BinOp} {t u : TypeId} {x y : Operand} : isCall (.binOp o t x y u) = false := rfl
theorem nc_unOp {o : UnOp} {t : TypeId} {x : Operand} : isCall (.unOp o t x) = false := rfl
theorem nc_convert {t u : TypeId} {x : Operand} : isCall (.convert t u x) = false := rfl
theorem nc_field {t : TypeId} {x : Operand} {f : Nat} : isCall (.field t x f) = false := rfl
theorem nc_extract {x : Operand} {i : Nat} : isCall (.extract x i) = false := rfl
theorem nc_index {t : TypeId} {x i : Operand} : isCall (.index t x i) = false := rfl
theorem nc_fieldAddr {t : TypeId} {x : Operand} {f : Nat} : isCall (.fieldAddr t x f) = false := rfl
theorem nc_indexAddr {t : TypeId} {x i : Operand} : isCall (.indexAddr t x i) = false := rfl
theorem nc_slice {t : TypeId} {x : Operand} {lo hi mx : Option Operand} : isCall (.slice t x lo hi mx) = false := rfl
theorem nc_load {t : TypeId} {x : Operand} : isCall (.load t x) = false := rfl
theorem nc_build {t : TypeId} {ps : Array (Nat × Operand)} : isCall (.build t ps) = false := rfl
theorem nc_buildSlice {t n : Nat} {ps : Array (Nat × Operand)} : isCall (.buildSlice t n ps) = false := rfl
theorem nc_built {b : Builtin} {as : Array Operand} {ats : Array TypeId} : isCall (.call { callee := .builtin b, args := as, argTypes := ats }) = false := rfl
theorem gL_box {d : Option Tmp} {ty : TypeId} {gg : Option (Tmp × Bool)} {e : TypeId} {x : Operand} : GoL P (⟨d, .box e x, ty, gg⟩ :: l) k σ Q = GoM P (stepG P σ ⟨d, .box e x, ty, gg⟩) l k Q := GoL_eq nc_box
theorem gD_box {d : Option Tmp} {ty : TypeId} {gg : Option (Tmp × Bool)} {e : TypeId} {x : Operand} : GoD P (⟨d, .box e x, ty, gg⟩ :: l) L k σ Q = GoN P (opG P σ ⟨d, .box e x, ty, gg⟩) d l L k σ Q := GoD_eq nc_box
theorem gL_alloc {d : Option Tmp} {ty : TypeId} {gg : Option (Tmp × Bool)} {e : TypeId} : GoL P (⟨d, .alloc e, ty, gg⟩ :: l) k σ Q = GoM P (stepG P σ ⟨d, .alloc e, ty, gg⟩) l k Q := GoL_eq nc_alloc
theorem gD_alloc {d : Option Tmp} {ty : TypeId} {gg : Option (Tmp × Bool)} {e : TypeId} : GoD P (⟨d, .alloc e, ty, gg⟩ :: l) L k σ Q = GoN P (opG P σ ⟨d, .alloc e, ty, gg⟩) d l L k σ Q := GoD_eq nc_alloc
theorem gL_makeSlice {d : Option Tmp} {ty : TypeId} {gg : Option (Tmp × Bool)} {t : TypeId} {x y : Operand} : GoL P (⟨d, .makeSlice t x y, ty, gg⟩ :: l) k σ Q = GoM P (stepG P σ ⟨d, .makeSlice t x y, ty, gg⟩) l k Q := GoL_eq nc_makeSlice
theorem gD_makeSlice {d : Option Tmp} {ty : TypeId} {gg : Option (Tmp × Bool)} {t : TypeId} {x y : Operand} : GoD P (⟨d, .makeSlice t x y, ty, gg⟩ :: l) L k σ Q = GoN P (opG P σ ⟨d, .makeSlice t x y, ty, gg⟩) d l L k σ Q := GoD_eq nc_makeSlice
theorem gL_store {d : Option Tmp} {ty : TypeId} {gg : Option (Tmp × Bool)} {t : TypeId} {x y : Operand} : GoL P (⟨d, .store t x y, ty, gg⟩ :: l) k σ Q = GoM P (stepG P σ ⟨d, .store t x y, ty, gg⟩) l k Q := GoL_eq nc_store
theorem gD_store {d : Option Tmp} {ty : TypeId} {gg : Option (Tmp × Bool)} {t : TypeId} {x y : Operand} : GoD P (⟨d, .store t x y, ty, gg⟩ :: l) L k σ Q = GoN P (opG P σ ⟨d, .store t x y, ty, gg⟩) d l L k σ Q := GoD_eq nc_store
theorem gL_move {d : Option Tmp} {ty : TypeId} {gg : Option (Tmp × Bool)} {x : Operand} : GoL P (⟨d, .move x, ty, gg⟩ :: l) k σ Q = GoM P (stepG P σ ⟨d, .move x, ty, gg⟩) l k Q := GoL_eq nc_move
theorem gD_move {d : Option Tmp} {ty : TypeId} {gg : Option (Tmp × Bool)} {x : Operand} : GoD P (⟨d, .move x, ty, gg⟩ :: l) L k σ Q = GoN P (opG P σ ⟨d, .move x, ty, gg⟩) d l L k σ Q := GoD_eq nc_move
theorem gL_assign {d : Option Tmp} {ty : TypeId} {gg : Option (Tmp × Bool)} {x : Operand} : GoL P (⟨d, .assign x, ty, gg⟩ :: l) k σ Q = GoM P (stepG P σ ⟨d, .assign x, ty, gg⟩) l k Q := GoL_eq nc_assign
theorem gD_assign {d : Option Tmp} {ty : TypeId} {gg : Option (Tmp × Bool)} {x : Operand} : GoD P (⟨d, .assign x, ty, gg⟩ :: l) L k σ Q = GoN P (opG P σ ⟨d, .assign x, ty, gg⟩) d l L k σ Q := GoD_eq nc_assign
theorem gL_pick {d : Option Tmp} {ty : TypeId} {gg : Option (Tmp × Bool)} {c x y : Operand} : GoL P (⟨d, .pick c x y, ty, gg⟩ :: l) k σ Q = GoM P (stepG P σ ⟨d, .pick c x y, ty, gg⟩) l k Q := GoL_eq nc_pick
theorem gD_pick {d : Option Tmp} {ty : TypeId} {gg : Option (Tmp × Bool)} {c x y : Operand} : GoD P (⟨d, .pick c x y, ty, gg⟩ :: l) L k σ Q = GoN P (opG P σ ⟨d, .pick c x y, ty, gg⟩) d l L k σ Q := GoD_eq nc_pick
theorem gL_nilCheck {d : Option Tmp} {ty : TypeId} {gg : Option (Tmp × Bool)} {x : Operand} : GoL P (⟨d, .nilCheck x, ty, gg⟩ :: l) k σ Q = GoM P (stepG P σ ⟨d, .nilCheck x, ty, gg⟩) l k Q := GoL_eq nc_nilCheck
theorem gD_nilCheck {d : Option Tmp} {ty : TypeId} {gg : Option (Tmp × Bool)} {x : Operand} : GoD P (⟨d, .nilCheck x, ty, gg⟩ :: l) L k σ Q = GoN P (opG P σ ⟨d, .nilCheck x, ty, gg⟩) d l L k σ Q := GoD_eq nc_nilCheck
theorem gL_binOp {d : Option Tmp} {ty : TypeId} {gg : Option (Tmp × Bool)} {o : BinOp} {t u : TypeId} {x y : Operand} : GoL P (⟨d, .binOp o t x y u, ty, gg⟩ :: l) k σ Q = GoM P (stepG P σ ⟨d, .binOp o t x y u, ty, gg⟩) l k Q := GoL_eq nc_binOp
theorem gD_binOp {d : Option Tmp} {ty : TypeId} {gg : Option (Tmp × Bool)} {o : BinOp} {t u : TypeId} {x y : Operand} : GoD P (⟨d, .binOp o t x y u, ty, gg⟩ :: l) L k σ Q = GoN P (opG P σ ⟨d, .binOp o t x y u, ty, gg⟩) d l L k σ Q := GoD_eq nc_binOp
theorem gL_unOp {d : Option Tmp} {ty : TypeId} {gg : Option (Tmp × Bool)} {o : UnOp} {t : TypeId} {x : Operand} : GoL P (⟨d, .unOp o t x, ty, gg⟩ :: l) k σ Q = GoM P (stepG P σ ⟨d, .unOp o t x, ty, gg⟩) l k Q := GoL_eq nc_unOp
theorem gD_unOp {d : Option Tmp} {ty : TypeId} {gg : Option (Tmp × Bool)} {o : UnOp} {t : TypeId} {x : Operand} : GoD P (⟨d, .unOp o t x, ty, gg⟩ :: l) L k σ Q = GoN P (opG P σ ⟨d, .unOp o t x, ty, gg⟩) d l L k σ Q := GoD_eq nc_unOp
theorem gL_convert {d : Option Tmp} {ty : TypeId} {gg : Option (Tmp × Bool)} {t u : TypeId} {x : Operand} : GoL P (⟨d, .convert t u x, ty, gg⟩ :: l) k σ Q = GoM P (stepG P σ ⟨d, .convert t u x, ty, gg⟩) l k Q := GoL_eq nc_convert
theorem gD_convert {d : Option Tmp} {ty : TypeId} {gg : Option (Tmp × Bool)} {t u : TypeId} {x : Operand} : GoD P (⟨d, .convert t u x, ty, gg⟩ :: l) L k σ Q = GoN P (opG P σ ⟨d, .convert t u x, ty, gg⟩) d l L k σ Q := GoD_eq nc_convert
theorem gL_field {d : Option Tmp} {ty : TypeId} {gg : Option (Tmp × Bool)} {t : TypeId} {x : Operand} {f : Nat} : GoL P (⟨d, .field t x f, ty, gg⟩ :: l) k σ Q = GoM P (stepG P σ ⟨d, .field t x f, ty, gg⟩) l k Q := GoL_eq nc_field
theorem gD_field {d : Option Tmp} {ty : TypeId} {gg : Option (Tmp × Bool)} {t : TypeId} {x : Operand} {f : Nat} : GoD P (⟨d, .field t x f, ty, gg⟩ :: l) L k σ Q = GoN P (opG P σ ⟨d, .field t x f, ty, gg⟩) d l L k σ Q := GoD_eq nc_field
theorem gL_extract {d : Option Tmp} {ty : TypeId} {gg : Option (Tmp × Bool)} {x : Operand} {i : Nat} : GoL P (⟨d, .extract x i, ty, gg⟩ :: l) k σ Q = GoM P (stepG P σ ⟨d, .extract x i, ty, gg⟩) l k Q := GoL_eq nc_extract
theorem gD_extract {d : Option Tmp} {ty : TypeId} {gg : Option (Tmp × Bool)} {x : Operand} {i : Nat} : GoD P (⟨d, .extract x i, ty, gg⟩ :: l) L k σ Q = GoN P (opG P σ ⟨d, .extract x i, ty, gg⟩) d l L k σ Q := GoD_eq nc_extract
theorem gL_index {d : Option Tmp} {ty : TypeId} {gg : Option (Tmp × Bool)} {t : TypeId} {x i : Operand} : GoL P (⟨d, .index t x i, ty, gg⟩ :: l) k σ Q = GoM P (stepG P σ ⟨d, .index t x i, ty, gg⟩) l k Q := GoL_eq nc_index
theorem gD_index {d : Option Tmp} {ty : TypeId} {gg : Option (Tmp × Bool)} {t : TypeId} {x i : Operand} : GoD P (⟨d, .index t x i, ty, gg⟩ :: l) L k σ Q = GoN P (opG P σ ⟨d, .index t x i, ty, gg⟩) d l L k σ Q := GoD_eq nc_index
theorem gL_fieldAddr {d : Option Tmp} {ty : TypeId} {gg : Option (Tmp × Bool)} {t : TypeId} {x : Operand} {f : Nat} : GoL P (⟨d, .fieldAddr t x f, ty, gg⟩ :: l) k σ Q = GoM P (stepG P σ ⟨d, .fieldAddr t x f, ty, gg⟩) l k Q := GoL_eq nc_fieldAddr
theorem gD_fieldAddr {d : Option Tmp} {ty : TypeId} {gg : Option (Tmp × Bool)} {t : TypeId} {x : Operand} {f : Nat} : GoD P (⟨d, .fieldAddr t x f, ty, gg⟩ :: l) L k σ Q = GoN P (opG P σ ⟨d, .fieldAddr t x f, ty, gg⟩) d l L k σ Q := GoD_eq nc_fieldAddr
theorem gL_indexAddr {d : Option Tmp} {ty : TypeId} {gg : Option (Tmp × Bool)} {t : TypeId} {x i : Operand} : GoL P (⟨d, .indexAddr t x i, ty, gg⟩ :: l) k σ Q = GoM P (stepG P σ ⟨d, .indexAddr t x i, ty, gg⟩) l k Q := GoL_eq nc_indexAddr
theorem gD_indexAddr {d : Option Tmp} {ty : TypeId} {gg : Option (Tmp × Bool)} {t : TypeId} {x i : Operand} : GoD P (⟨d, .indexAddr t x i, ty, gg⟩ :: l) L k σ Q = GoN P (opG P σ ⟨d, .indexAddr t x i, ty, gg⟩) d l L k σ Q := GoD_eq nc_indexAddr
theorem gL_slice {d : Option Tmp} {ty : TypeId} {gg : Option (Tmp × Bool)} {t : TypeId} {x : Operand} {lo hi mx : Option Operand} : GoL P (⟨d, .slice t x lo hi mx, ty, gg⟩ :: l) k σ Q = GoM P (stepG P σ ⟨d, .slice t x lo hi mx, ty, gg⟩) l k Q := GoL_eq nc_slice
theorem gD_slice {d : Option Tmp} {ty : TypeId} {gg : Option (Tmp × Bool)} {t : TypeId} {x : Operand} {lo hi mx : Option Operand} : GoD P (⟨d, .slice t x lo hi mx, ty, gg⟩ :: l) L k σ Q = GoN P (opG P σ ⟨d, .slice t x lo hi mx, ty, gg⟩) d l L k σ Q := GoD_eq nc_slice
theorem gL_load {d : Option Tmp} {ty : TypeId} {gg : Option (Tmp × Bool)} {t : TypeId} {x : Operand} : GoL P (⟨d, .load t x, ty, gg⟩ :: l) k σ Q = GoM P (stepG P σ ⟨d, .load t x, ty, gg⟩) l k Q := GoL_eq nc_load
theorem gD_load {d : Option Tmp} {ty : TypeId} {gg : Option (Tmp × Bool)} {t : TypeId} {x : Operand} : GoD P (⟨d, .load t x, ty, gg⟩ :: l) L k σ Q = GoN P (opG P σ ⟨d, .load t x, ty, gg⟩) d l L k σ Q := GoD_eq nc_load
theorem gL_build {d : Option Tmp} {ty : TypeId} {gg : Option (Tmp × Bool)} {t : TypeId} {ps : Array (Nat × Operand)} : GoL P (⟨d, .build t ps, ty, gg⟩ :: l) k σ Q = GoM P (stepG P σ ⟨d, .build t ps, ty, gg⟩) l k Q := GoL_eq nc_build
theorem gD_build {d : Option Tmp} {ty : TypeId} {gg : Option (Tmp × Bool)} {t : TypeId} {ps : Array (Nat × Operand)} : GoD P (⟨d, .build t ps, ty, gg⟩ :: l) L k σ Q = GoN P (opG P σ ⟨d, .build t ps, ty, gg⟩) d l L k σ Q := GoD_eq nc_build
theorem gL_buildSlice {d : Option Tmp} {ty : TypeId} {gg : Option (Tmp × Bool)} {t n : Nat} {ps : Array (Nat × Operand)} : GoL P (⟨d, .buildSlice t n ps, ty, gg⟩ :: l) k σ Q = GoM P (stepG P σ ⟨d, .buildSlice t n ps, ty, gg⟩) l k Q := GoL_eq nc_buildSlice
theorem gD_buildSlice {d : Option Tmp} {ty : TypeId} {gg : Option (Tmp × Bool)} {t n : Nat} {ps : Array (Nat × Operand)} : GoD P (⟨d, .buildSlice t n ps, ty, gg⟩ :: l) L k σ Q = GoN P (opG P σ ⟨d, .buildSlice t n ps, ty, gg⟩) d l L k σ Q := GoD_eq nc_buildSlice
theorem gL_built {d : Option Tmp} {ty : TypeId} {gg : Option (Tmp × Bool)} {b : Builtin} {as : Array Operand} {ats : Array TypeId} : GoL P (⟨d, .call { callee := .builtin b, args := as, argTypes := ats }, ty, gg⟩ :: l) k σ Q = GoM P (stepG P σ ⟨d, .call { callee := .builtin b, args := as, argTypes := ats }, ty, gg⟩) l k Q := GoL_eq nc_built
theorem gD_built {d : Option Tmp} {ty : TypeId} {gg : Option (Tmp × Bool)} {b : Builtin} {as : Array Operand} {ats : Array TypeId} : GoD P (⟨d, .call { callee := .builtin b, args := as, argTypes := ats }, ty, gg⟩ :: l) L k σ Q = GoN P (opG P σ ⟨d, .call { callee := .builtin b, args := as, argTypes := ats }, ty, gg⟩) d l L k σ Q := GoD_eq nc_built

theorem GoN_some {v : V} {dst : Option Tmp} : GoN P (some v) dst l L k σ Q = GoD P l L k (put σ dst v) Q := rfl

theorem put_some (t : List V) (d : Nat) (l g : Store) (n : Tmp) (v : V) : put ⟨t, d, l, g⟩ (some n) v = ⟨t.set n v, d, l, g⟩ := rfl
theorem put_none (t : List V) (d : Nat) (l g : Store) (v : V) : put ⟨t, d, l, g⟩ none v = ⟨t, d, l, g⟩ := rfl
theorem ev_tmp (t : List V) (d : Nat) (l g : Store) (n : Tmp) : ev ⟨t, d, l, g⟩ (.tmp n) = t.getD n (.x (.one .bad)) := rfl
theorem ev_int (σ : St) (k : IntKind) (n : Int) : ev σ (.const (.int k n)) = .x (.one (.v (.int k n))) := rfl
theorem ev_bool (σ : St) (b : Bool) : ev σ (.const (.bool b)) = .x (.one (.v (.bool b))) := rfl
theorem ev_string (σ : St) (b : ByteArray) : ev σ (.const (.string b)) = .x (.one (.v (.string b))) := rfl
theorem ev_slice (σ : St) (a : Option Addr) (n m : Nat) : ev σ (.const (.slice a n m)) = .x (.one (.v (.slice a n m))) := rfl
theorem set0 {α : Type} (a b : α) (l : List α) : (a :: l).set 0 b = b :: l := rfl
theorem setS {α : Type} (a b : α) (l : List α) (n : Nat) : (a :: l).set (n + 1) b = a :: l.set n b := rfl
theorem get0 {α : Type} (a d : α) (l : List α) : (a :: l).getD 0 d = a := rfl
theorem getS {α : Type} (a d : α) (l : List α) (n : Nat) : (a :: l).getD (n + 1) d = l.getD n d := rfl
theorem getN {α : Type} (d : α) (n : Nat) : ([] : List α).getD n d = d := rfl

/-! ### each operation -/
section ops
variable {d : Option Tmp} {ty : TypeId}
theorem sG_none {op : Op} : stepG P σ ⟨d, op, ty, none⟩ = stepO P σ ⟨d, op, ty, "", #[], none⟩ := rfl
theorem sG_some {op : Op} {n : Tmp} {b : Bool} : stepG P σ ⟨d, op, ty, some (n, b)⟩ = match plain (σ.t.getD n (.x (.one .bad))) with
    | some (.bool x) => if x = b then stepO P σ ⟨d, op, ty, "", #[], none⟩ else some (put σ d (.x (.one .bad)))
    | _ => none := by
  unfold stepG gdS SOp.oper
  simp only
  generalize plain (σ.t.getD n (.x (.one .bad))) = q
  cases q with
  | none => rfl
  | some y =>
    cases y with
    | bool x => cases x <;> cases b <;> rfl
    | _ => rfl
theorem oG_none {op : Op} : opG P σ ⟨d, op, ty, none⟩ = opV P σ ⟨d, op, ty, "", #[], none⟩ := rfl
theorem oG_some {op : Op} {n : Tmp} {b : Bool} : opG P σ ⟨d, op, ty, some (n, b)⟩ = match plain (σ.t.getD n (.x (.one .bad))) with
    | some (.bool x) => if x = b then opV P σ ⟨d, op, ty, "", #[], none⟩ else some (.x (.one .bad))
    | _ => none := by
  unfold opG gdS SOp.oper
  simp only
  generalize plain (σ.t.getD n (.x (.one .bad))) = q
  cases q with
  | none => rfl
  | some y =>
    cases y with
    | bool x => cases x <;> cases b <;> rfl
    | _ => rfl

variable {p : String} {af : Array Edge} {gu : Option (Nat × Bool)}
theorem s_box {e : TypeId} {x : Operand} : stepO P σ ⟨d, .box e x, ty, p, af, gu⟩ = boxS σ d (ev σ x) := rfl
theorem s_alloc {e : TypeId} : stepO P σ ⟨d, .alloc e, ty, p, af, gu⟩ = allocS P σ d e := rfl
theorem s_make {t : TypeId} {x y : Operand} : stepO P σ ⟨d, .makeSlice t x y, ty, p, af, gu⟩ = makeS P σ d t (ev σ x) (ev σ y) := rfl
theorem s_store {t : TypeId} {x y : Operand} : stepO P σ ⟨d, .store t x y, ty, p, af, gu⟩ = (storeS P σ t (ev σ x) (ev σ y)).map fun σ' => put σ' d (.x (.one .bad)) := rfl
theorem s_move {x : Operand} : stepO P σ ⟨d, .move x, ty, p, af, gu⟩ = some (put σ d (ev σ x)) := rfl
theorem s_assign {x : Operand} : stepO P σ ⟨d, .assign x, ty, p, af, gu⟩ = some (put σ d (ev σ x)) := rfl
theorem s_pick {c x y : Operand} : stepO P σ ⟨d, .pick c x y, ty, p, af, gu⟩ = (opV P σ ⟨d, .pick c x y, ty, p, af, gu⟩).map (put σ d) := rfl
theorem s_nil {x : Operand} : stepO P σ ⟨d, .nilCheck x, ty, p, af, gu⟩ = (nilV (ev σ x)).map (put σ d) := rfl
theorem s_bin {op : BinOp} {t u : TypeId} {x y : Operand} : stepO P σ ⟨d, .binOp op t x y u, ty, p, af, gu⟩ = (binV P op t x y (ev σ x) (ev σ y)).map (put σ d) := rfl
theorem s_un {op : UnOp} {t : TypeId} {x : Operand} : stepO P σ ⟨d, .unOp op t x, ty, p, af, gu⟩ = (un1 P (Op.unary op) (ev σ x)).map (put σ d) := rfl
theorem s_conv {t u : TypeId} {x : Operand} : stepO P σ ⟨d, .convert t u x, ty, p, af, gu⟩ = convS P σ d t u (ev σ x) := rfl
theorem s_field {t : TypeId} {f : Nat} {x : Operand} : stepO P σ ⟨d, .field t x f, ty, p, af, gu⟩ = (fieldV P t f (ev σ x)).map (put σ d) := rfl
theorem s_extract {i : Nat} {x : Operand} : stepO P σ ⟨d, .extract x i, ty, p, af, gu⟩ = (extractV i (ev σ x)).map (put σ d) := rfl
theorem s_index {t : TypeId} {x i : Operand} : stepO P σ ⟨d, .index t x i, ty, p, af, gu⟩ = (un2 P (Instr.index t) (ev σ x) (ev σ i)).map (put σ d) := rfl
theorem s_fieldAddr {t : TypeId} {f : Nat} {x : Operand} : stepO P σ ⟨d, .fieldAddr t x f, ty, p, af, gu⟩ = (fieldAddrV P t f (ev σ x)).map (put σ d) := rfl
theorem s_indexAddr {t : TypeId} {x i : Operand} : stepO P σ ⟨d, .indexAddr t x i, ty, p, af, gu⟩ = (indexAddrV P t (ev σ x) (ev σ i)).map (put σ d) := rfl
theorem s_slice {t : TypeId} {x : Operand} {lo hi : Option Operand} : stepO P σ ⟨d, .slice t x lo hi none, ty, p, af, gu⟩ = (sliceV P t (ev σ x) (lo.map (ev σ)) (hi.map (ev σ))).map (put σ d) := rfl
theorem s_load {t : TypeId} {x : Operand} : stepO P σ ⟨d, .load t x, ty, p, af, gu⟩ = (loadV P σ.o t (ev σ x)).map (put σ d) := rfl
theorem s_len {as : Array Operand} {ats : Array TypeId} : stepO P σ ⟨d, .call { callee := .builtin .len, args := as, argTypes := ats }, ty, p, af, gu⟩ =
    (builtinV P .len ats ty (as.map isC) (as.toList.map (ev σ))).map (put σ d) := rfl
theorem s_min {as : Array Operand} {ats : Array TypeId} : stepO P σ ⟨d, .call { callee := .builtin .min, args := as, argTypes := ats }, ty, p, af, gu⟩ =
    (builtinV P .min ats ty (as.map isC) (as.toList.map (ev σ))).map (put σ d) := rfl
theorem s_max {as : Array Operand} {ats : Array TypeId} : stepO P σ ⟨d, .call { callee := .builtin .max, args := as, argTypes := ats }, ty, p, af, gu⟩ =
    (builtinV P .max ats ty (as.map isC) (as.toList.map (ev σ))).map (put σ d) := rfl
theorem s_append {x y : Operand} {t tx : TypeId} : stepO P σ ⟨d, .call { callee := .builtin .append, args := #[x, y], argTypes := #[t, tx] }, ty, p, af, gu⟩ = appendS P σ d t tx (ev σ x) (ev σ y) := rfl
theorem s_build {t : TypeId} {ps : Array (Nat × Operand)} : stepO P σ ⟨d, .build t ps, ty, p, af, gu⟩ = (buildV P t (ps.toList.map fun q => (q.1, ev σ q.2))).map (put σ d) := rfl
theorem s_buildSlice {t : TypeId} {n : Nat} {ps : Array (Nat × Operand)} : stepO P σ ⟨d, .buildSlice t n ps, ty, p, af, gu⟩ = buildS P σ d t n (ps.toList.map fun q => (q.1, ev σ q.2)) := rfl
theorem o_move {x : Operand} : opV P σ ⟨d, .move x, ty, p, af, gu⟩ = some (ev σ x) := rfl
theorem o_assign {x : Operand} : opV P σ ⟨d, .assign x, ty, p, af, gu⟩ = some (ev σ x) := rfl
theorem o_pick {c x y : Operand} : opV P σ ⟨d, .pick c x y, ty, p, af, gu⟩ = match plain (ev σ c) with
    | some (.bool t) => some (if t then ev σ x else ev σ y)
    | _ => none := rfl
theorem o_nil {x : Operand} : opV P σ ⟨d, .nilCheck x, ty, p, af, gu⟩ = nilV (ev σ x) := rfl
theorem o_bin {op : BinOp} {t u : TypeId} {x y : Operand} : opV P σ ⟨d, .binOp op t x y u, ty, p, af, gu⟩ = binV P op t x y (ev σ x) (ev σ y) := rfl
theorem o_un {op : UnOp} {t : TypeId} {x : Operand} : opV P σ ⟨d, .unOp op t x, ty, p, af, gu⟩ = un1 P (Op.unary op) (ev σ x) := rfl
theorem o_conv {t u : TypeId} {x : Operand} : opV P σ ⟨d, .convert t u x, ty, p, af, gu⟩ = convV P σ.o t u (ev σ x) := rfl
theorem o_field {t : TypeId} {f : Nat} {x : Operand} : opV P σ ⟨d, .field t x f, ty, p, af, gu⟩ = fieldV P t f (ev σ x) := rfl
theorem o_extract {i : Nat} {x : Operand} : opV P σ ⟨d, .extract x i, ty, p, af, gu⟩ = extractV i (ev σ x) := rfl
theorem o_index {t : TypeId} {x i : Operand} : opV P σ ⟨d, .index t x i, ty, p, af, gu⟩ = un2 P (Instr.index t) (ev σ x) (ev σ i) := rfl
theorem o_fieldAddr {t : TypeId} {f : Nat} {x : Operand} : opV P σ ⟨d, .fieldAddr t x f, ty, p, af, gu⟩ = fieldAddrV P t f (ev σ x) := rfl
theorem o_indexAddr {t : TypeId} {x i : Operand} : opV P σ ⟨d, .indexAddr t x i, ty, p, af, gu⟩ = indexAddrV P t (ev σ x) (ev σ i) := rfl
theorem o_slice {t : TypeId} {x : Operand} {lo hi : Option Operand} : opV P σ ⟨d, .slice t x lo hi none, ty, p, af, gu⟩ = sliceV P t (ev σ x) (lo.map (ev σ)) (hi.map (ev σ)) := rfl
theorem o_load {t : TypeId} {x : Operand} : opV P σ ⟨d, .load t x, ty, p, af, gu⟩ = loadV P σ.o t (ev σ x) := rfl
theorem o_built {b : Builtin} {as : Array Operand} {ats : Array TypeId} : opV P σ ⟨d, .call { callee := .builtin b, args := as, argTypes := ats }, ty, p, af, gu⟩ =
    builtinV P b ats ty (as.map isC) (as.toList.map (ev σ)) := rfl
end ops

/-! ### values -/
abbrev one (c : C) : V := .x (.one c)
abbrev int (n : Int) : V := .x (.one (.v (.int .i64 n)))

theorem plain_v (x : Value) : plain (.x (.one (.v x))) = some x := rfl
theorem bin_add {t : TypeId} {x y : Operand} (k : IntKind) (a b : Int) : binV P .add t x y (one (.v (.int k a))) (one (.v (.int k b))) = some (one (.v (.int k (k.wrap (a + b))))) := by
  simp [binV, plain2, plain, pureIn, eqGuard, binOp, Op.intArith, ofVal, bind, pure, Sem.bind]
theorem bin_sub {t : TypeId} {x y : Operand} (k : IntKind) (a b : Int) : binV P .sub t x y (one (.v (.int k a))) (one (.v (.int k b))) = some (one (.v (.int k (k.wrap (a - b))))) := by
  simp [binV, plain2, plain, pureIn, eqGuard, binOp, Op.intArith, ofVal, bind, pure, Sem.bind]
theorem bin_mul {t : TypeId} {x y : Operand} (k : IntKind) (a b : Int) : binV P .mul t x y (one (.v (.int k a))) (one (.v (.int k b))) = some (one (.v (.int k (k.wrap (a * b))))) := by
  simp [binV, plain2, plain, pureIn, eqGuard, binOp, Op.intArith, ofVal, bind, pure, Sem.bind]
theorem bin_lss {t : TypeId} {x y : Operand} (k : IntKind) (a b : Int) : binV P .lss t x y (one (.v (.int k a))) (one (.v (.int k b))) = some (one (.v (.bool (decide (a < b))))) := by
  simp [binV, plain2, plain, pureIn, eqGuard, binOp, Op.intCmp, ofVal, bind, pure, Sem.bind]
theorem bin_leq {t : TypeId} {x y : Operand} (k : IntKind) (a b : Int) : binV P .leq t x y (one (.v (.int k a))) (one (.v (.int k b))) = some (one (.v (.bool (decide (a ≤ b))))) := by
  simp [binV, plain2, plain, pureIn, eqGuard, binOp, Op.intCmp, ofVal, bind, pure, Sem.bind]
theorem bin_gtr {t : TypeId} {x y : Operand} (k : IntKind) (a b : Int) : binV P .gtr t x y (one (.v (.int k a))) (one (.v (.int k b))) = some (one (.v (.bool (decide (b < a))))) := by
  simp [binV, plain2, plain, pureIn, eqGuard, binOp, Op.intCmp, ofVal, bind, pure, Sem.bind]
theorem bin_geq {t : TypeId} {x y : Operand} (k : IntKind) (a b : Int) : binV P .geq t x y (one (.v (.int k a))) (one (.v (.int k b))) = some (one (.v (.bool (decide (b ≤ a))))) := by
  simp [binV, plain2, plain, pureIn, eqGuard, binOp, Op.intCmp, ofVal, bind, pure, Sem.bind]
theorem bin_eql {t : TypeId} {x y : Operand} (k : IntKind) (a b : Int) : binV P .eql t x y (one (.v (.int k a))) (one (.v (.int k b))) = some (one (.v (.bool (decide (a = b))))) := by
  simp [binV, plain2, plain, pureIn, eqGuard, binOp, Op.intCmp, ofVal, bind, pure, Sem.bind]; rfl
theorem bin_neq {t : TypeId} {x y : Operand} (k : IntKind) (a b : Int) : binV P .neq t x y (one (.v (.int k a))) (one (.v (.int k b))) = some (one (.v (.bool (decide (a ≠ b))))) := by
  simp [binV, plain2, plain, pureIn, eqGuard, binOp, Op.intCmp, ofVal, bind, pure, Sem.bind]; rfl
theorem un_not (b : Bool) : un1 P (Op.unary .not) (one (.v (.bool b))) = some (one (.v (.bool !b))) := by
  simp [un1, plain, pureIn, Op.unary, ofVal, pure]

end
end Go.Rx
