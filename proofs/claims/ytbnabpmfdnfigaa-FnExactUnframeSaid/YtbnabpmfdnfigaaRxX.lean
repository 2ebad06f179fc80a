/- More rules: strings and bools compared, calls. -/
import Derived.Test.YtbnabpmfdnfigaaRxW
import Derived.Laws.Strings
namespace Go.Rx
open Go.RowKit
variable {P : Program} {t : TypeId} {x y : Operand}
def binV' := @binV
theorem beq_data (a b : ByteArray) : (a.toList == b.toList) = decide (a = b) := by
  by_cases h : a = b
  · subst h; simp
  · have : ¬ a.toList = b.toList := fun e => h (by
      rw [ByteArray.toList_eq, ByteArray.toList_eq] at e
      cases a; cases b; simp_all)
    simp [h, this]
theorem bin_eqs (a b : ByteArray) : binV P .eql t x y (one (.v (.string a))) (one (.v (.string b))) = some (one (.v (.bool (decide (a = b))))) := by
  simp only [binV, plain2, plain, eqGuard, binOp, Op.stringOp, bind, pure, beq_data]; rfl
theorem bin_nes (a b : ByteArray) : binV P .neq t x y (one (.v (.string a))) (one (.v (.string b))) = some (one (.v (.bool (!decide (a = b))))) := by
  simp only [binV, plain2, plain, eqGuard, binOp, Op.stringOp, bind, pure, beq_data]; rfl
theorem pure_bind' {α β : Type} {s : Sem α} {r : α} {k : α → Sem β} (h : pureIn P s = some r) : pureIn P (s.bind k) = pureIn P (k r) := by
  induction s with
  | pure a => simp only [pureIn, Option.some.injEq] at h; subst h; rfl
  | program q ih => simp only [pureIn] at h; exact ih P h
  | mark m q ih => simp only [pureIn] at h; exact ih h
  | _ => simp [pureIn] at h
theorem equalB (a b : Bool) (h : P.underlying t = some .bool) : pureIn P (Op.equal t (.bool a) (.bool b)) = some (decide (a = b)) := by
  show pureIn P (Op.equalIn (9999 + 1) t (.bool a) (.bool b)) = _
  unfold Op.equalIn
  have hu : pureIn P (underlying t) = some .bool := by
    show pureIn P (match P.underlying t with | some d => Sem.pure d | none => stuck "no such type") = _
    rw [h]; rfl
  refine (pure_bind' hu).trans ?_
  cases a <;> cases b <;> rfl
theorem bin_eqb (a b : Bool) : binV P .eql t x y (one (.v (.bool a))) (one (.v (.bool b))) = match P.underlying t with
    | some .bool => some (one (.v (.bool (decide (a = b)))))
    | _ => binV' P .eql t x y (one (.v (.bool a))) (one (.v (.bool b))) := by
  split
  · rename_i h
    show Option.map ofVal (pureIn P ((Op.equal t (.bool a) (.bool b)).bind fun r => Sem.pure (.bool r))) = _
    rw [pure_bind' (equalB a b h)]; rfl
  · rfl
theorem bin_neb (a b : Bool) : binV P .neq t x y (one (.v (.bool a))) (one (.v (.bool b))) = match P.underlying t with
    | some .bool => some (one (.v (.bool (!decide (a = b)))))
    | _ => binV' P .neq t x y (one (.v (.bool a))) (one (.v (.bool b))) := by
  split
  · rename_i h
    show Option.map ofVal (pureIn P ((Op.equal t (.bool a) (.bool b)).bind fun r => Sem.pure (.bool !r))) = _
    rw [pure_bind' (equalB a b h)]; rfl
  · rfl
def makeS' := @makeS
theorem make_nat (σ : St) (N k : Nat) : makeS P σ (some N) t (int k) (int k) = match tyElem P t with
    | some e => match tyZero P e, tySz P e, tyBytes P e with
      | some zs, some s, some b => if fresh σ N = true ∧ zs.length = s ∧ 0 < s ∧ k * b ≤ 281474976710656 ∧ k ≤ 9223372036854775807 then
          some (put (newSt σ N ⟨.sl, s, List.replicate k (zs.map .v)⟩) (some N) (slV σ N s k)) else makeS' P σ (some N) t (int k) (int k)
      | _, _, _ => makeS' P σ (some N) t (int k) (int k)
    | none => makeS' P σ (some N) t (int k) (int k) := by
  split
  · rename_i e he
    split
    · rename_i zs s b h1 h2 h3
      split
      · rename_i hc
        obtain ⟨c1, c2, c3, c4, c5⟩ := hc
        have c6 : (b : Int) * (k : Int) ≤ 281474976710656 := by
          rw [← Int.natCast_mul, Nat.mul_comm]; omega
        simp only [makeS, he, plain_v, h1, h2, h3]
        rw [if_pos ⟨c1, c2, c3, by omega, by omega, by omega, c6⟩]
        simp
      · rfl
    · rfl
  · rfl

/-- Rows that are being filled. -/
def fill {α : Type} (f : α → List C) (xs : List α) (z : List C) (i : Nat) : List (List C) := (xs.take i).map f ++ List.replicate (xs.length - i) z
theorem fill_length {α : Type} (f : α → List C) (xs : List α) (z : List C) (i : Nat) (h : i ≤ xs.length) : (fill f xs z i).length = xs.length := by
  simp [fill]; omega
theorem fill_zero {α : Type} (f : α → List C) (xs : List α) (z : List C) : fill f xs z 0 = List.replicate xs.length z := by simp [fill]
theorem fill_all {α : Type} (f : α → List C) (xs : List α) (z : List C) : fill f xs z xs.length = xs.map f := by simp [fill]
theorem fill_get {α : Type} (f : α → List C) (xs : List α) (z : List C) (i : Nat) (h : i < xs.length) : (fill f xs z i).getD i [] = z := by
  have hl : ((xs.take i).map f).length = i := by simp; omega
  obtain ⟨m, hm⟩ : ∃ m, xs.length - i = m + 1 := ⟨xs.length - i - 1, by omega⟩
  rw [List.getD_eq_getElem?_getD, fill, List.getElem?_append_right (by omega), hl, Nat.sub_self, hm, List.replicate_succ]
  rfl
theorem fill_set {α : Type} [Inhabited α] (f : α → List C) (xs : List α) (z : List C) (i : Nat) (h : i < xs.length) : (fill f xs z i).set i (f (xs.getD i default)) = fill f xs z (i + 1) := by
  have hl : ((xs.take i).map f).length = i := by simp; omega
  unfold fill
  rw [List.set_append, if_neg (by omega), hl, Nat.sub_self, List.take_add_one, List.map_append, List.append_assoc]
  congr 1
  obtain ⟨m, hm⟩ : ∃ m, xs.length - i = m + 1 := ⟨xs.length - i - 1, by omega⟩
  rw [hm, List.replicate_succ, List.set_cons_zero, show xs.length - (i + 1) = m by omega, List.getElem?_eq_getElem h, List.getD_eq_getElem?_getD, List.getElem?_eq_getElem h]
  rfl
/-- A frame of temporaries: the last ones are not told. -/
def fr (n : Nat) (vs : List V) : List V := vs ++ List.replicate (n - vs.length) (.x (.one .bad))
theorem toShRR_enc {R : List (List C)} (h : toShRR R = R) : toShRR R = R := h
attribute [push_cast] make_nat
theorem nrRR_map {α : Type} (f : α → List C) (h : ∀ x, nrR (f x) = true) (xs : List α) : nrRR (xs.map f) = true := by
  induction xs with
  | nil => rfl
  | cons x xs ih => simp only [List.map_cons, nrRR, h x, ih, Bool.and_self]
theorem poRR_map {α : Type} (f : α → List C) (h : ∀ x, poR (f x) = true) (xs : List α) : poRR (xs.map f) = true := by
  induction xs with
  | nil => rfl
  | cons x xs ih => simp only [List.map_cons, poRR, h x, ih, Bool.and_self]
theorem toShRR_map {α : Type} (f : α → List C) (h : ∀ x, toShR (f x) = f x) (xs : List α) : toShRR (xs.map f) = xs.map f := by
  induction xs with
  | nil => rfl
  | cons x xs ih => simp only [List.map_cons, toShRR, h x, ih]
theorem take_map_all {α β : Type} (f : α → β) (xs : List α) : (xs.map f).take xs.length = xs.map f := List.take_of_length_le (by simp)
theorem take_all {α : Type} (xs : List α) : xs.take xs.length = xs := List.take_of_length_le (Nat.le_refl _)
attribute [push_cast] take_map_all take_all Option.isSome_some Option.isSome_none Bool.or_true Bool.true_or Bool.false_or Bool.or_false List.length_map
theorem w64 {n : Int} (h1 : -9223372036854775808 ≤ n) (h2 : n ≤ 9223372036854775807) : IntKind.i64.wrap n = n := by rw [IntKind.wrap_i64]; omega
attribute [push_cast] bin_eqs bin_nes bin_eqb bin_neb viewVs viewV viewX viewCs viewC newRoots impXs impCs impC packT freshR impSt poR po retRow cellsOf
end Go.Rx
