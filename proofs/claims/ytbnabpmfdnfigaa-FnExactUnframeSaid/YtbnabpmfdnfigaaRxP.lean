/- A region whose operations may go in more than one order: each order comes to the same. -/
import Derived.Test.YtbnabpmfdnfigaaRxO
namespace Go.Rx
open Go.RowKit

section
variable {P : Program} {w w0 w' : World} {g g0 gr : Gh} {σ τ : St} {a : Act} {ops : Array Oper} {o : Oper}

abbrev badV : V := .x (.one .bad)

theorem opV_local (e : ∀ x ∈ o.op.operands, ev τ x = ev σ x) (hm : ∀ r ob, getA σ.o r = some ob → getA τ.o r = some ob) {v : V} (h : opV P σ o = some v) : opV P τ o = some v := by
  unfold opV at *
  split at h
  · rename_i x ho; rw [e x (by simp [ho, Op.operands])]; exact h
  · rename_i x ho; rw [e x (by simp [ho, Op.operands])]; exact h
  · rename_i c x y ho
    rw [e c (by simp [ho, Op.operands]), e x (by simp [ho, Op.operands]), e y (by simp [ho, Op.operands])]; exact h
  · rename_i x ho; rw [e x (by simp [ho, Op.operands])]; exact h
  · rename_i ho; rename_i y _; rename_i x
    rw [e _ (by rw [ho]; simp [Op.operands]), e _ (by rw [ho]; simp [Op.operands])]; exact h
  · rename_i x ho; rw [e x (by simp [ho, Op.operands])]; exact h
  · rename_i x ho; rw [e x (by simp [ho, Op.operands])]; exact convV_more hm h
  · rename_i x f ho; rw [e x (by simp [ho, Op.operands])]; exact h
  · rename_i x i ho; rw [e x (by simp [ho, Op.operands])]; exact h
  · rename_i x i ho; rw [e x (by simp [ho, Op.operands]), e i (by simp [ho, Op.operands])]; exact h
  · rename_i x f ho; rw [e x (by simp [ho, Op.operands])]; exact h
  · rename_i x i ho; rw [e x (by simp [ho, Op.operands]), e i (by simp [ho, Op.operands])]; exact h
  · rename_i x lo hi ho
    have hlo : lo.map (ev τ) = lo.map (ev σ) := by
      cases lo with
      | none => rfl
      | some y => simp only [Option.map_some]; rw [e y (by simp [ho, Op.operands])]
    have hhi : hi.map (ev τ) = hi.map (ev σ) := by
      cases hi with
      | none => rfl
      | some y => simp only [Option.map_some]; rw [e y (by simp [ho, Op.operands])]
    rw [e x (by simp [ho, Op.operands]), hlo, hhi]; exact h
  · rename_i t x ho
    rw [e x (by simp [ho, Op.operands])]; exact loadV_more hm h
  · rename_i b as ats ho
    have : as.toList.map (ev τ) = as.toList.map (ev σ) := List.map_congr_left fun x hx => e x (by rw [ho]; simp [Op.operands, Call.operands]; exact Array.mem_toList_iff.1 hx)
    rw [this]; exact h
  · cases h

theorem OpE_local (e : ∀ x ∈ o.op.operands, ev τ x = ev σ x) (hd : τ.d = σ.d) (hm : ∀ r ob, getA σ.o r = some ob → getA τ.o r = some ob) {v : V} {l : Store} (h : OpE P σ o v l) : OpE P τ o v l := by
  unfold OpE at *
  split at h
  · rename_i f as ats ho
    split at h
    · rename_i N hN
      obtain ⟨xs, ret, h1, h2, h3, h4, h5⟩ := h
      have : as.toList.map (ev τ) = as.toList.map (ev σ) := List.map_congr_left fun x hx => e x (by rw [ho]; simp [Op.operands, Call.operands]; right; exact Array.mem_toList_iff.1 hx)
      exact ⟨xs, ret, by rw [this]; exact viewVs_more hm h1, h2, h3, by rw [hd]; exact h4, by rw [hd]; exact h5⟩
    · exact h.elim
  · exact ⟨opV_local e hm h.1, h.2⟩

theorem looks_ev (ht : ∀ t ∈ Oper.looksAt ops o, τ.t.getD t badV = σ.t.getD t badV) : (∀ x ∈ o.op.operands, ev τ x = ev σ x) ∧ gd τ ops o = gd σ ops o := by
  constructor
  · intro x hx
    cases x with
    | tmp t => exact ht t (by unfold Oper.looksAt; exact List.mem_append_left _ (List.mem_filterMap.2 ⟨.tmp t, Array.mem_toList_iff.2 hx, rfl⟩))
    | _ => rfl
  · unfold gd
    cases hg : o.guard with
    | none => rfl
    | some p =>
      obtain ⟨j, b⟩ := p
      simp only []
      cases hd : (ops[j]?).bind (·.dst) with
      | none => rfl
      | some d =>
        have := ht d (by unfold Oper.looksAt; rw [hg]; exact List.mem_append_right _ (by simp [hd]))
        simp only [this]

/-! ### the order of the text -/

theorem DRun_spec {K : St → Prop} : ∀ (l : List Oper) (σ : St) (L : Store), DRun P ops l σ L K →
    ∃ (res : Nat → V × Store) (pre : Nat → St) (LL : Nat → Store), pre 0 = σ ∧ LL 0 = L ∧
      (∀ j o, l[j]? = some o → Stp P ops (pre j) o (res j).1 (res j).2 ∧ pre (j + 1) = put (pre j) o.dst (res j).1 ∧ LL (j + 1) = (res j).2 ++ LL j ∧ freshR (LL j ++ σ.l) (res j).2 = true) ∧
      K { pre l.length with l := LL l.length ++ σ.l }
  | [], σ, L, h => ⟨fun _ => (badV, []), fun _ => σ, fun _ => L, rfl, rfl, fun j o hj => by simp at hj, h⟩
  | o :: l, σ, L, h => by
    simp only [DRun] at h
    split at h
    · rename_i hg
      obtain ⟨v, s, h1, h2, h3⟩ := h
      obtain ⟨res, pre, LL, e1, e2, e3, e4⟩ := DRun_spec l _ _ h3
      have hl : (put σ o.dst v).l = σ.l := by cases o.dst <;> rfl
      refine ⟨fun | 0 => (v, s) | j + 1 => res j, fun | 0 => σ | j + 1 => pre j, fun | 0 => L | j + 1 => LL j, rfl, rfl, fun j o' hj => ?_, by rw [hl] at e4; exact e4⟩
      cases j with
      | zero =>
        simp only [List.getElem?_cons_zero, Option.some.injEq] at hj
        subst hj
        exact ⟨.inl ⟨hg, h1⟩, e1, e2, h2⟩
      | succ j =>
        have := e3 j o' (by simpa using hj)
        rw [hl] at this
        exact this
    · rename_i hg
      obtain ⟨res, pre, LL, e1, e2, e3, e4⟩ := DRun_spec l _ _ h
      have hl : (put σ o.dst badV).l = σ.l := by cases o.dst <;> rfl
      refine ⟨fun | 0 => (badV, []) | j + 1 => res j, fun | 0 => σ | j + 1 => pre j, fun | 0 => L | j + 1 => LL j, rfl, rfl, fun j o' hj => ?_, by rw [hl] at e4; exact e4⟩
      cases j with
      | zero =>
        simp only [List.getElem?_cons_zero, Option.some.injEq] at hj
        subst hj
        exact ⟨.inr ⟨hg, rfl, rfl⟩, e1, e2, rfl⟩
      | succ j =>
        have := e3 j o' (by simpa using hj)
        rw [hl] at this
        exact this
    · exact h.elim

structure Inv (n : Nat) (dst : Nat → Option Tmp) (res : Nat → V × Store) (σ : St) (S : Nat → Bool) (τ : St) : Prop where
  d : τ.d = σ.d
  g : τ.g = σ.g
  len : τ.t.length = σ.t.length
  set : ∀ i, i < n → S i = true → ∀ t, dst i = some t → t < σ.t.length → τ.t.getD t badV = (res i).1
  old : ∀ t, (∀ i, i < n → S i = true → dst i ≠ some t) → τ.t.getD t badV = σ.t.getD t badV
  lold : ∀ r ob, getA σ.l r = some ob → getA τ.l r = some ob
  lnew : ∀ i, i < n → S i = true → ∀ r ob, getA (res i).2 r = some ob → getA τ.l r = some ob
  lback : ∀ r ob, getA τ.l r = some ob → getA σ.l r = some ob ∨ ∃ i, i < n ∧ S i = true ∧ getA (res i).2 r = some ob

theorem getD_put {σ : St} {dst : Option Tmp} {v : V} (t : Tmp) : (put σ dst v).t.getD t badV = if dst = some t ∧ t < σ.t.length then v else σ.t.getD t badV := by
  cases dst with
  | none => simp [put]
  | some d =>
    simp only [put, List.getD_eq_getElem?_getD, List.getElem?_set, Option.some.injEq]
    by_cases h : d = t
    · subst h
      by_cases hl : d < σ.t.length
      · simp [hl]
      · simp [hl]
    · simp [h]

theorem put_len {σ : St} {dst : Option Tmp} {v : V} : (put σ dst v).t.length = σ.t.length := by cases dst <;> simp [put]
theorem put_d {σ : St} {dst : Option Tmp} {v : V} : (put σ dst v).d = σ.d := by cases dst <;> rfl
theorem put_g {σ : St} {dst : Option Tmp} {v : V} : (put σ dst v).g = σ.g := by cases dst <;> rfl
theorem put_l {σ : St} {dst : Option Tmp} {v : V} : (put σ dst v).l = σ.l := by cases dst <;> rfl

theorem pre_spec {dst : Nat → Option Tmp} {res : Nat → V × Store} {pre : Nat → St} (n : Nat) (h0 : pre 0 = σ) (hs : ∀ j, j < n → pre (j + 1) = put (pre j) (dst j) (res j).1)
    (hdis : ∀ i j, i < n → j < n → i ≠ j → dst i ≠ none → dst i ≠ dst j) :
    ∀ j, j ≤ n → (pre j).d = σ.d ∧ (pre j).g = σ.g ∧ (pre j).l = σ.l ∧ (pre j).t.length = σ.t.length ∧
      (∀ i, i < j → ∀ t, dst i = some t → t < σ.t.length → (pre j).t.getD t badV = (res i).1) ∧ (∀ t, (∀ i, i < j → dst i ≠ some t) → (pre j).t.getD t badV = σ.t.getD t badV) := by
  intro j
  induction j with
  | zero => intro _; rw [h0]; exact ⟨rfl, rfl, rfl, rfl, fun i hi => absurd hi (Nat.not_lt_zero _), fun _ _ => rfl⟩
  | succ j ih =>
    intro hj
    obtain ⟨i1, i2, i3, i4, i5, i6⟩ := ih (by omega)
    rw [hs j (by omega)]
    refine ⟨by rw [put_d, i1], by rw [put_g, i2], by rw [put_l, i3], by rw [put_len, i4], fun i hi t ht hlt => ?_, fun t ht => ?_⟩
    · rw [getD_put]
      by_cases e : i = j
      · subst e; rw [if_pos ⟨ht, by rw [i4]; exact hlt⟩]
      · rw [if_neg (fun h => hdis i j (by omega) (by omega) e (by rw [ht]; simp) (by rw [ht, h.1])), i5 i (by omega) t ht hlt]
    · rw [getD_put, if_neg (fun h => ht j (by omega) h.1), i6 t (fun i hi => ht i (by omega))]

end
end Go.Rx
