/- What a call is handed and what it hands back: rows of one's own seen as rows that nobody writes; a callee's rows taken over. -/
import Derived.Test.YtbnabpmfdnfigaaRxH
namespace Go.Rx
open Go.RowKit

mutual
def toSh : C → C
  | .own sz R => .sh sz (toShRR R)
  | .v x => .v x
  | .sh sz R => .sh sz R
  | .ps cs => .ps cs
  | _ => .bad
def toShR : List C → List C
  | [] => []
  | c :: cs => toSh c :: toShR cs
def toShRR : List (List C) → List (List C)
  | [] => []
  | r :: rs => toShR r :: toShRR rs
end

mutual
/-- Data alone: values and rows of its own. -/
def po : C → Bool
  | .own _ R => poRR R
  | .v _ => true
  | _ => false
def poR : List C → Bool
  | [] => true
  | c :: cs => po c && poR cs
def poRR : List (List C) → Bool
  | [] => true
  | r :: rs => poR r && poRR rs
end

theorem toShR_length (cs : List C) : (toShR cs).length = cs.length := by induction cs <;> simp_all [toShR]
theorem toShRR_length (R : List (List C)) : (toShRR R).length = R.length := by induction R <;> simp_all [toShRR]
theorem toShR_get (cs : List C) (j : Nat) : (toShR cs).getD j .bad = toSh (cs.getD j .bad) := by
  induction cs generalizing j with
  | nil => simp [toShR, toSh]
  | cons c cs ih => cases j <;> simp [toShR] ; exact ih _
theorem toShRR_get (R : List (List C)) (i : Nat) : (toShRR R).getD i [] = toShR (R.getD i []) := by
  induction R generalizing i with
  | nil => simp [toShRR, toShR]
  | cons r R ih => cases i <;> simp [toShRR] ; exact ih _
theorem toSh_cell (R : List (List C)) (i j : Nat) : cellAt (toShRR R) i j = toSh (cellAt R i j) := by
  unfold cellAt; rw [toShRR_get, toShR_get]

theorem nrR_get {cs : List C} (h : nrR cs = true) (j : Nat) : nr (cs.getD j .bad) = true := by
  induction cs generalizing j with
  | nil => simp [nr]
  | cons c cs ih =>
    simp only [nrR, Bool.and_eq_true] at h
    cases j with
    | zero => simpa using h.1
    | succ j => simpa using ih h.2 j
theorem nrRR_get {R : List (List C)} (h : nrRR R = true) (i j : Nat) : nr (cellAt R i j) = true := by
  unfold cellAt
  apply nrR_get
  induction R generalizing i with
  | nil => simp [nrR]
  | cons r R ih =>
    simp only [nrRR, Bool.and_eq_true] at h
    cases i with
    | zero => simpa using h.1
    | succ i => simpa using ih h.2 i
theorem poR_get {cs : List C} (h : poR cs = true) (j : Nat) (hj : j < cs.length) : po (cs.getD j .bad) = true := by
  induction cs generalizing j with
  | nil => simp at hj
  | cons c cs ih =>
    simp only [poR, Bool.and_eq_true] at h
    cases j with
    | zero => simpa using h.1
    | succ j => simpa using ih h.2 j (by simpa using hj)
theorem poRR_get {R : List (List C)} (h : poRR R = true) (i j : Nat) (hi : i < R.length) (hj : j < (R.getD i []).length) : po (cellAt R i j) = true := by
  unfold cellAt
  refine poR_get ?_ j hj
  clear hj
  induction R generalizing i with
  | nil => simp at hi
  | cons r R ih =>
    simp only [poRR, Bool.and_eq_true] at h
    cases i with
    | zero => simpa using h.1
    | succ i => simpa using ih h.2 i (by simpa using hi)

theorem nrRR_rowsAt {sz n : Nat} {R Q : List (List C)} {p : Path} (h : nrRR R = true) (hr : rowsAt sz R p = some (n, Q)) : nrRR Q = true := by
  induction p generalizing R sz with
  | nil => simp only [rowsAt, Option.some.injEq, Prod.mk.injEq] at hr; rw [← hr.2]; exact h
  | cons x p ih =>
    obtain ⟨i, j⟩ := x
    simp only [rowsAt] at hr
    split at hr
    · rename_i s R' hc
      obtain ⟨_, _, h3⟩ := bind_cell hc
      have := nrRR_get h i j
      rw [h3] at this
      exact ih (by simpa [nr] using this) hr
    · cases hr
theorem poRR_rowsAt {sz n : Nat} {R Q : List (List C)} {p : Path} (h : poRR R = true) (hr : rowsAt sz R p = some (n, Q)) : poRR Q = true := by
  induction p generalizing R sz with
  | nil => simp only [rowsAt, Option.some.injEq, Prod.mk.injEq] at hr; rw [← hr.2]; exact h
  | cons x p ih =>
    obtain ⟨i, j⟩ := x
    simp only [rowsAt] at hr
    split at hr
    · rename_i s R' hc
      obtain ⟨h1, h2, h3⟩ := bind_cell hc
      have := poRR_get h i j h1 h2
      rw [h3] at this
      exact ih (by simpa [po] using this) hr
    · cases hr

theorem rowsAt_append {sz n m : Nat} {R Q K : List (List C)} {p q : Path} (h : rowsAt sz R p = some (n, Q)) (hq : rowsAt n Q q = some (m, K)) : rowsAt sz R (p ++ q) = some (m, K) := by
  induction p generalizing R sz with
  | nil => simp only [rowsAt, Option.some.injEq, Prod.mk.injEq] at h; obtain ⟨rfl, rfl⟩ := h; exact hq
  | cons x p ih =>
    obtain ⟨i, j⟩ := x
    rw [List.cons_append]
    cases hc : (R[i]?).bind (·[j]?) with
    | none => simp [rowsAt, hc] at h
    | some c =>
      cases c <;> simp only [rowsAt, hc] at h ⊢ <;> first | exact ih h | cases h

theorem sizeOf_cell {sz : Nat} {R : List (List C)} {i j : Nat} (hi : i < R.length) (hj : j < (R.getD i []).length) : SizeOf.sizeOf (cellAt R i j) < SizeOf.sizeOf (C.own sz R) := by
  have h1 : R.getD i [] ∈ R := by
    rw [List.getD_eq_getElem?_getD, List.getElem?_eq_getElem hi]; exact List.getElem_mem hi
  have h2 : cellAt R i j ∈ R.getD i [] := by
    unfold cellAt; rw [List.getD_eq_getElem?_getD (l := R.getD i []), List.getElem?_eq_getElem hj]; exact List.getElem_mem hj
  have h3 := List.sizeOf_lt_of_mem h1
  have h4 := List.sizeOf_lt_of_mem h2
  simp only [C.own.sizeOf_spec]
  omega

/-- Everything that there is, seen as what nobody writes. -/
def Sall (w : World) : Gh := { G := fun _ _ => none, S := fun k => k < w.heap.size }

section
variable {P : Program} {w w0 w' : World} {g g0 gr : Gh} {σ : St} {a : Act} {o : Store}

theorem cell_of_block {w : World} {b n : Nat} {cells : Array Value} {e : TypeId} {f : Nat × Nat} (h : w.heap[b]? = some (.cells cells e f)) (hn : n < cells.size) :
    w.cell? ⟨b, n, none⟩ = some (cells.getD n undef) := by
  simp [World.cell?, h, Array.getD, hn]

theorem Sh.of_own (hh : HeapRel w o g) : ∀ (n : Nat) (c : C), SizeOf.sizeOf c < n → ∀ r p i j sz R y, Live o r p sz R → i < R.length → j < (R.getD i []).length → cellAt R i j = c →
    CR w o g (some (r, p, i, j)) c y → Sh w (Sall w).S (toSh c) y := by
  intro n
  induction n with
  | zero => intro c h; omega
  | succ n ih =>
    intro c hc r p i j sz R y hl hi hj hcell hcr
    have mono : ∀ {c' : C} {y' : Value}, Sh w g.S c' y' → Sh w (Sall w).S c' y' := fun h => Sh.mono (fun k hk => ⟨hh.S k hk, rfl⟩) h
    cases c with
    | v x => cases hcr; exact .v _
    | sh m Q => exact mono hcr
    | ps cs => exact mono hcr
    | rs => exact .bad _
    | pt => exact .bad _
    | bad => exact .bad _
    | own m Q =>
      obtain ⟨ob, h1, h2⟩ := hl
      have hl' : Live o r (p ++ [(i, j)]) m Q := ⟨ob, h1, rowsAt_snoc h2 hi hj hcell⟩
      simp only [toSh]
      have hs : SlAt g w r (p ++ [(i, j)]) m 0 Q.length y := hcr
      unfold SlAt at hs
      split at hs
      · obtain ⟨rfl, h0⟩ := hs
        rw [List.length_eq_zero_iff.1 h0]
        exact .nil m
      · rename_i b hb
        obtain ⟨q, cap, rfl, _, e2, e3, _, e5⟩ := hs
        obtain ⟨rfl, _⟩ := e5 rfl
        obtain ⟨_, k2, cells, e, f, k3, _, k4, k5⟩ := hh.rows r _ m Q b hl' hb
        refine .slice m _ _ _ _ (fun i j => cells.getD (i * m + j) undef) (toShRR_length Q) e2 e3 (fun _ => block_lt k3) (fun i hi => ?_) (fun i j hi hj => ?_) (fun i j hi hj => ?_)
        · rw [toShRR_get, toShR_length]; exact k2 i hi
        · rw [add_lit, add_lit, Nat.zero_add]
          have : (i + 1) * m ≤ Q.length * m := Nat.mul_le_mul_right _ hi
          rw [Nat.add_mul, Nat.one_mul] at this
          exact cell_of_block k3 (by omega)
        · rw [toSh_cell]
          have hj' : j < (Q.getD i []).length := by rw [k2 i hi]; exact hj
          have hlt := sizeOf_cell (sz := m) hi hj'
          exact ih _ (by omega) r _ i j m Q _ hl' hi hj' rfl (k5 i j hi hj)

def viewC (o : Store) : C → Option C
  | .v x => some (.v x)
  | .sh sz R => some (.sh sz R)
  | .ps cs => some (.ps cs)
  | .rs r p sz off len => match getA o r with
    | some ob => match rowsAt ob.sz ob.rows p with
      | some (sz', R) => if sz' = sz then some (.sh sz (toShRR ((R.drop off).take len))) else none
      | none => none
    | none => none
  | .pt r p sz i j => match getA o r with
    | some ob => match rowsAt ob.sz ob.rows p with
      | some (sz', R) => if sz' = sz then some (.ps (toShR ((R.getD i []).drop j))) else none
      | none => none
    | none => none
  | .bad => some .bad
  | .own _ _ => none

def viewCs (o : Store) : List C → Option (List C)
  | [] => some []
  | c :: cs => match viewC o c, viewCs o cs with
    | some c, some cs => some (c :: cs)
    | _, _ => none

def viewX (o : Store) : X → Option X
  | .one c => (viewC o c).map .one
  | .agg cs => (viewCs o cs).map .agg

theorem toShRR_take_drop (R : List (List C)) (n m i : Nat) (hi : i < m) : ((R.drop n).take m).getD i [] = R.getD (n + i) [] := by
  simp [List.getD_eq_getElem?_getD, List.getElem?_drop, hi]

theorem viewC_rel (hh : HeapRel w o g) {c c' : C} {y : Value} (hv : viewC o c = some c') (hc : CR w o g none c y) : Sh w (Sall w).S c' y := by
  have mono : ∀ {c' : C} {y' : Value}, Sh w g.S c' y' → Sh w (Sall w).S c' y' := fun h => Sh.mono (fun k hk => ⟨hh.S k hk, rfl⟩) h
  unfold viewC at hv
  split at hv
  · cases hv; cases hc; exact .v _
  · cases hv; exact mono hc
  · cases hv; exact mono hc
  · rename_i r p sz off len
    split at hv
    · rename_i ob hob
      split at hv
      · rename_i sz' R hR
        split at hv
        · rename_i e
          subst e
          cases hv
          have hl : Live o r p sz' R := ⟨ob, hob, hR⟩
          obtain ⟨R', hl', hle, hs⟩ := hc
          obtain ⟨_, rfl⟩ := Live.unique hl hl'
          unfold SlAt at hs
          split at hs
          · obtain ⟨rfl, rfl⟩ := hs
            simp only [List.take_zero, toShRR]; exact .nil _
          · rename_i b hb
            obtain ⟨q, cap, rfl, eb, e2, e3, e4, e5⟩ := hs
            obtain ⟨_, k2, cells, e, f, k3, _, k4, k5⟩ := hh.rows r p sz' R b hl hb
            by_cases h0 : len = 0
            · subst h0
              simp only [List.take_zero, toShRR]
              refine .slice sz' [] q 0 cap (fun _ _ => undef) rfl e2 e3 ?_ (fun i hi => absurd hi (Nat.not_lt_zero _)) (fun i j hi => absurd hi (Nat.not_lt_zero _)) (fun i j hi => absurd hi (Nat.not_lt_zero _))
              rw [eb]; exact fun _ => block_lt k3
            · obtain rfl := e4 (by omega)
              refine .slice sz' _ _ _ _ (fun i j => cells.getD ((off + i) * sz' + j) undef) ?_ e2 e3 (fun _ => block_lt k3) (fun i hi => ?_) (fun i j hi hj => ?_) (fun i j hi hj => ?_)
              · rw [toShRR_length]; simp; omega
              · rw [toShRR_get, toShR_length, toShRR_take_drop _ _ _ _ hi]; exact k2 _ (by omega)
              · rw [add_lit, add_lit]
                have : (off + i + 1) * sz' ≤ R.length * sz' := Nat.mul_le_mul_right _ (by omega)
                rw [Nat.add_mul, Nat.one_mul, Nat.add_mul] at this
                rw [Nat.add_mul]
                exact cell_of_block k3 (by omega)
              · rw [toSh_cell]
                have e1 : cellAt ((R.drop off).take len) i j = cellAt R (off + i) j := by unfold cellAt; rw [toShRR_take_drop _ _ _ _ hi]
                rw [e1]
                have hj' : j < (R.getD (off + i) []).length := by rw [k2 _ (by omega)]; exact hj
                exact Sh.of_own hh _ _ (Nat.lt_succ_self _) r p (off + i) j sz' R _ hl (by omega) hj' rfl (k5 _ _ (by omega) hj)
        · cases hv
      · cases hv
    · cases hv
  · rename_i r p sz i j
    split at hv
    · rename_i ob hob
      split at hv
      · rename_i sz' R hR
        split at hv
        · rename_i e
          subst e
          cases hv
          have hl : Live o r p sz' R := ⟨ob, hob, hR⟩
          obtain ⟨R', b, hl', hlt, hb, rfl⟩ := hc
          obtain ⟨_, rfl⟩ := Live.unique hl hl'
          obtain ⟨_, k2, cells, e, f, k3, _, k4, k5⟩ := hh.rows r p sz' R b hl hb
          have hmul : (i + 1) * sz' ≤ R.length * sz' := Nat.mul_le_mul_right _ (by omega)
          rw [Nat.add_mul, Nat.one_mul] at hmul
          refine .ptr _ _ (fun k => cells.getD (i * sz' + (j + k)) undef) (block_lt k3) (fun k hk => ?_) (fun k hk => ?_)
          · rw [toShR_length, List.length_drop, k2 i hlt] at hk
            rw [add_lit, Nat.add_assoc]
            exact cell_of_block k3 (by omega)
          · rw [toShR_length, List.length_drop, k2 i hlt] at hk
            rw [toShR_get, getD_drop]
            have hj' : j + k < (R.getD i []).length := by rw [k2 i hlt]; omega
            exact Sh.of_own hh _ _ (Nat.lt_succ_self _) r p i (j + k) sz' R _ hl hlt hj' rfl (k5 i (j + k) hlt (by omega))
        · cases hv
      · cases hv
    · cases hv
  · cases hv; exact .bad _
  · cases hv

end
end Go.Rx
