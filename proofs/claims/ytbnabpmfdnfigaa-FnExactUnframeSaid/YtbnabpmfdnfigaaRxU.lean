/- What an argument of a law reads as: by its type. -/
import Derived.Test.YtbnabpmfdnfigaaRxT
import Derived.ChangeArms
import Derived.ChangeOld
import Derived.DataReads
import Derived.SizedLaws
import Derived.Deep.Slices
namespace Go.Rx
open Go.RowKit

/-- A type's shape: of cells. 'sl sz bytes e'. -/
inductive Kt where
  | bool
  | int (k : IntKind)
  | str
  | sl (sz bytes : Nat) (e : Kt)
  | st (fs : List Kt)
  deriving Inhabited

/-- A struct's fields, one behind the other. -/
def ktF (cells : TypeId → Nat) (rec : TypeId → Option Kt) : Nat → List Field → Option (List Kt × Nat)
  | off, [] => some ([], off)
  | off, f :: fs => if f.offset = off then
      match rec f.type, ktF cells rec (off + cells f.type) fs with
      | some K, some (Ks, e) => some (K :: Ks, e)
      | _, _ => none
    else none

def kt (P : Program) : Nat → TypeId → Option Kt
  | 0, _ => none
  | m + 1, t => match P.underlying t with
    | some .bool => some .bool
    | some (.int k) => some (.int k)
    | some .string => some .str
    | some (.slice e) => if 0 < P.cellsOf e then (kt P m e).map (.sl (P.cellsOf e) (P.bytesOf e)) else none
    | some (.struct fs) => match ktF P.cellsOf (kt P m) 0 fs.toList with
      | some (Ks, e) => if e = P.cellsOf t then some (.st Ks) else none
      | none => none
    | _ => none

mutual
def HasKt : Kt → List C → Prop
  | .bool, cs => ∃ b, cs = [.v (.bool b)]
  | .int k, cs => ∃ n, cs = [.v (.int k n)] ∧ (Lit.int k n).wf = true
  | .str, cs => ∃ s : ByteArray, cs = [.v (.string s)] ∧ s.size ≤ reachBytes
  | .sl sz bytes e, cs => ∃ R, cs = [.sh sz R] ∧ R.length * bytes ≤ reachBytes ∧ R.length ≤ maxLen ∧ ∀ r ∈ R, HasKt e r
  | .st fs, cs => HasKts fs cs
def HasKts : List Kt → List C → Prop
  | [], cs => cs = []
  | K :: Ks, cs => ∃ c1 c2, cs = c1 ++ c2 ∧ HasKt K c1 ∧ HasKts Ks c2
end

theorem cell_block_lt {w : World} {a : Addr} {v : Value} (h : w.cell? a = some v) : a.block < w.heap.size := by
  unfold World.cell? at h
  split at h
  · rename_i hb; exact (Array.getElem?_eq_some_iff.1 hb).1
  · cases h

/-- Cell by cell. -/
structure ShAll (w : World) (S : Nat → Prop) (cs : List C) (vs : List Value) : Prop where
  len : cs.length = vs.length
  sh : ∀ j, j < cs.length → Sh w S (cs.getD j .bad) (vs.getD j undef)

theorem ShAll.nil {w : World} {S : Nat → Prop} : ShAll w S [] [] := ⟨rfl, fun _ h => absurd h (Nat.not_lt_zero _)⟩
theorem ShAll.one {w : World} {S : Nat → Prop} {c : C} {v : Value} (h : Sh w S c v) : ShAll w S [c] [v] := ⟨rfl, fun j hj => by
  match j, hj with
  | 0, _ => exact h⟩
theorem ShAll.append {w : World} {S : Nat → Prop} {cs ds : List C} {vs us : List Value} (h : ShAll w S cs vs) (h' : ShAll w S ds us) : ShAll w S (cs ++ ds) (vs ++ us) := by
  refine ⟨by simp [h.len, h'.len], fun j hj => ?_⟩
  by_cases e : j < cs.length
  · have := h.sh j e
    rw [List.getD_eq_getElem?_getD, List.getD_eq_getElem?_getD] at this ⊢
    rwa [List.getElem?_append_left e, List.getElem?_append_left (by rw [← h.len]; exact e)]
  · have := h'.sh (j - cs.length) (by simp at hj; omega)
    rw [List.getD_eq_getElem?_getD, List.getD_eq_getElem?_getD] at this ⊢
    rw [List.getElem?_append_right (by omega), List.getElem?_append_right (by rw [← h.len]; omega), ← h.len]; exact this

section
variable {H : Type} {enc : TypeId × Value → H} {P : Program} {w : World} {spare : Nat → Bool} {held : Bool}

theorem weightsEach_all : ∀ {ts : List TypeId} {ds : List (DataW H)}, (DataW.weightsEach P ts ds).all (· ≤ reachBytes) = true → ∀ (j : Nat) (t : TypeId) (d : DataW H), ts[j]? = some t → ds[j]? = some d → (d.weights P t).all (· ≤ reachBytes) = true := by
  intro ts ds h j t d ht hd
  rw [List.all_eq_true] at h ⊢
  exact fun n hn => h n (DataW.weights_mem_each ht hd n hn)
theorem weightsAll_all {e : TypeId} : ∀ {ds : List (DataW H)}, (DataW.weightsAll P e ds).all (· ≤ reachBytes) = true → ∀ d ∈ ds, (d.weights P e).all (· ≤ reachBytes) = true
  | d0 :: ds, h, d, hd => by
    simp only [DataW.weightsAll, List.all_append, Bool.and_eq_true] at h
    cases hd with
    | head => exact h.1
    | tail _ hd => exact weightsAll_all h.2 d hd

theorem open_fields {rec : TypeId → Option Kt} {n : Nat} {vs : List Value}
    (ih : ∀ (t : TypeId) (K : Kt) (us : List Value) (x : DataW H × List MemPlace), rec t = some K → DataW.trod enc P w 0 spare held n t us = some x → (x.1.weights P t).all (· ≤ reachBytes) = true →
      ∃ cs, HasKt K cs ∧ ShAll w (fun k => k < w.heap.size) cs us) :
    ∀ (fs : List Field) (off : Nat) (Ks : List Kt) (e : Nat) (xs : List (DataW H × List MemPlace)), ktF P.cellsOf rec off fs = some (Ks, e) → xs.length = fs.length → e = vs.length →
      (∀ (i : Nat) (f : Field), fs[i]? = some f → DataW.trod enc P w 0 spare held n f.type ((vs.drop f.offset).take (P.cellsOf f.type)) = xs[i]?) →
      (DataW.weightsEach P (fs.map (·.type)) (xs.map (·.1))).all (· ≤ reachBytes) = true →
      off ≤ vs.length ∧ ∃ cs, HasKts Ks cs ∧ ShAll w (fun k => k < w.heap.size) cs (vs.drop off)
  | [], off, Ks, e, xs, h, _, he, _, _ => by
    simp only [ktF, Option.some.injEq, Prod.mk.injEq] at h
    obtain ⟨rfl, rfl⟩ := h
    refine ⟨by omega, [], by simp only [HasKts], ?_⟩
    rw [List.drop_eq_nil_of_le (by omega)]; exact .nil
  | f :: fs, off, Ks, e, [], _, hl, _, _, _ => by simp at hl
  | f :: fs, off, Ks, e, x :: xs, h, hl, he, hx, hw => by
    simp only [ktF] at h
    split at h
    · rename_i ho
      subst ho
      split at h
      · rename_i K Ks' e' hK hKs
        simp only [Option.some.injEq, Prod.mk.injEq] at h
        obtain ⟨rfl, rfl⟩ := h
        simp only [List.map_cons, DataW.weightsEach, List.all_append, Bool.and_eq_true] at hw
        obtain ⟨h1, cs2, h2, h3⟩ := open_fields ih fs _ Ks' e' xs hKs (by simpa using hl) he (fun i g hg => by
          have := hx (i + 1) g (by simpa using hg)
          simpa using this) hw.2
        have h0 := hx 0 f rfl
        simp only [List.getElem?_cons_zero] at h0
        obtain ⟨cs1, h4, h5⟩ := ih _ K _ x hK h0 hw.1
        refine ⟨by omega, cs1 ++ cs2, ?_, ?_⟩
        · simp only [HasKts]; exact ⟨cs1, cs2, rfl, h4, h2⟩
        · have := h5.append h3
          rwa [← List.drop_drop, List.take_append_drop] at this
      · cases h
    · cases h

theorem open_kt : ∀ (n : Nat) (m : Nat) (t : TypeId) (K : Kt) (vs : List Value) (x : DataW H × List MemPlace), kt P m t = some K → DataW.trod enc P w 0 spare held n t vs = some x → (x.1.weights P t).all (· ≤ reachBytes) = true →
    ∃ cs, HasKt K cs ∧ ShAll w (fun k => k < w.heap.size) cs vs := by
  intro n
  induction n with
  | zero => intro m t K vs x _ h; simp [DataW.trod] at h
  | succ n ih =>
    intro m t K vs x hK h hw
    match m with
    | 0 => simp [kt] at hK
    | m + 1 =>
      simp only [kt] at hK
      split at hK
      · rename_i ht
        cases hK
        obtain ⟨b, rfl, _⟩ := DataW.trod_bool ht h
        exact ⟨[.v (.bool b)], by simp only [HasKt]; exact ⟨b, rfl⟩, .one (.v _)⟩
      · rename_i k ht
        cases hK
        obtain ⟨z, rfl, _, hz⟩ := DataW.trod_int ht h
        exact ⟨[.v (.int k z)], by simp only [HasKt]; exact ⟨z, rfl, hz⟩, .one (.v _)⟩
      · rename_i ht
        cases hK
        obtain ⟨s, rfl, rfl, hs⟩ := DataW.trod_string ht h
        refine ⟨[.v (.string s)], ?_, .one (.v _)⟩
        simp only [HasKt]
        refine ⟨s, rfl, ?_⟩
        rw [List.all_eq_true] at hw
        have := hw s.data.toList.length (by simp only [DataW.weights, List.mem_singleton])
        rw [decide_eq_true_eq, Array.length_toList] at this
        exact this
      · rename_i e ht
        split at hK
        case isFalse => cases hK
        rename_i hpos
        simp only [Option.map_eq_some_iff] at hK
        obtain ⟨K', hK', rfl⟩ := hK
        rcases DataW.trod_slice ht h with ⟨rfl, _⟩ | ⟨a, len, cap, elems, rest, n', hn', rfl, rfl, hb, hl, hm, hlen, hel, -, -⟩
        · exact ⟨[.sh (P.cellsOf e) []], by simp only [HasKt]; exact ⟨[], rfl, by simp, by simp, fun r h => by cases h⟩, .one (.nil _)⟩
        · obtain rfl : n = n' := by omega
          simp only [DataW.weights, ht, List.all_cons, List.all_append, Bool.and_eq_true, decide_eq_true_eq, List.length_map] at hw
          obtain ⟨hw1, hw2, _⟩ := hw
          have hrow : ∀ i, i < len → ∃ p : List C × List Value, HasKt K' p.1 ∧ p.2.length = P.cellsOf e ∧ ShAll w (fun k => k < w.heap.size) p.1 p.2 ∧ ∀ j, j < P.cellsOf e → w.cell? ((a.add (i * P.cellsOf e)).add j) = some (p.2.getD j undef) := by
            intro i hi
            have h1 := hel i hi
            have hi' : i < elems.length := by omega
            rw [List.getElem?_eq_getElem hi', Option.bind_eq_some_iff] at h1
            obtain ⟨us, h2, h3⟩ := h1
            obtain ⟨_, h4, h5⟩ := World.cells?_some h2
            obtain ⟨cs, h6, h7⟩ := ih m e K' us elems[i] hK' h3 (weightsAll_all hw2 _ (List.mem_map_of_mem (List.getElem_mem hi')))
            refine ⟨(cs, us), h6, h4, h7, fun j hj => ?_⟩
            rw [h5 j hj, List.getD_eq_getElem?_getD, List.getElem?_eq_getElem (by omega)]; rfl
          obtain ⟨f, hf⟩ := Deep.choose_lt hrow
          refine ⟨[.sh (P.cellsOf e) ((List.range len).map fun i => (f i).1)], ?_, .one ?_⟩
          · simp only [HasKt]
            refine ⟨_, rfl, ?_, by simp; omega, fun r hr => ?_⟩
            · simp only [List.length_map, List.length_range]
              refine Nat.le_trans (Nat.mul_le_mul_right _ ?_) hw1; omega
            · simp only [List.mem_map, List.mem_range] at hr
              obtain ⟨i, hi, rfl⟩ := hr
              exact (hf i hi).1
          · have hg : ∀ i, i < len → ((List.range len).map fun i => (f i).1).getD i [] = (f i).1 := fun i hi => by
              simp [List.getD_eq_getElem?_getD, hi]
            refine .slice _ _ a len cap (fun i j => (f i).2.getD j undef) (by simp) hl hm (fun h0 => ?_) (fun i hi => ?_) (fun i j hi hj => (hf i hi).2.2.2 j hj) (fun i j hi hj => ?_)
            · have h1 := (hf 0 h0).2.2.2 0 hpos
              have hb : ((a.add (0 * P.cellsOf e)).add 0).block = a.block := by unfold Addr.add; split <;> split <;> rfl
              have := cell_block_lt h1
              rwa [hb] at this
            · rw [hg i hi, (hf i hi).2.2.1.len, (hf i hi).2.1]
            · unfold cellAt; rw [hg i hi]
              exact (hf i hi).2.2.1.sh j (by rw [(hf i hi).2.2.1.len, (hf i hi).2.1]; exact hj)
      · rename_i fs ht
        split at hK
        · rename_i Ks e hKs
          split at hK
          · rename_i he
            cases hK
            obtain ⟨xs, n', hn', rfl, h1, h2, h3⟩ := DataW.trod_struct ht h
            obtain rfl : n = n' := by omega
            simp only [DataW.weights, ht] at hw
            obtain ⟨_, cs, h4, h5⟩ := open_fields (vs := vs) (fun t K us x hr hx hw => ih m t K us x hr hx hw) fs.toList 0 Ks e xs hKs (by simpa using h2) (by omega) (fun i f hf => h3 i f (by simpa using hf)) hw
            exact ⟨cs, by simp only [HasKt]; exact h4, by simpa using h5⟩
          · cases hK
        · cases hK
      · cases hK
end
end Go.Rx
