/- Old journals dropped, the last one sought: what both ways come to. -/
import Derived.Test.YtlbmojbkmcpnaaaGreatDoorO7
namespace Go.Proofs.YtlbmojbkmcpnaaaGreatDoor
open Go.RowKit Go.Rx
set_option linter.unusedSimpArgs false
set_option maxRecDepth 100000

def jsPlus : ByteArray := ⟨#[106, 43]⟩
def actD (s : ByteArray) : Acd := ⟨4, s, ⟨#[]⟩, ⟨#[]⟩⟩
def jIx (f : Fil) : Nat := nmN 106 f.name
def jdropS (n : Nat) (f : Fil) : Bool := nmB 106 999 f.name && decide (jIx f ≠ n)
def jdropI (n : Nat) (f : Fil) : Bool := decide (f.name = jsPlus) || jdropS n f
def jshI (l : List Fil) (n : Nat) : List Acd := (l.filter (jdropI n)).map fun f => actD f.name
def jshD (l : List Fil) (n : Nat) : List Acd := (l.filter (jdropS n)).map fun f => actD f.name
def jnewL (l : List Fil) : List Acd := if 0 ≤ atR jsPlus l 0 then [actD jsPlus] else []
def jshS (l : List Fil) (n : Nat) : List Acd := jnewL l ++ jshD l n
theorem atR_pos (s : ByteArray) : ∀ (l : List Fil) (i : Nat), 0 ≤ atR s l i ↔ ∃ f ∈ l, f.name = s
  | [], i => by simp [atR]
  | f :: r, i => by
    unfold atR
    split
    · rename_i h
      exact ⟨fun _ => ⟨f, List.mem_cons_self .., h⟩, fun _ => by omega⟩
    · rename_i h
      rw [atR_pos s r (i + 1)]
      constructor
      · rintro ⟨g, h1, h2⟩; exact ⟨g, List.mem_cons_of_mem _ h1, h2⟩
      · rintro ⟨g, h1, h2⟩
        rcases List.mem_cons.1 h1 with rfl | h1
        · exact absurd h2 h
        · exact ⟨g, h1, h2⟩
theorem decDigits_head (n : Nat) : ∃ d r, Lib.decDigits n = d :: r ∧ isD d = true := by
  have h := (dvL_dec n).2
  cases e : Lib.decDigits n with
  | nil =>
    exfalso
    rw [Lib.decDigits] at e
    split at e
    · cases e
    · simp at e
  | cons d r =>
    rw [e, List.all_cons, Bool.and_eq_true] at h
    exact ⟨d, r, rfl, h.1⟩
theorem jplus_lt {s : ByteArray} (h : nmB 106 999 s = true) : ltB jsPlus s = true := by
  obtain ⟨h1, _⟩ := nm_spec h
  obtain ⟨d, r, h2, h3⟩ := decDigits_head (nmN 106 s)
  rw [h1]
  unfold ltB nmT
  rw [app_list, decB_list, h2]
  show Op.bytesLess [106, 43] (106 :: d :: r) = true
  rw [isD_iff] at h3
  have : (43 : UInt8) < d := by rw [UInt8.lt_iff_toNat_lt]; show 43 < d.toNat; omega
  simp [Op.bytesLess, this]
def Up (l : List Fil) : Prop := l.Pairwise fun a b => ltB a.name b.name = true
theorem up_of {l : List Fil} (h : dkB l = true) : Up l := by
  unfold Up
  rw [List.pairwise_iff_getElem]
  intro i j hi hj hij
  obtain ⟨d, rfl⟩ : ∃ d, j = i + d + 1 := ⟨j - i - 1, by omega⟩
  have := dk_rise h d i hj
  simpa [fAt, List.getD_eq_getElem?_getD, List.getElem?_eq_getElem hi, List.getElem?_eq_getElem hj] using this
theorem jno_plus {l : List Fil} (h : ∀ f ∈ l, f.name ≠ jsPlus) (n : Nat) : jshI l n = jshD l n ∧ jnewL l = [] := by
  constructor
  · unfold jshI jshD
    congr 1
    refine List.filter_congr fun f hf => ?_
    simp [jdropI, h f hf]
  · unfold jnewL
    rw [if_neg]
    intro h0
    obtain ⟨f, h1, h2⟩ := (atR_pos jsPlus l 0).1 h0
    exact h f h1 h2
theorem jsh_eq : ∀ (l : List Fil) (n : Nat), Up l → jshI l n = jshS l n
  | [], n, _ => rfl
  | f :: l, n, hu => by
    obtain ⟨h1, h2⟩ := List.pairwise_cons.1 hu
    by_cases hp : f.name = jsPlus
    · have hno : ∀ g ∈ l, g.name ≠ jsPlus := fun g hg e => by
        have := h1 g hg
        rw [hp, e, ltB_irrefl] at this; cases this
      have hnd : jdropS n f = false := by
        cases e : nmB 106 999 f.name with
        | false => simp [jdropS, e]
        | true => have := jplus_lt e; rw [hp, ltB_irrefl] at this; cases this
      obtain ⟨k1, _⟩ := jno_plus hno n
      have e1 : jshI (f :: l) n = actD jsPlus :: jshI l n := by
        unfold jshI
        rw [List.filter_cons_of_pos (by simp [jdropI, hp]), List.map_cons, hp]
      have e2 : jshD (f :: l) n = jshD l n := by
        unfold jshD
        rw [List.filter_cons_of_neg (by simp [hnd])]
      have e3 : jnewL (f :: l) = [actD jsPlus] := by
        unfold jnewL
        rw [if_pos ((atR_pos jsPlus (f :: l) 0).2 ⟨f, List.mem_cons_self .., hp⟩)]
      rw [jshS, e1, e2, e3, k1]; rfl
    · by_cases hl : ∃ g ∈ l, g.name = jsPlus
      · obtain ⟨g, hg, hgp⟩ := hl
        have hlt := h1 g hg
        rw [hgp] at hlt
        have hnd : jdropS n f = false := by
          cases e : nmB 106 999 f.name with
          | false => simp [jdropS, e]
          | true => have := ltB_trans (jplus_lt e) hlt; rw [ltB_irrefl] at this; cases this
        have e1 : jshI (f :: l) n = jshI l n := by
          unfold jshI
          rw [List.filter_cons_of_neg (by simp [jdropI, hp, hnd])]
        have e2 : jshD (f :: l) n = jshD l n := by
          unfold jshD
          rw [List.filter_cons_of_neg (by simp [hnd])]
        have e3 : jnewL (f :: l) = jnewL l := by
          unfold jnewL
          rw [if_pos ((atR_pos jsPlus (f :: l) 0).2 ⟨g, List.mem_cons_of_mem _ hg, hgp⟩), if_pos ((atR_pos jsPlus l 0).2 ⟨g, hg, hgp⟩)]
        rw [e1, jshS, e2, e3]; exact jsh_eq l n h2
      · have hno : ∀ g ∈ f :: l, g.name ≠ jsPlus := fun g hg e => by
          rcases List.mem_cons.1 hg with rfl | hg
          · exact hp e
          · exact hl ⟨g, hg, e⟩
        obtain ⟨k1, k2⟩ := jno_plus hno n
        rw [jshS, k1, k2]; rfl
theorem take_snoc {l : List Fil} {i : Nat} (h : i < l.length) : l.take (i + 1) = l.take i ++ [l.getD i default] := by
  rw [List.take_succ_eq_append_getElem h, List.getD_eq_getElem?_getD, List.getElem?_eq_getElem h]; rfl
theorem jshI_succ {l : List Fil} {i : Nat} (h : i < l.length) (n : Nat) : jshI (l.take (i + 1)) n = jshI (l.take i) n ++ (if jdropI n (l.getD i default) then [actD (l.getD i default).name] else []) := by
  unfold jshI
  rw [take_snoc h, List.filter_append, List.map_append]
  congr 1
  cases hd : jdropI n (l.getD i default) with
  | true => rw [if_pos rfl, List.filter_cons_of_pos hd]; rfl
  | false => rw [if_neg Bool.false_ne_true, List.filter_cons_of_neg (by rw [hd]; exact Bool.false_ne_true)]; rfl
theorem jshD_succ {l : List Fil} {i : Nat} (h : i < l.length) (n : Nat) : jshD (l.take (i + 1)) n = jshD (l.take i) n ++ (if jdropS n (l.getD i default) then [actD (l.getD i default).name] else []) := by
  unfold jshD
  rw [take_snoc h, List.filter_append, List.map_append]
  congr 1
  cases hd : jdropS n (l.getD i default) with
  | true => rw [if_pos rfl, List.filter_cons_of_pos hd]; rfl
  | false => rw [if_neg Bool.false_ne_true, List.filter_cons_of_neg (by rw [hd]; exact Bool.false_ne_true)]; rfl
theorem jshI_len (l : List Fil) (n : Nat) : (jshI l n).length ≤ l.length := by
  unfold jshI; rw [List.length_map]; exact List.length_filter_le _ _
theorem jshD_len (l : List Fil) (n : Nat) : (jshD l n).length ≤ l.length := by
  unfold jshD; rw [List.length_map]; exact List.length_filter_le _ _
theorem jnewL_len (l : List Fil) : (jnewL l).length ≤ 1 := by
  unfold jnewL; split
  · exact Nat.le_refl _
  · exact Nat.zero_le _

/-- The greatest number of a journal's file among the first ones. -/
def jNum (s : ByteArray) : Int := if nmB 106 999 s then (nmN 106 s : Int) else -1
def bstT (l : List Fil) : Nat → Int
  | 0 => -1
  | i + 1 => max (bstT l i) (jNum (l.getD i default).name)
theorem jNum_le (s : ByteArray) : -1 ≤ jNum s ∧ jNum s ≤ 999 := by
  unfold jNum
  split
  · rename_i h
    have := (nm_spec h).2.1
    omega
  · omega
theorem bstT_le (l : List Fil) : ∀ i, -1 ≤ bstT l i ∧ bstT l i ≤ 999
  | 0 => by unfold bstT; omega
  | i + 1 => by
    have h1 := bstT_le l i
    have h2 := jNum_le (l.getD i default).name
    unfold bstT
    omega
end Go.Proofs.YtlbmojbkmcpnaaaGreatDoor

