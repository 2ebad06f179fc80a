/- Old snapshots dropped: what both ways come to. -/
import Derived.Test.YtennhlaibefacaaDoorK8
namespace Go.Proofs.YtennhlaibefacaaDoor
open Go.RowKit Go.Rx
set_option linter.unusedSimpArgs false
set_option maxRecDepth 100000

def sPlus : ByteArray := ⟨#[115, 43]⟩
def actD (s : ByteArray) : Acd := ⟨4, s, ⟨#[]⟩, ⟨#[]⟩⟩
def dropS (n : Nat) (f : Fil) : Bool := nmB 115 1000000 f.name && decide (fIx f ≠ n)
def dropI (n : Nat) (f : Fil) : Bool := decide (f.name = sPlus) || dropS n f
def shI (l : List Fil) (n : Nat) : List Acd := (l.filter (dropI n)).map fun f => actD f.name
def shD (l : List Fil) (n : Nat) : List Acd := (l.filter (dropS n)).map fun f => actD f.name
def atR (s : ByteArray) : List Fil → Nat → Int
  | [], _ => -1
  | f :: r, i => if f.name = s then (i : Int) else atR s r (i + 1)
def newL (l : List Fil) : List Acd := if 0 ≤ atR sPlus l 0 then [actD sPlus] else []
def shS (l : List Fil) (n : Nat) : List Acd := newL l ++ shD l n
theorem atR_pos (s : ByteArray) : ∀ (l : List Fil) (i : Nat), 0 ≤ atR s l i ↔ ∃ f ∈ l, f.name = s
  | [], i => by simp [atR]
  | f :: r, i => by
    unfold atR
    split
    · rename_i h
      exact ⟨fun _ => ⟨f, List.mem_cons_self .., h⟩, fun _ => by omega⟩
    · rename_i h
      rw [atR_pos s r (i + 1)]
      constructor
      · rintro ⟨g, h1, h2⟩; exact ⟨g, List.mem_cons_of_mem _ h1, h2⟩
      · rintro ⟨g, h1, h2⟩
        rcases List.mem_cons.1 h1 with rfl | h1
        · exact absurd h2 h
        · exact ⟨g, h1, h2⟩
theorem decDigits_head (n : Nat) : ∃ d r, Lib.decDigits n = d :: r ∧ isD d = true := by
  have h := (dvL_dec n).2
  cases e : Lib.decDigits n with
  | nil =>
    exfalso
    rw [Lib.decDigits] at e
    split at e
    · cases e
    · simp at e
  | cons d r =>
    rw [e, List.all_cons, Bool.and_eq_true] at h
    exact ⟨d, r, rfl, h.1⟩
theorem plus_lt {s : ByteArray} (h : nmB 115 1000000 s = true) : ltB sPlus s = true := by
  obtain ⟨h1, _⟩ := nm_spec h
  obtain ⟨d, r, h2, h3⟩ := decDigits_head (nmN 115 s)
  rw [h1]
  unfold ltB nmT
  rw [app_list, decB_list, h2]
  show Op.bytesLess [115, 43] (115 :: d :: r) = true
  rw [isD_iff] at h3
  have : (43 : UInt8) < d := by rw [UInt8.lt_iff_toNat_lt]; show 43 < d.toNat; omega
  simp [Op.bytesLess, this]
def Up (l : List Fil) : Prop := l.Pairwise fun a b => ltB a.name b.name = true
theorem up_of {l : List Fil} (h : dkB l = true) : Up l := by
  unfold Up
  rw [List.pairwise_iff_getElem]
  intro i j hi hj hij
  obtain ⟨d, rfl⟩ : ∃ d, j = i + d + 1 := ⟨j - i - 1, by omega⟩
  have := dk_rise h d i hj
  simpa [fAt, List.getD_eq_getElem?_getD, List.getElem?_eq_getElem hi, List.getElem?_eq_getElem hj] using this
theorem no_plus {l : List Fil} (h : ∀ f ∈ l, f.name ≠ sPlus) (n : Nat) : shI l n = shD l n ∧ newL l = [] := by
  constructor
  · unfold shI shD
    congr 1
    refine List.filter_congr fun f hf => ?_
    simp [dropI, h f hf]
  · unfold newL
    rw [if_neg]
    intro h0
    obtain ⟨f, h1, h2⟩ := (atR_pos sPlus l 0).1 h0
    exact h f h1 h2
theorem sh_eq : ∀ (l : List Fil) (n : Nat), Up l → shI l n = shS l n
  | [], n, _ => rfl
  | f :: l, n, hu => by
    obtain ⟨h1, h2⟩ := List.pairwise_cons.1 hu
    by_cases hp : f.name = sPlus
    · have hno : ∀ g ∈ l, g.name ≠ sPlus := fun g hg e => by
        have := h1 g hg
        rw [hp, e, ltB_irrefl] at this; cases this
      have hnd : dropS n f = false := by
        cases e : nmB 115 1000000 f.name with
        | false => simp [dropS, e]
        | true => have := plus_lt e; rw [hp, ltB_irrefl] at this; cases this
      obtain ⟨k1, _⟩ := no_plus hno n
      have e1 : shI (f :: l) n = actD sPlus :: shI l n := by
        unfold shI
        rw [List.filter_cons_of_pos (by simp [dropI, hp]), List.map_cons, hp]
      have e2 : shD (f :: l) n = shD l n := by
        unfold shD
        rw [List.filter_cons_of_neg (by simp [hnd])]
      have e3 : newL (f :: l) = [actD sPlus] := by
        unfold newL
        rw [if_pos ((atR_pos sPlus (f :: l) 0).2 ⟨f, List.mem_cons_self .., hp⟩)]
      rw [shS, e1, e2, e3, k1]; rfl
    · by_cases hl : ∃ g ∈ l, g.name = sPlus
      · obtain ⟨g, hg, hgp⟩ := hl
        have hlt := h1 g hg
        rw [hgp] at hlt
        have hnd : dropS n f = false := by
          cases e : nmB 115 1000000 f.name with
          | false => simp [dropS, e]
          | true => have := ltB_trans (plus_lt e) hlt; rw [ltB_irrefl] at this; cases this
        have e1 : shI (f :: l) n = shI l n := by
          unfold shI
          rw [List.filter_cons_of_neg (by simp [dropI, hp, hnd])]
        have e2 : shD (f :: l) n = shD l n := by
          unfold shD
          rw [List.filter_cons_of_neg (by simp [hnd])]
        have e3 : newL (f :: l) = newL l := by
          unfold newL
          rw [if_pos ((atR_pos sPlus (f :: l) 0).2 ⟨g, List.mem_cons_of_mem _ hg, hgp⟩), if_pos ((atR_pos sPlus l 0).2 ⟨g, hg, hgp⟩)]
        rw [e1, shS, e2, e3]; exact sh_eq l n h2
      · have hno : ∀ g ∈ f :: l, g.name ≠ sPlus := fun g hg e => by
          rcases List.mem_cons.1 hg with rfl | hg
          · exact hp e
          · exact hl ⟨g, hg, e⟩
        obtain ⟨k1, k2⟩ := no_plus hno n
        rw [shS, k1, k2]; rfl
theorem take_snoc {l : List Fil} {i : Nat} (h : i < l.length) : l.take (i + 1) = l.take i ++ [l.getD i default] := by
  rw [List.take_succ_eq_append_getElem h, List.getD_eq_getElem?_getD, List.getElem?_eq_getElem h]; rfl
theorem shI_succ {l : List Fil} {i : Nat} (h : i < l.length) (n : Nat) : shI (l.take (i + 1)) n = shI (l.take i) n ++ (if dropI n (l.getD i default) then [actD (l.getD i default).name] else []) := by
  unfold shI
  rw [take_snoc h, List.filter_append, List.map_append]
  congr 1
  cases hd : dropI n (l.getD i default) with
  | true => rw [if_pos rfl, List.filter_cons_of_pos hd]; rfl
  | false => rw [if_neg Bool.false_ne_true, List.filter_cons_of_neg (by rw [hd]; exact Bool.false_ne_true)]; rfl
theorem shD_succ {l : List Fil} {i : Nat} (h : i < l.length) (n : Nat) : shD (l.take (i + 1)) n = shD (l.take i) n ++ (if dropS n (l.getD i default) then [actD (l.getD i default).name] else []) := by
  unfold shD
  rw [take_snoc h, List.filter_append, List.map_append]
  congr 1
  cases hd : dropS n (l.getD i default) with
  | true => rw [if_pos rfl, List.filter_cons_of_pos hd]; rfl
  | false => rw [if_neg Bool.false_ne_true, List.filter_cons_of_neg (by rw [hd]; exact Bool.false_ne_true)]; rfl
theorem shI_len (l : List Fil) (n : Nat) : (shI l n).length ≤ l.length := by
  unfold shI; rw [List.length_map]; exact List.length_filter_le _ _
theorem shD_len (l : List Fil) (n : Nat) : (shD l n).length ≤ l.length := by
  unfold shD; rw [List.length_map]; exact List.length_filter_le _ _
theorem newL_len (l : List Fil) : (newL l).length ≤ 1 := by
  unfold newL; split
  · exact Nat.le_refl _
  · exact Nat.zero_le _
/-- The index of the newest one. -/
theorem ns_idx {l : List Fil} {x : Snp} (h : nsO l = some x) : dkB l = true ∧ ∃ n : Nat, x.idx = (n : Int) ∧ n ≤ 1000000 := by
  unfold nsO at h
  split at h
  · rename_i hd
    refine ⟨hd, ?_⟩
    obtain ⟨k, _, h2, h3⟩ := from_to l _ x h
    have hn : nmB 115 1000000 (fAt l k).name = true := by
      simp only [goodF, Bool.and_eq_true] at h2; exact h2.1
    have := (nm_spec hn).2.1
    exact ⟨fIx (fAt l k), h3, by unfold fIx; omega⟩
  · cases h
def shO (l : List Fil) : List Acd := match nsO l with
  | some x => shS l x.idx.toNat
  | none => []
theorem shO_len (l : List Fil) : (shO l).length ≤ 40 := by
  unfold shO
  split
  · rename_i x h
    have h1 := (dk_spec (ns_idx h).1).1
    have h2 := newL_len l
    have h3 := shD_len l x.idx.toNat
    rw [shS, List.length_append]; omega
  · exact Nat.zero_le _
end Go.Proofs.YtennhlaibefacaaDoor

