/- Frames come back, of cut ones the whole ones: by bytes alone. -/
import Derived.Test.YteflbcdjlphnjaaF3
namespace Go.Proofs.Yteflbcdjlphnjaa
open Go.RowKit Go.Rx
set_option linter.unusedSimpArgs false
set_option maxRecDepth 100000

theorem list_size (s : ByteArray) : s.data.toList.length = s.size := by rw [Array.length_toList]; rfl
theorem bu_app1 (x y : ByteArray) {i : Nat} (h : i < x.size) : bu (x ++ y) i = bu x i := by
  unfold bu
  rw [app_list, List.getD_eq_getElem?_getD, List.getD_eq_getElem?_getD, List.getElem?_append_left (by rw [list_size]; exact h)]
theorem bu_app2 (x y : ByteArray) {i j : Nat} (h : j = x.size + i) : bu (x ++ y) j = bu y i := by
  unfold bu
  rw [app_list, List.getD_eq_getElem?_getD, List.getD_eq_getElem?_getD, List.getElem?_append_right (by rw [list_size]; omega), list_size, show j - x.size = i by omega]
theorem bu_pre (s : ByteArray) {k i : Nat} (h : i < k) : bu (s.extract 0 k) i = bu s i := by
  unfold bu
  rw [extract_list, seg, Nat.sub_zero, List.drop_zero, List.getD_eq_getElem?_getD, List.getD_eq_getElem?_getD, List.getElem?_take_of_lt h]
/-- Two texts with the same octets. -/
theorem bytes_bu {x y : ByteArray} (h : x.size = y.size) (hb : ∀ i, i < x.size → bu x i = bu y i) : x = y := by
  refine bytes_ext (List.ext_getElem (by rw [list_size, list_size, h]) fun i h1 h2 => ?_)
  rw [list_size] at h1
  have := hb i h1
  unfold bu at this
  rw [List.getD_eq_getElem?_getD, List.getD_eq_getElem?_getD, List.getElem?_eq_getElem (by rw [list_size]; exact h1), List.getElem?_eq_getElem (by rw [list_size, ← h]; exact h1)] at this
  exact this
theorem bu_ext (s : ByteArray) {a b i : Nat} (h : a + i < b) : bu (s.extract a b) i = bu s (a + i) := by
  unfold bu
  rw [extract_list, seg, List.getD_eq_getElem?_getD, List.getD_eq_getElem?_getD, List.getElem?_take_of_lt (by omega), List.getElem?_drop]

theorem varL_two {n : Nat} (h : ¬ n ≤ 127) (h2 : n ≤ 9000) : varL n = [UInt8.ofNat (128 + n % 128), UInt8.ofNat (n / 128)] := by
  rw [varL_big h, varL_small (by omega)]
theorem ofNat_toNat {n : Nat} (h : n < 256) : (UInt8.ofNat n).toNat = n := by simp; omega

/-- The head of a frame is read, if it is there. -/
theorem rvO_frame {s : ByteArray} {a n : Nat} (hn : n ≤ 9000) (ha : a ≤ s.size) (h : ∀ i, i < (varB n).size → a + i < s.size → bu s (a + i) = bu (varB n) i) :
    rvO s a = if a + (varB n).size ≤ s.size then some (n, a + (varB n).size) else none := by
  unfold rvO
  rw [if_pos (by omega), Int.toNat_natCast]
  by_cases h1 : n ≤ 127
  · have hv : (varB n).size = 1 := by show (varL n).toArray.size = 1; rw [varL_small h1]; rfl
    have hb : bu (varB n) 0 = UInt8.ofNat n := by unfold bu; rw [varB_list, varL_small h1]; rfl
    rw [hv] at h ⊢
    by_cases c : a + 1 ≤ s.size
    · have e := h 0 (by omega) (by omega)
      rw [hb] at e
      have e2 : (bu s (a + 0)).toNat = n := by rw [e, ofNat_toNat (by omega)]
      rw [if_pos c, rvL_yes (by omega) (by omega) (by rw [e2]; omega), e2]
      congr 2; omega
    · rw [if_neg c, rvL_out (by omega)]
  · have hl := varL_two h1 hn
    have hv : (varB n).size = 2 := by show (varL n).toArray.size = 2; rw [hl]; rfl
    have hb0 : bu (varB n) 0 = UInt8.ofNat (128 + n % 128) := by unfold bu; rw [varB_list, hl]; rfl
    have hb1 : bu (varB n) 1 = UInt8.ofNat (n / 128) := by unfold bu; rw [varB_list, hl]; rfl
    rw [hv] at h ⊢
    by_cases c0 : a + 0 < s.size
    · have e := h 0 (by omega) c0
      rw [hb0] at e
      have e2 : (bu s (a + 0)).toNat = 128 + n % 128 := by rw [e, ofNat_toNat (by omega)]
      rw [rvL_go c0 (by omega), e2]
      by_cases c1 : a + (0 + 1) < s.size
      · have e := h 1 (by omega) c1
        rw [hb1] at e
        have e3 : (bu s (a + (0 + 1))).toNat = n / 128 := by rw [show a + (0 + 1) = a + 1 from rfl, e, ofNat_toNat (by omega)]
        rw [if_pos (by omega), rvL_yes c1 (by omega) (by rw [e3]; omega), e3]
        congr 2
        · omega
      · rw [if_neg (by omega), rvL_out c1]
    · rw [if_neg (by omega), rvL_out c0]

theorem frame_size (t : ByteArray) : (frameB t).size = (varB t.size).size + 4 + t.size := by
  unfold frameB
  rw [ByteArray.size_append, ByteArray.size_append, four_size]
/-- A frame is read, if all of it is there. -/
theorem frO_frame {s : ByteArray} {a : Nat} {t : ByteArray} (h1 : 1 ≤ t.size) (hn : t.size ≤ 9000) (ha : a ≤ s.size) (h : ∀ i, i < (frameB t).size → a + i < s.size → bu s (a + i) = bu (frameB t) i) :
    frO s a = if a + (frameB t).size ≤ s.size then some (t, a + (frameB t).size) else none := by
  have hsz := frame_size t
  have hv : ∀ i, i < (varB t.size).size → bu (frameB t) i = bu (varB t.size) i := fun i hi => by
    unfold frameB
    rw [bu_app1 _ _ (by rw [ByteArray.size_append]; omega), bu_app1 _ _ hi]
  have hf : ∀ i, i < 4 → bu (frameB t) ((varB t.size).size + i) = bu (four (sumN t)) i := fun i hi => by
    unfold frameB
    rw [bu_app1 _ _ (by rw [ByteArray.size_append, four_size]; omega), bu_app2 _ _ rfl]
  have ht : ∀ i, i < t.size → bu (frameB t) ((varB t.size).size + 4 + i) = bu t i := fun i hi => by
    unfold frameB
    rw [bu_app2 (i := i) _ _ (by rw [ByteArray.size_append, four_size])]
  unfold frO
  rw [rvO_frame hn ha fun i hi hs => by rw [← hv i hi]; exact h i (by omega) hs]
  by_cases c : a + (varB t.size).size ≤ s.size
  · rw [if_pos c]
    simp only
    by_cases c2 : a + (frameB t).size ≤ s.size
    · have e1 : s.extract (a + (varB t.size).size + 4) (a + (varB t.size).size + 4 + t.size) = t := by
        refine bytes_bu (by rw [ByteArray.size_extract]; omega) fun i hi => ?_
        rw [ByteArray.size_extract] at hi
        rw [bu_ext _ (by omega), ← ht i (by omega), show a + (varB t.size).size + 4 + i = a + ((varB t.size).size + 4 + i) by omega]
        exact h _ (by omega) (by omega)
      have e2 : s.extract (a + (varB t.size).size) (a + (varB t.size).size + 4) = four (sumN t) := by
        refine bytes_bu (by rw [ByteArray.size_extract, four_size]; omega) fun i hi => ?_
        rw [ByteArray.size_extract] at hi
        rw [bu_ext _ (by omega), ← hf i (by omega), show a + (varB t.size).size + i = a + ((varB t.size).size + i) by omega]
        exact h _ (by omega) (by omega)
      rw [e1, e2, if_pos ⟨by omega, h1, hn, rfl⟩, if_pos c2]
      congr 2; omega
    · rw [if_neg c2, if_neg (by omega)]
  · rw [if_neg c, if_neg (by omega)]

/-! ### several -/
def wholeB : List ByteArray → ByteArray
  | [] => ⟨#[]⟩
  | t :: ts => frameB t ++ wholeB ts
def cutF (a : Nat) : List ByteArray → Nat → List (ByteArray × Nat)
  | [], _ => []
  | t :: ts, k => if a + (frameB t).size ≤ k then (t, a + (frameB t).size) :: cutF (a + (frameB t).size) ts k else []
theorem frO_end {s : ByteArray} {a : Nat} (h : s.size ≤ a) : frO s a = none := by
  have : rvO s a = none := by
    unfold rvO
    split
    · rw [Int.toNat_natCast, rvL_out (by omega)]
    · rfl
  unfold frO
  rw [this]
theorem frL_whole {s : ByteArray} : ∀ (ts : List ByteArray) (fuel a : Nat), (∀ t ∈ ts, 1 ≤ t.size ∧ t.size ≤ 9000) → a ≤ s.size → s.size < fuel + a → s.size ≤ a + (wholeB ts).size →
    (∀ i, a + i < s.size → bu s (a + i) = bu (wholeB ts) i) → frL s fuel a = cutF a ts s.size
  | [], fuel, a, _, _, _, h, _ => by
    have h0 : (wholeB []).size = 0 := rfl
    cases fuel with
    | zero => rfl
    | succ f => rw [frL, frO_end (by omega)]; rfl
  | t :: ts, 0, a, _, h1, h2, _, _ => by omega
  | t :: ts, f + 1, a, ht, h1, h2, h3, h4 => by
    have hw : (wholeB (t :: ts)).size = (frameB t).size + (wholeB ts).size := ByteArray.size_append
    obtain ⟨k1, k2⟩ := ht t (List.mem_cons_self ..)
    rw [frL, frO_frame k1 k2 h1 fun i hi hs => by rw [h4 i hs, wholeB, bu_app1 _ _ hi], cutF]
    by_cases c : a + (frameB t).size ≤ s.size
    · rw [if_pos c, if_pos c]
      simp only
      have hsz := frame_size t
      rw [frL_whole ts f _ (fun t' h' => ht t' (List.mem_cons_of_mem _ h')) c (by omega) (by omega) fun i hi => by
        rw [Nat.add_assoc, h4 _ (by omega), wholeB, bu_app2 _ _ rfl]]
    · rw [if_neg c, if_neg c]
theorem frs_whole {ts : List ByteArray} (k : Nat) (ht : ∀ t ∈ ts, 1 ≤ t.size ∧ t.size ≤ 9000) (hk : k ≤ (wholeB ts).size) (hs : (wholeB ts).size ≤ 20000) :
    frs ((wholeB ts).extract 0 k) = cutF 0 ts k := by
  have hz : ((wholeB ts).extract 0 k).size = k := by rw [ByteArray.size_extract]; omega
  unfold frs
  rw [hz, if_pos (by omega), frL_whole ts _ 0 ht (Nat.zero_le _) (by omega) (by omega) (fun i hi => by rw [Nat.zero_add] at hi ⊢; rw [bu_pre _ (by omega)]), hz]
end Go.Proofs.Yteflbcdjlphnjaa
