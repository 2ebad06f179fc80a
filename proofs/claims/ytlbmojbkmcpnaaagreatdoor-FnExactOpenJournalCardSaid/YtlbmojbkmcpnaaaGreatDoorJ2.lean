/- Marks and two numbers. -/
import Derived.Test.YtlbmojbkmcpnaaaGreatDoorJ1
namespace Go.Proofs.YtlbmojbkmcpnaaaGreatDoor
open Go.RowKit Go.Rx
set_option linter.unusedSimpArgs false
set_option maxRecDepth 100000

/-! ### a prefix cut off -/
def preB (s c : ByteArray) : Bool := decide ((c.size : Int) ≤ (s.size : Int)) && decide (s.extract 0 c.size = c)
theorem hasPrefix_ok (s c : ByteArray) : PureFn Tryz.prog 124 [st s, st c] [bo (preB s c)] := by
  refine PureFn_of_Go Tryz.func124 rfl (by decide) mo (by decide +kernel) ?_
  unfold preB
  by_cases h : (c.size : Int) ≤ (s.size : Int)
  · have h2 : c.size ≤ s.size := by omega
    simp only [Tryz.ntmps124, Tryz.results124, push_cast, seval, h, h2, Nat.zero_le]
  · simp only [Tryz.ntmps124, Tryz.results124, push_cast, seval, h]
theorem cutPrefixL_ok (s c : ByteArray) : PureFn Tryz.prog 105 [st s, st c] [st (if preB s c then s.extract c.size s.size else s), bo (preB s c)] := by
  refine PureFn_of_Go Tryz.func105 rfl (by decide) mo (by decide +kernel) ?_
  simp only [Tryz.ntmps105, Tryz.results105, push_cast, seval]
  refine GoL_call rfl rfl (hasPrefix_ok s c) rfl rfl ?_
  cases h : preB s c with
  | true =>
    have h2 : c.size ≤ s.size := by simp [preB] at h; exact h.1
    simp only [Tryz.ntmps105, Tryz.results105, push_cast, seval, h2, Nat.le_refl]
  | false => simp only [Tryz.ntmps105, Tryz.results105, push_cast, seval, Bool.false_eq_true]
theorem cutPrefix_ok (s c : ByteArray) : PureFn Tryz.prog 69 [st s, st c] [st (if preB s c then s.extract c.size s.size else s), bo (preB s c)] := by
  refine PureFn_of_Go Tryz.func69 rfl (by decide) mo (by decide +kernel) ?_
  simp only [Tryz.ntmps69, Tryz.results69, push_cast, seval]
  refine GoL_call rfl rfl (cutPrefixL_ok s c) rfl rfl ?_
  simp only [Tryz.ntmps69, Tryz.results69, push_cast, seval]

/-! ### two numbers behind a mark -/
def pairT (s c : ByteArray) : ByteArray := c ++ varB (eN1 s) ++ varB (eN2 s)
def pairB (s c : ByteArray) : Bool := !eB3 s && decide (pairT s c = s)
def pairX (s c : ByteArray) : List X := if pairB s c then [i64 (eN1 s), i64 (eN2 s), bo true] else [i64 0, i64 0, bo false]
theorem two_ok (s c : ByteArray) (hs : s.size ≤ 140737488355328) (hc : c.size = 1) : PureFn Tryz.prog 62 [st s, st c] (pairX s c) := by
  refine PureFn_of_Go Tryz.func62 rfl (by decide) mo (by decide +kernel) ?_
  have k1 := l05Take_ok s hs 0 (Nat.zero_le _) false 1 (by omega)
  have k2 := l05Var_ok s hs (eA1 s) (eA1_le s) (eB1 s)
  have k3 := l05Var_ok s hs (eA2 s) (eA2_le s) (eB2 s)
  simp only [Tryz.ntmps62, Tryz.results62, push_cast, seval]
  refine GoL_io (0, 768) .box 3 [sc s 0 false] rfl rfl rfl rfl (.inl rfl) rfl k1 rfl rfl ?_
  rw [show takeA s 0 false 1 = eA1 s from rfl, show takeB s 0 false 1 = eB1 s from rfl]
  simp only [Tryz.ntmps62, Tryz.results62, push_cast, seval, sc]
  refine GoL_io (0, 768) .box 3 [sc s (eA1 s) (eB1 s)] rfl rfl rfl rfl (.inl rfl) rfl k2 rfl rfl ?_
  rw [show numA s (eA1 s) (eB1 s) = eA2 s from rfl, show numB s (eA1 s) (eB1 s) = eB2 s from rfl, show numN s (eA1 s) (eB1 s) = eN1 s from rfl]
  simp only [Tryz.ntmps62, Tryz.results62, push_cast, seval, sc]
  refine GoL_io (0, 768) .box 3 [sc s (eA2 s) (eB2 s)] rfl rfl rfl rfl (.inl rfl) rfl k3 rfl rfl ?_
  rw [show numA s (eA2 s) (eB2 s) = eA3 s from rfl, show numB s (eA2 s) (eB2 s) = eB3 s from rfl, show numN s (eA2 s) (eB2 s) = eN2 s from rfl]
  have n1 : eN1 s ≤ 1000000000 := numN_le s _ _
  have n2 : eN2 s ≤ 1000000000 := numN_le s _ _
  have v1 := varB_size (eN1 s)
  have v2 := varB_size (eN2 s)
  have q1 : c.size + (varB (eN1 s)).size ≤ 9223372036854775807 := by omega
  have q2 : (c ++ varB (eN1 s)).size + (varB (eN2 s)).size ≤ 9223372036854775807 := by rw [ByteArray.size_append]; omega
  have k4 := l01Var_ok (eN1 s) (by omega)
  have k5 := l01Var_ok (eN2 s) (by omega)
  cases c1 : eB3 s with
  | true =>
    rw [show pairX s c = [i64 0, i64 0, bo false] by simp [pairX, pairB, c1]]
    simp only [Tryz.ntmps62, Tryz.results62, push_cast, seval, sc]
  | false =>
    simp only [Tryz.ntmps62, Tryz.results62, push_cast, seval, sc]
    refine GoL_call rfl rfl k4 rfl rfl ?_
    simp only [Tryz.ntmps62, Tryz.results62, push_cast, seval, q1]
    refine GoL_call rfl rfl k5 rfl rfl ?_
    cases c2 : decide (pairT s c = s) with
    | true =>
      rw [show pairX s c = [i64 (eN1 s), i64 (eN2 s), bo true] by simp [pairX, pairB, c1, c2]]
      have c3 : decide (c ++ varB (eN1 s) ++ varB (eN2 s) = s) = true := c2
      simp only [Tryz.ntmps62, Tryz.results62, push_cast, seval, q2, c3]
    | false =>
      rw [show pairX s c = [i64 0, i64 0, bo false] by simp [pairX, pairB, c1, c2]]
      have c3 : decide (c ++ varB (eN1 s) ++ varB (eN2 s) = s) = false := c2
      simp only [Tryz.ntmps62, Tryz.results62, push_cast, seval, q2, c3]

/-! ### the same text without its first octet -/
theorem bu_tail (s : ByteArray) (i : Nat) : bu (s.extract 1 s.size) i = bu s (i + 1) := by
  unfold bu
  rw [extract_list, seg, List.getD_eq_getElem?_getD, List.getD_eq_getElem?_getD]
  have hl : s.data.toList.length = s.size := by rw [Array.length_toList]; rfl
  by_cases h : i < s.size - 1
  · rw [List.getElem?_take_of_lt h, List.getElem?_drop, Nat.add_comm]
  · rw [List.getElem?_eq_none (by rw [List.length_take, List.length_drop, hl]; omega), List.getElem?_eq_none (by rw [hl]; omega)]
theorem tail_size {s : ByteArray} (h : 1 ≤ s.size) : (s.extract 1 s.size).size + 1 = s.size := by rw [ByteArray.size_extract]; omega
theorem rvL_tail {s : ByteArray} (h : 1 ≤ s.size) (a : Nat) : ∀ (k i n u : Nat), rvL s (a + 1) k i n u = (rvL (s.extract 1 s.size) a k i n u).map fun p => (p.1, p.2 + 1)
  | 0, _, _, _ => rfl
  | k + 1, i, n, u => by
    have hz := tail_size h
    have hb : bu (s.extract 1 s.size) (a + i) = bu s (a + 1 + i) := by rw [bu_tail]; congr 1; omega
    by_cases h1 : a + i < (s.extract 1 s.size).size
    · have h1' : a + 1 + i < s.size := by omega
      by_cases h2 : 128 ≤ (bu s (a + 1 + i)).toNat
      · rw [rvL_go h1' h2, rvL_go h1 (by rw [hb]; exact h2), hb]; exact rvL_tail h a k _ _ _
      · by_cases h3 : ((bu s (a + 1 + i)).toNat = 0 ∧ 0 < i) ∨ 1000000000 < n + (bu s (a + 1 + i)).toNat % 128 * u
        · rw [rvL_no h1' h2 h3, rvL_no h1 (by rw [hb]; exact h2) (by rw [hb]; exact h3)]; rfl
        · rw [rvL_yes h1' h2 h3, rvL_yes h1 (by rw [hb]; exact h2) (by rw [hb]; exact h3), hb]
          simp only [Option.map_some, Option.some.injEq, Prod.mk.injEq, true_and]; omega
    · rw [rvL_out h1, rvL_out (by omega)]; rfl
theorem rvO_tail {s : ByteArray} (h : 1 ≤ s.size) (a : Nat) : rvO s ((a + 1 : Nat) : Int) = (rvO (s.extract 1 s.size) a).map fun p => (p.1, p.2 + 1) := by
  have hz := tail_size h
  unfold rvO
  by_cases c : a ≤ (s.extract 1 s.size).size
  · rw [if_pos (by omega), if_pos (by omega), Int.toNat_natCast, Int.toNat_natCast]; exact rvL_tail h a _ _ _ _
  · rw [if_neg (by omega), if_neg (by omega)]; rfl
theorem num_tail {s : ByteArray} (h : 1 ≤ s.size) (a : Nat) (b : Bool) :
    numN s (a + 1) b = numN (s.extract 1 s.size) a b ∧ numA s (a + 1) b = numA (s.extract 1 s.size) a b + 1 ∧ numB s (a + 1) b = numB (s.extract 1 s.size) a b := by
  unfold numN numA numB
  cases b with
  | true => exact ⟨rfl, rfl, rfl⟩
  | false =>
    simp only [Bool.false_eq_true, if_false]
    rw [rvO_tail h a]
    cases rvO (s.extract 1 s.size) a with
    | none => exact ⟨rfl, rfl, rfl⟩
    | some p => exact ⟨rfl, rfl, rfl⟩
theorem pair_iff {s c : ByteArray} (hc : c.size = 1) (h : eB3 s = false) : pairT s c = s ↔ preB s c = true ∧ eA3 s = s.size := by
  obtain ⟨h2, n2, x3, r2, e2, f2⟩ := numB_false h
  obtain ⟨h1, n1, x2, r1, e1, f1⟩ := numB_false h2
  obtain ⟨_, hs1, ha1, ht1⟩ := takeB_false h1
  have hA1 : eA1 s = 1 := by rw [eA1, ha1]
  have hN1 : eN1 s = n1 := e1
  have hA2 : eA2 s = x2 := f1
  have hN2 : eN2 s = n2 := e2
  have hA3 : eA3 s = x3 := f2
  rw [hA1] at r1
  rw [hA2] at r2
  have c1 := rvO_canon r1
  have c2 := rvO_canon r2
  obtain ⟨_, _, b1, b1'⟩ := rvO_bound r1
  obtain ⟨_, _, b2, b2'⟩ := rvO_bound r2
  have L : (pairT s c).data.toList = c.data.toList ++ (seg s 1 (x2 - 1) ++ seg s x2 (x3 - x2)) := by
    unfold pairT
    rw [app_list, app_list, varB_list, varB_list, hN1, hN2, c1, c2, List.append_assoc]
  have R : s.data.toList = seg s 0 1 ++ (seg s 1 (x2 - 1) ++ (seg s x2 (x3 - x2) ++ seg s x3 (s.size - x3))) := by
    rw [← seg_all s, show s.size = 1 + ((x2 - 1) + ((x3 - x2) + (s.size - x3))) by omega]
    rw [seg_append, show (0 : Nat) + 1 = 1 from rfl, seg_append, show 1 + (x2 - 1) = x2 by omega, seg_append, show x2 + (x3 - x2) = x3 by omega]
    rw [show 1 + (x2 - 1 + (x3 - x2 + (s.size - x3))) - x3 = s.size - x3 by omega]
  have hpre : preB s c = true ↔ c.data.toList = seg s 0 1 := by
    have hx : (s.extract 0 c.size).data.toList = seg s 0 1 := by rw [extract_list, hc]
    unfold preB
    rw [Bool.and_eq_true, decide_eq_true_eq, decide_eq_true_eq]
    constructor
    · rintro ⟨_, h⟩; rw [← hx, h]
    · intro h; exact ⟨by omega, bytes_ext (by rw [hx, h])⟩
  have hcl : c.data.toList.length = 1 := by rw [Array.length_toList]; exact hc
  have hsl : (seg s 0 1).length = 1 := seg_len (by omega)
  rw [hA3]
  constructor
  · intro hh
    have h0 : (pairT s c).data.toList = s.data.toList := by rw [hh]
    rw [L] at h0
    conv at h0 => rhs; rw [R]
    have h3 := List.append_inj h0 (by rw [hcl, hsl])
    refine ⟨hpre.2 h3.1, ?_⟩
    have h4 := congrArg List.length h3.2
    simp only [List.length_append] at h4
    have h5 : (seg s x3 (s.size - x3)).length = s.size - x3 := seg_len (by omega)
    omega
  · rintro ⟨p, q⟩
    refine bytes_ext ?_
    rw [L]
    conv => rhs; rw [R]
    rw [hpre.1 p, q, Nat.sub_self, seg_zero, List.append_nil]
theorem eA1_pre {s c : ByteArray} (hc : c.size = 1) (h : preB s c = true) : 1 ≤ s.size ∧ eA1 s = 1 ∧ eB1 s = false := by
  have h1 : 1 ≤ s.size := by simp [preB] at h; omega
  have ho : takeOk s 0 false 1 = true := by simp [takeOk]; exact h1
  exact ⟨h1, by simp [eA1, takeA, ho], by simp [eB1, takeB, ho]⟩
theorem readPair_ok (s c : ByteArray) (hs : s.size ≤ 140737488355328) (hc : c.size = 1) :
    ∃ a b : Nat, PureFn Tryz.prog 74 [st s, st c] [i64 a, i64 b, bo (pairB s c)] ∧ (pairB s c = true → a = eN1 s ∧ b = eN2 s) := by
  obtain ⟨r, hr⟩ : ∃ r : ByteArray, r = if preB s c then s.extract c.size s.size else s := ⟨_, rfl⟩
  have hrs : r.size ≤ 140737488355328 := by rw [hr]; split; exact Nat.le_trans (extract_size _ _ _) hs; exact hs
  have k0 := cutPrefix_ok s c
  rw [← hr] at k0
  have k1 := number_ok r hrs 0 false
  obtain ⟨a1, ha1⟩ : ∃ a, a = numA r 0 false := ⟨_, rfl⟩
  obtain ⟨b1, hb1⟩ : ∃ b, b = numB r 0 false := ⟨_, rfl⟩
  obtain ⟨n1, hn1⟩ : ∃ n, n = numN r 0 false := ⟨_, rfl⟩
  rw [← ha1, ← hb1, ← hn1] at k1
  have k2 := number_ok r hrs a1 b1
  obtain ⟨a2, ha2⟩ : ∃ a, a = numA r a1 b1 := ⟨_, rfl⟩
  obtain ⟨b2, hb2⟩ : ∃ b, b = numB r a1 b1 := ⟨_, rfl⟩
  obtain ⟨n2, hn2⟩ : ∃ n, n = numN r a1 b1 := ⟨_, rfl⟩
  rw [← ha2, ← hb2, ← hn2] at k2
  have k3 := done_ok r a2 b2
  have key : (preB s c && (!b2 && decide ((a2 : Int) = (r.size : Int)))) = pairB s c ∧ (preB s c = true → n1 = eN1 s ∧ n2 = eN2 s) := by
    cases hp : preB s c with
    | false =>
      refine ⟨?_, fun h => by cases h⟩
      unfold pairB
      cases h3 : eB3 s with
      | true => rfl
      | false =>
        have := (pair_iff hc h3)
        rw [hp] at this
        have hno : ¬ pairT s c = s := fun hh => by have := (this.1 hh).1; cases this
        rw [decide_eq_false hno]; rfl
    | true =>
      obtain ⟨h1, q1, q2⟩ := eA1_pre hc hp
      rw [hp, if_pos rfl, hc] at hr
      subst hr
      obtain ⟨t1, t2, t3⟩ := num_tail h1 0 false
      have e1 : eN1 s = n1 := by rw [hn1, eN1, q1, q2]; exact t1
      have e2 : eA2 s = a1 + 1 := by rw [ha1, eA2, q1, q2]; exact t2
      have e3 : eB2 s = b1 := by rw [hb1, eB2, q1, q2]; exact t3
      obtain ⟨t4, t5, t6⟩ := num_tail h1 a1 b1
      have e4 : eN2 s = n2 := by rw [hn2, eN2, e2, e3]; exact t4
      have e5 : eA3 s = a2 + 1 := by rw [ha2, eA3, e2, e3]; exact t5
      have e6 : eB3 s = b2 := by rw [hb2, eB3, e2, e3]; exact t6
      have hz := tail_size h1
      refine ⟨?_, fun _ => ⟨e1.symm, e4.symm⟩⟩
      unfold pairB
      rw [← e6]
      cases h3 : eB3 s with
      | true => rfl
      | false =>
        have := pair_iff hc h3
        rw [hp] at this
        simp only [Bool.not_false, Bool.true_and]
        by_cases hh : a2 = (s.extract 1 s.size).size
        · rw [decide_eq_true (by omega), decide_eq_true (this.2 ⟨rfl, by omega⟩)]
        · rw [decide_eq_false (by omega), decide_eq_false (fun h => hh (by have := (this.1 h).2; omega))]
  refine ⟨n1, n2, ?_, fun h => key.2 (by rw [← key.1, Bool.and_eq_true] at h; exact h.1)⟩
  rw [← key.1]
  refine PureFn_of_Go Tryz.func74 rfl (by decide) mo (by decide +kernel) ?_
  simp only [Tryz.ntmps74, Tryz.results74, push_cast, seval]
  refine GoL_call rfl rfl k0 rfl rfl ?_
  simp only [Tryz.ntmps74, Tryz.results74, push_cast, seval]
  refine GoL_io (0, 576) .box 3 [sc r 0 false] rfl rfl rfl rfl (.inl rfl) rfl k1 rfl rfl ?_
  simp only [Tryz.ntmps74, Tryz.results74, push_cast, seval, sc]
  refine GoL_io (0, 576) .box 3 [sc r a1 b1] rfl rfl rfl rfl (.inl rfl) rfl k2 rfl rfl ?_
  simp only [Tryz.ntmps74, Tryz.results74, push_cast, seval, sc]
  cases hp : preB s c with
  | true =>
    simp only [Tryz.ntmps74, Tryz.results74, push_cast, seval, sc]
    refine GoL_io (0, 576) .box 3 [sc r a2 b2] rfl rfl rfl rfl (.inl rfl) rfl k3 rfl rfl ?_
    simp only [Tryz.ntmps74, Tryz.results74, push_cast, seval, sc]
  | false => simp only [Tryz.ntmps74, Tryz.results74, push_cast, seval, sc]
end Go.Proofs.YtlbmojbkmcpnaaaGreatDoor

