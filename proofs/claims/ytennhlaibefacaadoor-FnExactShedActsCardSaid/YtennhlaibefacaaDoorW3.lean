/- Reading numbers, the reference's way: the same. -/
import Derived.Test.YtennhlaibefacaaDoorW2
namespace Go.Proofs.YtennhlaibefacaaDoor
open Go.RowKit Go.Rx
set_option linter.unusedSimpArgs false
set_option maxRecDepth 100000

def seg (s : ByteArray) (a k : Nat) : List UInt8 := (s.data.toList.drop a).take k
theorem seg_zero (s : ByteArray) (a : Nat) : seg s a 0 = [] := by simp [seg]
theorem seg_succ {s : ByteArray} {a k : Nat} (h : a + k < s.size) : seg s a (k + 1) = seg s a k ++ [bu s (a + k)] := by
  unfold seg
  have h2 : a + k < s.data.toList.length := by rw [Array.length_toList]; exact h
  rw [List.take_add_one, List.getElem?_drop, List.getElem?_eq_getElem h2]
  simp only [bu, List.getD_eq_getElem?_getD, List.getElem?_eq_getElem h2, Option.getD_some, Option.toList_some]
theorem extract_list (s : ByteArray) (a b : Nat) : (s.extract a b).data.toList = seg s a (b - a) := by
  rw [ByteArray.data_extract, Array.toList_extract, List.extract_eq_take_drop]; rfl
theorem bytes_ext {x y : ByteArray} (h : x.data.toList = y.data.toList) : x = y := by
  cases x; cases y; simp only at h; congr; exact Array.toList_inj.1 h
theorem varB_list (n : Nat) : (varB n).data.toList = varL n := rfl
theorem varB_seg (s : ByteArray) (n a b : Nat) : varB n = s.extract a b ↔ varL n = seg s a (b - a) := by
  rw [← extract_list, ← varB_list]
  exact ⟨fun h => by rw [h], bytes_ext⟩

def val (l : List UInt8) : Nat := l.foldr (fun b v => b.toNat % 128 + 128 * v) 0
theorem val_snoc (l : List UInt8) (b : UInt8) : val (l ++ [b]) = val l + b.toNat % 128 * 128 ^ l.length := by
  induction l with
  | nil => simp [val]
  | cons c l ih =>
    simp only [val, List.cons_append, List.foldr_cons, List.length_cons] at ih ⊢
    rw [ih, Nat.pow_succ, Nat.mul_add, Nat.add_assoc]
    congr 2
    rw [Nat.mul_left_comm, Nat.mul_comm 128]
theorem varL_last : ∀ (n : Nat) (l : List UInt8) (b : UInt8), l ≠ [] → varL n = l ++ [b] → b.toNat ≠ 0 := by
  intro n
  induction n using Nat.strongRecOn with
  | ind n ih =>
    intro l b hl h
    by_cases hn : n ≤ 127
    · rw [varL_small hn] at h
      cases l with
      | nil => exact absurd rfl hl
      | cons c l => simp at h
    · rw [varL_big hn] at h
      cases l with
      | nil => exact absurd rfl hl
      | cons c l =>
        simp only [List.cons_append, List.cons.injEq] at h
        cases l with
        | cons d l => exact ih (n / 128) (by omega) (d :: l) b (by simp) h.2
        | nil =>
          by_cases hn2 : n / 128 ≤ 127
          · rw [varL_small hn2] at h
            have := h.2
            simp only [List.nil_append, List.cons.injEq, and_true] at this
            rw [← this, UInt8.toNat_ofNat']
            omega
          · rw [varL_big hn2] at h
            have := congrArg List.length h.2
            simp only [List.length_cons, List.nil_append, List.length_nil] at this
            rw [varL] at this
            split at this <;> simp at this
theorem val_lt : ∀ (l : List UInt8), val l < 128 ^ l.length
  | [] => by simp [val]
  | b :: l => by
    have := val_lt l
    simp only [val, List.foldr_cons, List.length_cons, Nat.pow_succ] at this ⊢
    omega
theorem canon_yes : ∀ (l : List UInt8) (b : UInt8), (∀ p ∈ l, 128 ≤ p.toNat) → b.toNat < 128 → ¬ (b.toNat = 0 ∧ 0 < l.length) → varL (val (l ++ [b])) = l ++ [b]
  | [], b, _, hb, _ => by
    have e : val ([] ++ [b]) = b.toNat := by simp [val]; omega
    rw [e, varL_small (by omega)]; simp
  | p :: l, b, hp, hb, hn => by
    have hb0 : b.toNat ≠ 0 := fun e => hn ⟨e, by simp⟩
    have ih := canon_yes l b (fun q hq => hp q (List.mem_cons_of_mem _ hq)) hb (fun h => hb0 h.1)
    have h1 := hp p (List.mem_cons_self ..)
    have e : val (p :: l ++ [b]) = p.toNat % 128 + 128 * val (l ++ [b]) := rfl
    have hv : 0 < val (l ++ [b]) := by
      rw [val_snoc]
      have h2 : 0 < b.toNat % 128 * 128 ^ l.length := Nat.mul_pos (by omega) (Nat.pow_pos (by decide))
      omega
    have hlt := u8_lt p
    rw [e, varL_big (by omega), show (p.toNat % 128 + 128 * val (l ++ [b])) / 128 = val (l ++ [b]) by omega, ih,
      show 128 + (p.toNat % 128 + 128 * val (l ++ [b])) % 128 = p.toNat by omega]
    simp
theorem canon {l : List UInt8} {b : UInt8} (hp : ∀ p ∈ l, 128 ≤ p.toNat) (hb : b.toNat < 128) : varL (val (l ++ [b])) = l ++ [b] ↔ ¬ (b.toNat = 0 ∧ 0 < l.length) := by
  refine ⟨fun h hc => ?_, canon_yes l b hp hb⟩
  exact varL_last _ l b (fun e => by rw [e] at hc; exact absurd hc.2 (by simp)) h hc.1

theorem readVarS_ok (s : ByteArray) (hs : s.size ≤ 140737488355328) (at_ : Int) (hat : at_ ≤ 140737488355328) : PureFn Tryd.prog 64 [st s, i64 at_] (rvX (rvO s at_)) := by
  refine PureFn_of_Go Tryd.func64 rfl (by decide) mo (by decide +kernel) ?_
  have kin := l01In_ok at_ 0 s.size
  simp only [Tryd.ntmps64, Tryd.results64, push_cast, seval]
  refine GoL_call rfl rfl kin rfl rfl ?_
  cases hin : (decide (0 ≤ at_) && decide (at_ ≤ (s.size : Int))) with
  | false =>
    have hr : rvO s at_ = none := if_neg (by simpa using hin)
    simp only [Tryd.ntmps64, Tryd.results64, push_cast, seval, hin, hr, rvX]
  | true =>
  have hin' : 0 ≤ at_ ∧ at_ ≤ s.size := by simpa using hin
  obtain ⟨a, rfl⟩ := Int.eq_ofNat_of_zero_le hin'.1
  have hrv : rvO s a = rvL s a 5 0 0 1 := if_pos hin'
  obtain ⟨r, hr⟩ : ∃ r, r = rvO s a := ⟨_, rfl⟩
  rw [← hr] at hrv ⊢
  simp only [Tryd.ntmps64, Tryd.results64, push_cast, seval, hin]
  refine Go_loop (α := {p : Nat × Nat × Nat // ∃ i, p.1 = a + i ∧ p.2.2 = 128 ^ i ∧ i ≤ 5 ∧ a + i ≤ s.size ∧ r = rvL s a (5 - i) i p.2.1 p.2.2 ∧ p.2.1 = val (seg s a i) ∧ (seg s a i).length = i ∧ ∀ q ∈ seg s a i, 128 ≤ q.toNat})
    (fun p => ⟨tp 58 [(0, .x (st s)), (1, int a), (7, int p.1.2.1), (8, int p.1.2.2), (9, int p.1.1)], 0, [], []⟩) (fun p => a + 5 - p.1.1) ⟨(a, 0, 1), 0, rfl, rfl, by simp, by omega, hrv, by simp [seg, val], by simp [seg], by simp [seg]⟩ ?_ ?_
  · exact Weak.same (by simp only [push_cast, seval, Int.ofNat_zero, Int.ofNat_one])
  · rintro ⟨⟨j, n, u⟩, i, hj, hu, hi, his, hri, hval, hlen, hall⟩ X hX
    simp only at hj hu hi hri hval
    have hnu : n < u := by have := val_lt (seg s a i); rw [hval, hu]; rw [hlen] at this; exact this
    have wa5 : IntKind.i64.wrap ((a : Int) + 5) = ((a + 5 : Nat) : Int) := wN (by rw [Int.natCast_add]; rfl) (by omega)
    obtain ⟨a5, ha5⟩ : ∃ a5, a5 = a + 5 := ⟨_, rfl⟩
    rw [← ha5] at wa5
    by_cases c1 : (j : Int) < (s.size : Int)
    · by_cases c5 : (j : Int) < (a5 : Int)
      · have hu4 : u ≤ 268435456 := by rw [hu]; exact pow128 (by omega)
        obtain ⟨k, hk⟩ : ∃ k, 5 - i = k + 1 := ⟨4 - i, by omega⟩
        rw [hk] at hri
        have hjs : j < s.size := by omega
        have hb := bu_get hjs
        have hb256 := u8_lt (bu s j)
        obtain ⟨b, hbb⟩ : ∃ b, b = (bu s j).toNat := ⟨_, rfl⟩
        rw [← hbb] at hb256
        have hcv : IntKind.i64.wrap ((bu s j).toNat : Int) = (b : Int) := wN (by omega) (by omega)
        have hrem := tmodN b 128
        rw [show ((128 : Nat) : Int) = 128 from rfl] at hrem
        obtain ⟨q, hq⟩ : ∃ q, q = b % 128 := ⟨_, rfl⟩
        rw [← hq] at hrem
        have hqu : q * u ≤ 127 * u := Nat.mul_le_mul_right _ (by omega)
        have hw1 : IntKind.i64.wrap ((q : Int) * (u : Int)) = ((q * u : Nat) : Int) := wN (by rw [Int.natCast_mul]) (by omega)
        obtain ⟨m, hm⟩ : ∃ m, m = q * u := ⟨_, rfl⟩
        rw [← hm] at hw1 hqu
        have hw2 : IntKind.i64.wrap ((n : Int) + (m : Int)) = ((n + m : Nat) : Int) := wN (by rw [Int.natCast_add]) (by omega)
        obtain ⟨n', hn'⟩ : ∃ n', n' = n + m := ⟨_, rfl⟩
        rw [← hn'] at hw2
        have hw3 : IntKind.i64.wrap ((u : Int) * 128) = ((u * 128 : Nat) : Int) := wN (by rw [Int.natCast_mul]; rfl) (by omega)
        obtain ⟨u', hu'⟩ : ∃ u', u' = u * 128 := ⟨_, rfl⟩
        rw [← hu'] at hw3
        have hw5 : IntKind.i64.wrap ((j : Int) + 1) = ((j + 1 : Nat) : Int) := wN (by omega) (by omega)
        obtain ⟨j', hj'⟩ : ∃ j', j' = j + 1 := ⟨_, rfl⟩
        rw [← hj'] at hw5
        have hnn : n + (bu s (a + i)).toNat % 128 * u = n' := by rw [hn', hm, hq, hbb, hj]
        have hbe : (bu s (a + i)).toNat = b := by rw [hbb, hj]
        have hsg := seg_succ (s := s) (a := a) (k := i) (by omega)
        have hval' : n' = val (seg s a (i + 1)) := by
          rw [hsg, val_snoc, ← hval, hlen, ← hu, ← hnn]
        by_cases c2 : ((bu s j).toNat : Int) < 128
        · have hbl : ¬ 128 ≤ (bu s (a + i)).toNat := by rw [hbe]; omega
          have hcan := canon (b := bu s (a + i)) hall (by omega)
          rw [← hsg, ← hval', hlen] at hcan
          by_cases c6 : (1000000000 : Int) < (n' : Int)
          · have hno := rvL_no (k := k) (n := n) (u := u) (show a + i < s.size by omega) hbl (.inr (by rw [hnn]; omega))
            rw [← hri] at hno
            simp only [Tryd.ntmps64, Tryd.results64, push_cast, seval, c1, wa5, c5, hb, hcv, hrem, hw1, hw2, hw3, c2, c6, hno, rvX]
          · simp only [Tryd.ntmps64, Tryd.results64, push_cast, seval, c1, wa5, c5, hb, hcv, hrem, hw1, hw2, hw3, c2, c6]
            refine GoD_call rfl rfl (l01Var_ok n' (by omega)) rfl rfl ?_
            have hle1 : a ≤ j' := by omega
            have hle2 : j' ≤ s.size := by omega
            cases c7 : decide (varB n' = s.extract a j') with
            | true =>
              have e7 := (varB_seg s n' a j').1 (of_decide_eq_true c7)
              rw [show j' - a = i + 1 by omega] at e7
              have hc := hcan.1 e7
              have hyes := rvL_yes (k := k) (n := n) (u := u) (show a + i < s.size by omega) hbl (by rw [hnn]; omega)
              rw [← hri, hnn, ← hj, ← hj'] at hyes
              simp only [Tryd.ntmps64, Tryd.results64, push_cast, seval, hw5, hle1, hle2, c7, c6, hyes, rvX]
            | false =>
              have e7 : ¬ varL n' = seg s a (i + 1) := fun h => of_decide_eq_false c7 ((varB_seg s n' a j').2 (by rw [show j' - a = i + 1 by omega]; exact h))
              have hc : (bu s (a + i)).toNat = 0 ∧ 0 < i := Decidable.of_not_not fun h => e7 (hcan.2 h)
              have hno := rvL_no (k := k) (n := n) (u := u) (show a + i < s.size by omega) hbl (.inl hc)
              rw [← hri] at hno
              simp only [Tryd.ntmps64, Tryd.results64, push_cast, seval, hw5, hle1, hle2, c7, c6, hno, rvX]
        · have hbl : 128 ≤ (bu s (a + i)).toNat := by rw [hbe]; omega
          have hgo := rvL_go (k := k) (n := n) (u := u) (show a + i < s.size by omega) hbl
          rw [← hri, hnn, ← hu', show k = 5 - (i + 1) by omega] at hgo
          simp only [push_cast, seval, c1, wa5, c5, hb, hcv, hrem, hw1, hw2, hw3, c2, hw5]
          refine ⟨_, ?_, hX ⟨(j', n', u'), i + 1, ?_, ?_, by omega, by omega, hgo, hval', ?_, ?_⟩ (by simp only; omega)⟩
          · exact Weak.same (by simp only [push_cast, seval])
          · show j' = a + (i + 1); omega
          · show u' = 128 ^ (i + 1); rw [Nat.pow_succ, hu', hu]
          · rw [hsg, List.length_append, hlen]; rfl
          · intro x hx
            rw [hsg, List.mem_append] at hx
            rcases hx with hx | hx
            · exact hall x hx
            · rw [List.mem_singleton.1 hx]; exact hbl
      · have hno : r = none := by rw [hri, show 5 - i = 0 by omega]; rfl
        simp only [Tryd.ntmps64, Tryd.results64, push_cast, seval, c1, wa5, c5, hno, rvX]
    · have hno := rvL_out (k := 5 - i) (n := n) (u := u) (show ¬ a + i < s.size by omega)
      rw [← hri] at hno
      simp only [Tryd.ntmps64, Tryd.results64, push_cast, seval, c1, hno, rvX]
end Go.Proofs.YtennhlaibefacaaDoor

