/- Reading numbers: what these functions return, by their code. -/
import Derived.Test.YtennhlaibefacaaDoorW1
namespace Go.Proofs.YtennhlaibefacaaDoor
open Go.RowKit Go.Rx
set_option linter.unusedSimpArgs false
set_option maxRecDepth 100000

def rvL (s : ByteArray) (a : Nat) : Nat → Nat → Nat → Nat → Option (Nat × Nat)
  | 0, _, _, _ => none
  | k + 1, i, n, u => if a + i < s.size then
      if 128 ≤ (bu s (a + i)).toNat then rvL s a k (i + 1) (n + (bu s (a + i)).toNat % 128 * u) (u * 128)
      else if ((bu s (a + i)).toNat = 0 ∧ 0 < i) ∨ 1000000000 < n + (bu s (a + i)).toNat % 128 * u then none
      else some (n + (bu s (a + i)).toNat % 128 * u, a + i + 1)
    else none
def rvO (s : ByteArray) (at_ : Int) : Option (Nat × Nat) := if 0 ≤ at_ ∧ at_ ≤ s.size then rvL s at_.toNat 5 0 0 1 else none
def rvX : Option (Nat × Nat) → List X
  | none => [i64 0, i64 0, bo false]
  | some (n, x) => [i64 n, i64 x, bo true]
theorem rvL_out {s : ByteArray} {a k i n u : Nat} (h : ¬ a + i < s.size) : rvL s a k i n u = none := by
  cases k with
  | zero => rfl
  | succ k => rw [rvL, if_neg h]
theorem rvL_go {s : ByteArray} {a k i n u : Nat} (h : a + i < s.size) (hb : 128 ≤ (bu s (a + i)).toNat) : rvL s a (k + 1) i n u = rvL s a k (i + 1) (n + (bu s (a + i)).toNat % 128 * u) (u * 128) := by
  rw [rvL, if_pos h, if_pos hb]
theorem rvL_no {s : ByteArray} {a k i n u : Nat} (h : a + i < s.size) (hb : ¬ 128 ≤ (bu s (a + i)).toNat) (hc : ((bu s (a + i)).toNat = 0 ∧ 0 < i) ∨ 1000000000 < n + (bu s (a + i)).toNat % 128 * u) : rvL s a (k + 1) i n u = none := by
  rw [rvL, if_pos h, if_neg hb, if_pos hc]
theorem rvL_yes {s : ByteArray} {a k i n u : Nat} (h : a + i < s.size) (hb : ¬ 128 ≤ (bu s (a + i)).toNat) (hc : ¬ (((bu s (a + i)).toNat = 0 ∧ 0 < i) ∨ 1000000000 < n + (bu s (a + i)).toNat % 128 * u)) : rvL s a (k + 1) i n u = some (n + (bu s (a + i)).toNat % 128 * u, a + i + 1) := by
  rw [rvL, if_pos h, if_neg hb, if_neg hc]
theorem rvL_bound {s : ByteArray} {a : Nat} : ∀ {k i n u m x : Nat}, rvL s a k i n u = some (m, x) → m ≤ 1000000000 ∧ a < x ∧ x ≤ s.size
  | 0, i, n, u, m, x, h => by cases h
  | k + 1, i, n, u, m, x, h => by
    by_cases h1 : a + i < s.size
    · by_cases h2 : 128 ≤ (bu s (a + i)).toNat
      · rw [rvL_go h1 h2] at h; exact rvL_bound h
      · by_cases h3 : ((bu s (a + i)).toNat = 0 ∧ 0 < i) ∨ 1000000000 < n + (bu s (a + i)).toNat % 128 * u
        · rw [rvL_no h1 h2 h3] at h; cases h
        · rw [rvL_yes h1 h2 h3] at h
          obtain ⟨rfl, rfl⟩ := Prod.mk.inj (Option.some.inj h)
          exact ⟨by omega, by omega, by omega⟩
    · rw [rvL_out h1] at h; cases h
theorem rvO_bound {s : ByteArray} {at_ : Int} {m x : Nat} (h : rvO s at_ = some (m, x)) : m ≤ 1000000000 ∧ 0 ≤ at_ ∧ at_ < x ∧ x ≤ s.size := by
  unfold rvO at h
  split at h
  · rename_i hc
    have := rvL_bound h
    omega
  · cases h
theorem pow128 {i : Nat} (h : i < 5) : 128 ^ i ≤ 268435456 := Nat.le_trans (Nat.pow_le_pow_right (by decide) (show i ≤ 4 by omega)) (by decide)

theorem readVarI_ok (s : ByteArray) (hs : s.size ≤ 140737488355328) (at_ : Int) : PureFn Tryd.prog 74 [st s, i64 at_] (rvX (rvO s at_)) := by
  refine PureFn_of_Go Tryd.func74 rfl (by decide) mo (by decide +kernel) ?_
  by_cases h0 : at_ < 0
  · have hr : rvO s at_ = none := if_neg (by omega)
    simp only [Tryd.ntmps74, Tryd.results74, push_cast, seval, h0, hr, rvX]
  by_cases h1 : (s.size : Int) < at_
  · have hr : rvO s at_ = none := if_neg (by omega)
    simp only [Tryd.ntmps74, Tryd.results74, push_cast, seval, h0, h1, hr, rvX]
  obtain ⟨a, rfl⟩ := Int.eq_ofNat_of_zero_le (show 0 ≤ at_ by omega)
  have hrv : rvO s a = rvL s a 5 0 0 1 := if_pos (by omega)
  obtain ⟨r, hr⟩ : ∃ r, r = rvO s a := ⟨_, rfl⟩
  rw [← hr] at hrv ⊢
  simp only [Tryd.ntmps74, Tryd.results74, push_cast, seval, h0, h1]
  refine Go_loop (α := {p : Nat × Nat × Nat // p.2.2 = 128 ^ p.1 ∧ p.2.1 < p.2.2 ∧ p.1 ≤ 5 ∧ r = rvL s a (5 - p.1) p.1 p.2.1 p.2.2})
    (fun p => ⟨tp 62 [(0, .x (st s)), (1, int a), (7, int p.1.2.1), (8, int p.1.2.2), (9, int p.1.1)], 0, [], []⟩) (fun p => 5 - p.1.1) ⟨(0, 0, 1), rfl, by simp, by simp, hrv⟩ ?_ ?_
  · exact Weak.same (by simp only [push_cast, seval, Int.ofNat_zero, Int.ofNat_one])
  · rintro ⟨⟨i, n, u⟩, hu, hnu, hi, hri⟩ X hX
    simp only at hu hnu hi hri
    by_cases c5 : (i : Int) < 5
    · have hu4 : u ≤ 268435456 := by rw [hu]; exact pow128 (by omega)
      obtain ⟨k, hk⟩ : ∃ k, 5 - i = k + 1 := ⟨4 - i, by omega⟩
      rw [hk] at hri
      obtain ⟨j, hj⟩ : ∃ j, j = a + i := ⟨_, rfl⟩
      have wa : IntKind.i64.wrap ((a : Int) + (i : Int)) = (j : Int) := wN (by omega) (by omega)
      by_cases c1 : (j : Int) < (s.size : Int)
      · have hjs : j < s.size := by omega
        have hb := bu_get hjs
        have hb256 := u8_lt (bu s j)
        obtain ⟨b, hbb⟩ : ∃ b, b = (bu s j).toNat := ⟨_, rfl⟩
        rw [← hbb] at hb256
        have hcv : IntKind.i64.wrap ((bu s j).toNat : Int) = (b : Int) := wN (by omega) (by omega)
        have hrem := tmodN b 128
        rw [show ((128 : Nat) : Int) = 128 from rfl] at hrem
        obtain ⟨q, hq⟩ : ∃ q, q = b % 128 := ⟨_, rfl⟩
        rw [← hq] at hrem
        have hqu : q * u ≤ 127 * u := Nat.mul_le_mul_right _ (by omega)
        have hw1 : IntKind.i64.wrap ((q : Int) * (u : Int)) = ((q * u : Nat) : Int) := wN (by rw [Int.natCast_mul]) (by omega)
        obtain ⟨m, hm⟩ : ∃ m, m = q * u := ⟨_, rfl⟩
        rw [← hm] at hw1 hqu
        have hw2 : IntKind.i64.wrap ((n : Int) + (m : Int)) = ((n + m : Nat) : Int) := wN (by rw [Int.natCast_add]) (by omega)
        obtain ⟨n', hn'⟩ : ∃ n', n' = n + m := ⟨_, rfl⟩
        rw [← hn'] at hw2
        have hw3 : IntKind.i64.wrap ((u : Int) * 128) = ((u * 128 : Nat) : Int) := wN (by rw [Int.natCast_mul]; rfl) (by omega)
        obtain ⟨u', hu'⟩ : ∃ u', u' = u * 128 := ⟨_, rfl⟩
        rw [← hu'] at hw3
        have hw4 : IntKind.i64.wrap ((i : Int) + 1) = ((i + 1 : Nat) : Int) := wN (by omega) (by omega)
        obtain ⟨i', hi'⟩ : ∃ i', i' = i + 1 := ⟨_, rfl⟩
        rw [← hi'] at hw4
        have hw5 : IntKind.i64.wrap ((j : Int) + 1) = ((j + 1 : Nat) : Int) := wN (by omega) (by omega)
        obtain ⟨j', hj'⟩ : ∃ j', j' = j + 1 := ⟨_, rfl⟩
        rw [← hj'] at hw5
        have hnn : n + (bu s (a + i)).toNat % 128 * u = n' := by rw [hn', hm, hq, hbb, hj]
        have hbe : (bu s (a + i)).toNat = b := by rw [hbb, hj]
        by_cases c2 : (128 : Int) ≤ (b : Int)
        · have hgo := rvL_go (k := k) (n := n) (u := u) (show a + i < s.size by omega) (by rw [hbe]; omega)
          rw [← hri, hnn, ← hu', ← hi', show k = 5 - i' by omega] at hgo
          simp only [push_cast, seval, c5, wa, c1, hb, hcv, hrem, hw1, hw2, hw3, c2, hw4]
          refine ⟨_, ?_, hX ⟨(i', n', u'), ?_, ?_, ?_, hgo⟩ (by simp only; omega)⟩
          · exact Weak.same (by simp only [push_cast, seval])
          · show u' = 128 ^ i'; rw [hi', Nat.pow_succ, hu', hu]
          · show n' < u'; omega
          · show i' ≤ 5; omega
        · have hbl : ¬ 128 ≤ (bu s (a + i)).toNat := by rw [hbe]; omega
          cases c3 : decide ((b : Int) = 0) with
          | true =>
            have e3 := of_decide_eq_true c3
            by_cases c4 : (0 : Int) < (i : Int)
            · have hno := rvL_no (k := k) (n := n) (u := u) (show a + i < s.size by omega) hbl (.inl ⟨by omega, by omega⟩)
              rw [← hri] at hno
              simp only [Tryd.ntmps74, Tryd.results74, push_cast, seval, c5, wa, c1, hb, hcv, hrem, hw1, hw2, hw3, c2, c3, c4, hno, rvX]
            · by_cases c6 : (1000000000 : Int) < (n' : Int)
              · have hno := rvL_no (k := k) (n := n) (u := u) (show a + i < s.size by omega) hbl (.inr (by rw [hnn]; omega))
                rw [← hri] at hno
                simp only [Tryd.ntmps74, Tryd.results74, push_cast, seval, c5, wa, c1, hb, hcv, hrem, hw1, hw2, hw3, c2, c3, c4, c6, hno, rvX]
              · have hyes := rvL_yes (k := k) (n := n) (u := u) (show a + i < s.size by omega) hbl (by rw [hnn]; omega)
                rw [← hri, hnn, ← hj, ← hj'] at hyes
                simp only [Tryd.ntmps74, Tryd.results74, push_cast, seval, c5, wa, c1, hb, hcv, hrem, hw1, hw2, hw3, c2, c3, c4, c6, hw5, hyes, rvX]
          | false =>
            have e3 := of_decide_eq_false c3
            by_cases c6 : (1000000000 : Int) < (n' : Int)
            · have hno := rvL_no (k := k) (n := n) (u := u) (show a + i < s.size by omega) hbl (.inr (by rw [hnn]; omega))
              rw [← hri] at hno
              simp only [Tryd.ntmps74, Tryd.results74, push_cast, seval, c5, wa, c1, hb, hcv, hrem, hw1, hw2, hw3, c2, c3, c6, hno, rvX]
            · have hyes := rvL_yes (k := k) (n := n) (u := u) (show a + i < s.size by omega) hbl (by rw [hnn]; omega)
              rw [← hri, hnn, ← hj, ← hj'] at hyes
              simp only [Tryd.ntmps74, Tryd.results74, push_cast, seval, c5, wa, c1, hb, hcv, hrem, hw1, hw2, hw3, c2, c3, c6, hw5, hyes, rvX]
      · have hno := rvL_out (k := k + 1) (n := n) (u := u) (show ¬ a + i < s.size by omega)
        rw [← hri] at hno
        simp only [Tryd.ntmps74, Tryd.results74, push_cast, seval, c5, wa, c1, hno, rvX]
    · have hno : r = none := by rw [hri, show 5 - i = 0 by omega]; rfl
      simp only [Tryd.ntmps74, Tryd.results74, push_cast, seval, c5, hno, rvX]
end Go.Proofs.YtennhlaibefacaaDoor

