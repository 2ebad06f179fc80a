/- Texts W1 W2 W3 W4 W5 W6 W7 W8 W9 W10 W11 W13 W14 W15 K1 K2 K3 F2 E1 E2 E3 E4 E5 E6 E7 E8, merged. -/
import Derived.Test.YthhgmnpodgmlkaaTy
import Derived.Test.YthhgmnpodgmlkaaRxIV
namespace Go.Proofs.Ythhgmnpodgmlkaa
open Go.RowKit Go.Rx
set_option linter.unusedSimpArgs false
set_option maxRecDepth 100000
abbrev i64 (n : Int) : X := .one (.v (.int .i64 n))
abbrev bo (b : Bool) : X := .one (.v (.bool b))
abbrev st (s : ByteArray) : X := .one (.v (.string s))
abbrev bad : V := .x (.one .bad)
theorem mo : Try.prog.follows .mixedOrders = true := by kernel_rfl
theorem inRange_ok (n a b : Int) : PureFn Try.prog 30 [i64 n, i64 a, i64 b] [bo (decide (a ≤ n) && decide (n ≤ b))] := by
  refine PureFn_of_Go Try.func30 rfl (by decide) mo (by decide +kernel) ?_
  simp only [Try.ntmps30, Try.results30, push_cast, seval]
  by_cases h : a ≤ n
  · simp [h, push_cast, resOk, Try.results30]
  · simp [h, push_cast, resOk, Try.results30]
theorem l01In_ok (n a b : Int) : PureFn Try.prog 34 [i64 n, i64 a, i64 b] [bo (decide (a ≤ n) && decide (n ≤ b))] := by
  refine PureFn_of_Go Try.func34 rfl (by decide) mo (by decide +kernel) ?_
  simp only [Try.ntmps34, Try.results34, push_cast, seval]
  by_cases h : a ≤ n
  · simp [h, push_cast, resOk, Try.results34]
  · simp [h, push_cast, resOk, Try.results34]
def crcBit (x : Nat) : Nat := if x % 2 = 1 then (x / 2) ^^^ 3558460437 else x / 2
def crcBits (x : Nat) : Nat → Nat
  | 0 => x
  | k + 1 => crcBit (crcBits x k)
theorem u8_lt (b : UInt8) : b.toNat < 256 := by have := b.toNat_lt; omega
def varL (n : Nat) : List UInt8 := if n ≤ 127 then [UInt8.ofNat n] else UInt8.ofNat (128 + n % 128) :: varL (n / 128)
termination_by n
decreasing_by omega
def varB (n : Nat) : ByteArray := ⟨(varL n).toArray⟩
theorem varL_small {n : Nat} (h : n ≤ 127) : varL n = [UInt8.ofNat n] := by rw [varL, if_pos h]
theorem varL_big {n : Nat} (h : ¬ n ≤ 127) : varL n = UInt8.ofNat (128 + n % 128) :: varL (n / 128) := by rw [varL, if_neg h]
theorem varText_ok (n : Nat) (hn : n ≤ 4294967290) : PureFn Try.prog 83 [i64 n] [st (varB n)] := by
  refine PureFn_of_Go Try.func83 rfl (by decide) mo (by decide +kernel) ?_
  simp only [Try.ntmps83, Try.results83, push_cast, seval]
  refine Go_loop (α := {p : List UInt8 × Nat // p.1 ++ varL p.2 = varL n ∧ p.1.length + p.2 ≤ n}) (fun p => ⟨tp 21 [(0, int p.1.2), (3, .x (.one (.rs (0, 768) [] 1 0 p.1.1.length)))], 0, [((0, 768), ⟨.sl, 1, byR p.1.1⟩)], []⟩) (fun p => p.1.2) ⟨([], n), by simp, by simp⟩ ?_ ?_
  · refine Weak.trans (Weak.nilRoot (0, 768) 1 3 rfl rfl rfl) ?_
    simp only [push_cast, seval, byR_nil]
    exact Weak.same (by simp only [push_cast, seval, byR_nil])
  · rintro ⟨⟨l, m⟩, hp, hm⟩ X hX
    simp only at hp hm
    have a0 : l.length + 1 ≤ 4294967296 := by omega
    have a1 := max_len a0
    have a2 := room_le (b := 1) a0 (by decide)
    have hfl := byR_length l
    by_cases hlt : (127 : Int) < (m : Int)
    · have hrem := tmodN m 128
      rw [show ((128 : Nat) : Int) = 128 from rfl] at hrem
      obtain ⟨q, hq⟩ : ∃ q, q = m % 128 := ⟨_, rfl⟩
      rw [← hq] at hrem
      have hw1 : IntKind.i64.wrap (128 + (q : Int)) = ((128 + q : Nat) : Int) := wN (by omega) (by omega)
      have hw2 := wu8 (n := 128 + q)
      have hb : UInt8.ofNat (128 + q) = UInt8.ofNat (128 + m % 128) := by rw [hq]
      obtain ⟨z, hz⟩ : ∃ z, z = 128 + q := ⟨_, rfl⟩
      rw [← hz] at hw1 hw2 hb
      obtain ⟨c, hc⟩ : ∃ c, c = UInt8.ofNat z := ⟨_, rfl⟩
      rw [← hc] at hw2 hb
      have hdiv := tdivN m 128
      rw [show ((128 : Nat) : Int) = 128 from rfl] at hdiv
      have hw3 : IntKind.i64.wrap ((m : Int).tdiv 128) = ((m / 128 : Nat) : Int) := wN hdiv (by omega)
      obtain ⟨m', hm'⟩ : ∃ m', m' = m / 128 := ⟨_, rfl⟩
      rw [← hm'] at hw3
      have hsn := byR_snoc l c
      obtain ⟨l', hl'⟩ : ∃ l', l' = l ++ [c] := ⟨_, rfl⟩
      rw [← hl'] at hsn
      have hll : l'.length = l.length + 1 := by rw [hl']; simp
      have hinv : l' ++ varL m' = varL n := by
        have hv := varL_big (n := m) (by omega)
        rw [hl', hb, hm', ← hp, hv, List.append_assoc]; rfl
      have hml : l'.length + m' ≤ n := by rw [hll]; omega
      simp only [push_cast, seval, hlt, hrem, hw1, hw2, hw3, a1, a2, hsn, hfl]
      refine ⟨_, ?_, hX ⟨(l', m'), hinv, hml⟩ (by simp only; omega)⟩
      exact Weak.drop (by simp only [push_cast, seval, hll]) (by simp only [push_cast, seval, hll]) (by simp only [push_cast, seval, hll])
    · have hw2 := wu8 (n := m)
      obtain ⟨c, hc⟩ : ∃ c, c = UInt8.ofNat m := ⟨_, rfl⟩
      rw [← hc] at hw2
      have hsn := byR_snoc l c
      obtain ⟨l', hl'⟩ : ∃ l', l' = l ++ [c] := ⟨_, rfl⟩
      rw [← hl'] at hsn
      have hll : l'.length = l.length + 1 := by rw [hl']; simp
      have ht := byR_take l'
      rw [hll] at ht
      have hfin : (⟨l'.toArray⟩ : ByteArray) = varB n := by rw [hl', hc, varB, ← hp, varL_small (by omega)]
      simp only [Try.ntmps83, Try.results83, push_cast, seval, hlt, hw2, a1, a2, hsn, hfl, ht, hfin]
theorem l01Var_ok (n : Nat) (hn : n ≤ 4294967290) : PureFn Try.prog 35 [i64 n] [st (varB n)] := by
  refine PureFn_of_Go Try.func35 rfl (by decide) mo (by decide +kernel) ?_
  simp only [Try.ntmps35, Try.results35, push_cast, seval]
  refine Go_loop (α := {p : List UInt8 × Nat // p.1 ++ varL p.2 = varL n ∧ p.1.length + p.2 ≤ n}) (fun p => ⟨tp 22 [(0, int p.1.2), (3, .x (.one (.rs (0, 832) [] 1 0 p.1.1.length)))], 0, [((0, 832), ⟨.sl, 1, byR p.1.1⟩)], []⟩) (fun p => p.1.2) ⟨([], n), by simp, by simp⟩ ?_ ?_
  · refine Weak.trans (Weak.rename (0, 256) (0, 832) rfl rfl (by decide) rfl) ?_
    simp only [push_cast, seval, byR_nil]
    exact Weak.same (by simp only [push_cast, seval, byR_nil])
  · rintro ⟨⟨l, m⟩, hp, hm⟩ X hX
    simp only at hp hm
    have a0 : l.length + 1 ≤ 4294967296 := by omega
    have a1 := max_len a0
    have a2 := room_le (b := 1) a0 (by decide)
    have hfl := byR_length l
    by_cases hlt : (127 : Int) < (m : Int)
    · have hrem := tmodN m 128
      rw [show ((128 : Nat) : Int) = 128 from rfl] at hrem
      obtain ⟨q, hq⟩ : ∃ q, q = m % 128 := ⟨_, rfl⟩
      rw [← hq] at hrem
      have hw1 : IntKind.i64.wrap ((q : Int) + 128) = ((128 + q : Nat) : Int) := wN (by omega) (by omega)
      have hw2 := wu8 (n := 128 + q)
      have hb : UInt8.ofNat (128 + q) = UInt8.ofNat (128 + m % 128) := by rw [hq]
      obtain ⟨z, hz⟩ : ∃ z, z = 128 + q := ⟨_, rfl⟩
      rw [← hz] at hw1 hw2 hb
      obtain ⟨c, hc⟩ : ∃ c, c = UInt8.ofNat z := ⟨_, rfl⟩
      rw [← hc] at hw2 hb
      have hdiv := tdivN m 128
      rw [show ((128 : Nat) : Int) = 128 from rfl] at hdiv
      have hw3 : IntKind.i64.wrap ((m : Int).tdiv 128) = ((m / 128 : Nat) : Int) := wN hdiv (by omega)
      obtain ⟨m', hm'⟩ : ∃ m', m' = m / 128 := ⟨_, rfl⟩
      rw [← hm'] at hw3
      have hsn := byR_snoc l c
      obtain ⟨l', hl'⟩ : ∃ l', l' = l ++ [c] := ⟨_, rfl⟩
      rw [← hl'] at hsn
      have hll : l'.length = l.length + 1 := by rw [hl']; simp
      have hinv : l' ++ varL m' = varL n := by
        have hv := varL_big (n := m) (by omega)
        rw [hl', hb, hm', ← hp, hv, List.append_assoc]; rfl
      have hml : l'.length + m' ≤ n := by rw [hll]; omega
      simp only [push_cast, seval, hlt, hrem, hw1, hw2, hw3, a1, a2, hsn, hfl]
      refine ⟨_, ?_, hX ⟨(l', m'), hinv, hml⟩ (by simp only; omega)⟩
      exact Weak.drop (by simp only [push_cast, seval, hll]) (by simp only [push_cast, seval, hll]) (by simp only [push_cast, seval, hll])
    · have hw2 := wu8 (n := m)
      obtain ⟨c, hc⟩ : ∃ c, c = UInt8.ofNat m := ⟨_, rfl⟩
      rw [← hc] at hw2
      have hsn := byR_snoc l c
      obtain ⟨l', hl'⟩ : ∃ l', l' = l ++ [c] := ⟨_, rfl⟩
      rw [← hl'] at hsn
      have hll : l'.length = l.length + 1 := by rw [hl']; simp
      have ht := byR_take l'
      rw [hll] at ht
      have hfin : (⟨l'.toArray⟩ : ByteArray) = varB n := by rw [hl', hc, varB, ← hp, varL_small (by omega)]
      simp only [Try.ntmps35, Try.results35, push_cast, seval, hlt, hw2, a1, a2, hsn, hfl, ht, hfin]
end Go.Proofs.Ythhgmnpodgmlkaa
namespace Go.Proofs.Ythhgmnpodgmlkaa
open Go.RowKit Go.Rx
set_option linter.unusedSimpArgs false
set_option maxRecDepth 100000
def rvL (s : ByteArray) (a : Nat) : Nat → Nat → Nat → Nat → Option (Nat × Nat)
  | 0, _, _, _ => none
  | k + 1, i, n, u => if a + i < s.size then
      if 128 ≤ (bu s (a + i)).toNat then rvL s a k (i + 1) (n + (bu s (a + i)).toNat % 128 * u) (u * 128)
      else if ((bu s (a + i)).toNat = 0 ∧ 0 < i) ∨ 1000000000 < n + (bu s (a + i)).toNat % 128 * u then none
      else some (n + (bu s (a + i)).toNat % 128 * u, a + i + 1)
    else none
def rvO (s : ByteArray) (at_ : Int) : Option (Nat × Nat) := if 0 ≤ at_ ∧ at_ ≤ s.size then rvL s at_.toNat 5 0 0 1 else none
def rvX : Option (Nat × Nat) → List X
  | none => [i64 0, i64 0, bo false]
  | some (n, x) => [i64 n, i64 x, bo true]
theorem rvL_out {s : ByteArray} {a k i n u : Nat} (h : ¬ a + i < s.size) : rvL s a k i n u = none := by
  cases k with
  | zero => rfl
  | succ k => rw [rvL, if_neg h]
theorem rvL_go {s : ByteArray} {a k i n u : Nat} (h : a + i < s.size) (hb : 128 ≤ (bu s (a + i)).toNat) : rvL s a (k + 1) i n u = rvL s a k (i + 1) (n + (bu s (a + i)).toNat % 128 * u) (u * 128) := by
  rw [rvL, if_pos h, if_pos hb]
theorem rvL_no {s : ByteArray} {a k i n u : Nat} (h : a + i < s.size) (hb : ¬ 128 ≤ (bu s (a + i)).toNat) (hc : ((bu s (a + i)).toNat = 0 ∧ 0 < i) ∨ 1000000000 < n + (bu s (a + i)).toNat % 128 * u) : rvL s a (k + 1) i n u = none := by
  rw [rvL, if_pos h, if_neg hb, if_pos hc]
theorem rvL_yes {s : ByteArray} {a k i n u : Nat} (h : a + i < s.size) (hb : ¬ 128 ≤ (bu s (a + i)).toNat) (hc : ¬ (((bu s (a + i)).toNat = 0 ∧ 0 < i) ∨ 1000000000 < n + (bu s (a + i)).toNat % 128 * u)) : rvL s a (k + 1) i n u = some (n + (bu s (a + i)).toNat % 128 * u, a + i + 1) := by
  rw [rvL, if_pos h, if_neg hb, if_neg hc]
theorem rvL_bound {s : ByteArray} {a : Nat} : ∀ {k i n u m x : Nat}, rvL s a k i n u = some (m, x) → m ≤ 1000000000 ∧ a < x ∧ x ≤ s.size
  | 0, i, n, u, m, x, h => by cases h
  | k + 1, i, n, u, m, x, h => by
    by_cases h1 : a + i < s.size
    · by_cases h2 : 128 ≤ (bu s (a + i)).toNat
      · rw [rvL_go h1 h2] at h; exact rvL_bound h
      · by_cases h3 : ((bu s (a + i)).toNat = 0 ∧ 0 < i) ∨ 1000000000 < n + (bu s (a + i)).toNat % 128 * u
        · rw [rvL_no h1 h2 h3] at h; cases h
        · rw [rvL_yes h1 h2 h3] at h
          obtain ⟨rfl, rfl⟩ := Prod.mk.inj (Option.some.inj h)
          exact ⟨by omega, by omega, by omega⟩
    · rw [rvL_out h1] at h; cases h
theorem rvO_bound {s : ByteArray} {at_ : Int} {m x : Nat} (h : rvO s at_ = some (m, x)) : m ≤ 1000000000 ∧ 0 ≤ at_ ∧ at_ < x ∧ x ≤ s.size := by
  unfold rvO at h
  split at h
  · rename_i hc
    have := rvL_bound h
    omega
  · cases h
theorem pow128 {i : Nat} (h : i < 5) : 128 ^ i ≤ 268435456 := Nat.le_trans (Nat.pow_le_pow_right (by decide) (show i ≤ 4 by omega)) (by decide)
theorem readVarI_ok (s : ByteArray) (hs : s.size ≤ 140737488355328) (at_ : Int) : PureFn Try.prog 85 [st s, i64 at_] (rvX (rvO s at_)) := by
  refine PureFn_of_Go Try.func85 rfl (by decide) mo (by decide +kernel) ?_
  by_cases h0 : at_ < 0
  · have hr : rvO s at_ = none := if_neg (by omega)
    simp only [Try.ntmps85, Try.results85, push_cast, seval, h0, hr, rvX]
  by_cases h1 : (s.size : Int) < at_
  · have hr : rvO s at_ = none := if_neg (by omega)
    simp only [Try.ntmps85, Try.results85, push_cast, seval, h0, h1, hr, rvX]
  obtain ⟨a, rfl⟩ := Int.eq_ofNat_of_zero_le (show 0 ≤ at_ by omega)
  have hrv : rvO s a = rvL s a 5 0 0 1 := if_pos (by omega)
  obtain ⟨r, hr⟩ : ∃ r, r = rvO s a := ⟨_, rfl⟩
  rw [← hr] at hrv ⊢
  simp only [Try.ntmps85, Try.results85, push_cast, seval, h0, h1]
  refine Go_loop (α := {p : Nat × Nat × Nat // p.2.2 = 128 ^ p.1 ∧ p.2.1 < p.2.2 ∧ p.1 ≤ 5 ∧ r = rvL s a (5 - p.1) p.1 p.2.1 p.2.2})
    (fun p => ⟨tp 62 [(0, .x (st s)), (1, int a), (7, int p.1.2.1), (8, int p.1.2.2), (9, int p.1.1)], 0, [], []⟩) (fun p => 5 - p.1.1) ⟨(0, 0, 1), rfl, by simp, by simp, hrv⟩ ?_ ?_
  · exact Weak.same (by simp only [push_cast, seval, Int.ofNat_zero, Int.ofNat_one])
  · rintro ⟨⟨i, n, u⟩, hu, hnu, hi, hri⟩ X hX
    simp only at hu hnu hi hri
    by_cases c5 : (i : Int) < 5
    · have hu4 : u ≤ 268435456 := by rw [hu]; exact pow128 (by omega)
      obtain ⟨k, hk⟩ : ∃ k, 5 - i = k + 1 := ⟨4 - i, by omega⟩
      rw [hk] at hri
      obtain ⟨j, hj⟩ : ∃ j, j = a + i := ⟨_, rfl⟩
      have wa : IntKind.i64.wrap ((a : Int) + (i : Int)) = (j : Int) := wN (by omega) (by omega)
      by_cases c1 : (j : Int) < (s.size : Int)
      · have hjs : j < s.size := by omega
        have hb := bu_get hjs
        have hb256 := u8_lt (bu s j)
        obtain ⟨b, hbb⟩ : ∃ b, b = (bu s j).toNat := ⟨_, rfl⟩
        rw [← hbb] at hb256
        have hcv : IntKind.i64.wrap ((bu s j).toNat : Int) = (b : Int) := wN (by omega) (by omega)
        have hrem := tmodN b 128
        rw [show ((128 : Nat) : Int) = 128 from rfl] at hrem
        obtain ⟨q, hq⟩ : ∃ q, q = b % 128 := ⟨_, rfl⟩
        rw [← hq] at hrem
        have hqu : q * u ≤ 127 * u := Nat.mul_le_mul_right _ (by omega)
        have hw1 : IntKind.i64.wrap ((q : Int) * (u : Int)) = ((q * u : Nat) : Int) := wN (by rw [Int.natCast_mul]) (by omega)
        obtain ⟨m, hm⟩ : ∃ m, m = q * u := ⟨_, rfl⟩
        rw [← hm] at hw1 hqu
        have hw2 : IntKind.i64.wrap ((n : Int) + (m : Int)) = ((n + m : Nat) : Int) := wN (by rw [Int.natCast_add]) (by omega)
        obtain ⟨n', hn'⟩ : ∃ n', n' = n + m := ⟨_, rfl⟩
        rw [← hn'] at hw2
        have hw3 : IntKind.i64.wrap ((u : Int) * 128) = ((u * 128 : Nat) : Int) := wN (by rw [Int.natCast_mul]; rfl) (by omega)
        obtain ⟨u', hu'⟩ : ∃ u', u' = u * 128 := ⟨_, rfl⟩
        rw [← hu'] at hw3
        have hw4 : IntKind.i64.wrap ((i : Int) + 1) = ((i + 1 : Nat) : Int) := wN (by omega) (by omega)
        obtain ⟨i', hi'⟩ : ∃ i', i' = i + 1 := ⟨_, rfl⟩
        rw [← hi'] at hw4
        have hw5 : IntKind.i64.wrap ((j : Int) + 1) = ((j + 1 : Nat) : Int) := wN (by omega) (by omega)
        obtain ⟨j', hj'⟩ : ∃ j', j' = j + 1 := ⟨_, rfl⟩
        rw [← hj'] at hw5
        have hnn : n + (bu s (a + i)).toNat % 128 * u = n' := by rw [hn', hm, hq, hbb, hj]
        have hbe : (bu s (a + i)).toNat = b := by rw [hbb, hj]
        by_cases c2 : (128 : Int) ≤ (b : Int)
        · have hgo := rvL_go (k := k) (n := n) (u := u) (show a + i < s.size by omega) (by rw [hbe]; omega)
          rw [← hri, hnn, ← hu', ← hi', show k = 5 - i' by omega] at hgo
          simp only [push_cast, seval, c5, wa, c1, hb, hcv, hrem, hw1, hw2, hw3, c2, hw4]
          refine ⟨_, ?_, hX ⟨(i', n', u'), ?_, ?_, ?_, hgo⟩ (by simp only; omega)⟩
          · exact Weak.same (by simp only [push_cast, seval])
          · show u' = 128 ^ i'; rw [hi', Nat.pow_succ, hu', hu]
          · show n' < u'; omega
          · show i' ≤ 5; omega
        · have hbl : ¬ 128 ≤ (bu s (a + i)).toNat := by rw [hbe]; omega
          cases c3 : decide ((b : Int) = 0) with
          | true =>
            have e3 := of_decide_eq_true c3
            by_cases c4 : (0 : Int) < (i : Int)
            · have hno := rvL_no (k := k) (n := n) (u := u) (show a + i < s.size by omega) hbl (.inl ⟨by omega, by omega⟩)
              rw [← hri] at hno
              simp only [Try.ntmps85, Try.results85, push_cast, seval, c5, wa, c1, hb, hcv, hrem, hw1, hw2, hw3, c2, c3, c4, hno, rvX]
            · by_cases c6 : (1000000000 : Int) < (n' : Int)
              · have hno := rvL_no (k := k) (n := n) (u := u) (show a + i < s.size by omega) hbl (.inr (by rw [hnn]; omega))
                rw [← hri] at hno
                simp only [Try.ntmps85, Try.results85, push_cast, seval, c5, wa, c1, hb, hcv, hrem, hw1, hw2, hw3, c2, c3, c4, c6, hno, rvX]
              · have hyes := rvL_yes (k := k) (n := n) (u := u) (show a + i < s.size by omega) hbl (by rw [hnn]; omega)
                rw [← hri, hnn, ← hj, ← hj'] at hyes
                simp only [Try.ntmps85, Try.results85, push_cast, seval, c5, wa, c1, hb, hcv, hrem, hw1, hw2, hw3, c2, c3, c4, c6, hw5, hyes, rvX]
          | false =>
            have e3 := of_decide_eq_false c3
            by_cases c6 : (1000000000 : Int) < (n' : Int)
            · have hno := rvL_no (k := k) (n := n) (u := u) (show a + i < s.size by omega) hbl (.inr (by rw [hnn]; omega))
              rw [← hri] at hno
              simp only [Try.ntmps85, Try.results85, push_cast, seval, c5, wa, c1, hb, hcv, hrem, hw1, hw2, hw3, c2, c3, c6, hno, rvX]
            · have hyes := rvL_yes (k := k) (n := n) (u := u) (show a + i < s.size by omega) hbl (by rw [hnn]; omega)
              rw [← hri, hnn, ← hj, ← hj'] at hyes
              simp only [Try.ntmps85, Try.results85, push_cast, seval, c5, wa, c1, hb, hcv, hrem, hw1, hw2, hw3, c2, c3, c6, hw5, hyes, rvX]
      · have hno := rvL_out (k := k + 1) (n := n) (u := u) (show ¬ a + i < s.size by omega)
        rw [← hri] at hno
        simp only [Try.ntmps85, Try.results85, push_cast, seval, c5, wa, c1, hno, rvX]
    · have hno : r = none := by rw [hri, show 5 - i = 0 by omega]; rfl
      simp only [Try.ntmps85, Try.results85, push_cast, seval, c5, hno, rvX]
end Go.Proofs.Ythhgmnpodgmlkaa
namespace Go.Proofs.Ythhgmnpodgmlkaa
open Go.RowKit Go.Rx
set_option linter.unusedSimpArgs false
set_option maxRecDepth 100000
def seg (s : ByteArray) (a k : Nat) : List UInt8 := (s.data.toList.drop a).take k
theorem seg_zero (s : ByteArray) (a : Nat) : seg s a 0 = [] := by simp [seg]
theorem seg_succ {s : ByteArray} {a k : Nat} (h : a + k < s.size) : seg s a (k + 1) = seg s a k ++ [bu s (a + k)] := by
  unfold seg
  have h2 : a + k < s.data.toList.length := by rw [Array.length_toList]; exact h
  rw [List.take_add_one, List.getElem?_drop, List.getElem?_eq_getElem h2]
  simp only [bu, List.getD_eq_getElem?_getD, List.getElem?_eq_getElem h2, Option.getD_some, Option.toList_some]
theorem extract_list (s : ByteArray) (a b : Nat) : (s.extract a b).data.toList = seg s a (b - a) := by
  rw [ByteArray.data_extract, Array.toList_extract, List.extract_eq_take_drop]; rfl
theorem bytes_ext {x y : ByteArray} (h : x.data.toList = y.data.toList) : x = y := by
  cases x; cases y; simp only at h; congr; exact Array.toList_inj.1 h
theorem varB_list (n : Nat) : (varB n).data.toList = varL n := rfl
def val (l : List UInt8) : Nat := l.foldr (fun b v => b.toNat % 128 + 128 * v) 0
end Go.Proofs.Ythhgmnpodgmlkaa
namespace Go.Proofs.Ythhgmnpodgmlkaa
open Go.RowKit Go.Rx
set_option linter.unusedSimpArgs false
set_option maxRecDepth 100000
def sc (s : ByteArray) (a : Nat) (b : Bool) : List Value := [.string s, .int .i64 a, .bool b]
def numN (s : ByteArray) (a : Nat) (b : Bool) : Nat := if b then 0 else match rvO s a with | some (n, _) => n | none => 0
def numA (s : ByteArray) (a : Nat) (b : Bool) : Nat := if b then a else match rvO s a with | some (_, x) => x | none => a
def numB (s : ByteArray) (a : Nat) (b : Bool) : Bool := if b then true else match rvO s a with | some _ => false | none => true
theorem number_ok (s : ByteArray) (hs : s.size ≤ 140737488355328) (a : Nat) (b : Bool) : IoFn Try.prog 37 .box 3 [sc s a b] [] [sc s (numA s a b) (numB s a b)] [i64 (numN s a b)] := by
  refine IoFn_of_Go Try.func37 rfl (by decide) mo (by decide +kernel) (ioOk_box rfl) (ioOk_box rfl) rfl rfl ?_
  have k := readVarI_ok s hs a
  cases b with
  | true =>
    cases hr : rvO s a with
    | none =>
      rw [hr] at k
      simp only [Try.ntmps37, Try.results37, push_cast, seval, sc, numA, numB, numN, hr]
      refine GoD_call rfl rfl k rfl rfl ?_
      simp only [Try.ntmps37, Try.results37, push_cast, seval, rvX, sc, numA, numB, numN, hr]
    | some p =>
      obtain ⟨n, x⟩ := p
      rw [hr] at k
      simp only [Try.ntmps37, Try.results37, push_cast, seval, sc, numA, numB, numN, hr]
      refine GoD_call rfl rfl k rfl rfl ?_
      simp only [Try.ntmps37, Try.results37, push_cast, seval, rvX, sc, numA, numB, numN, hr]
  | false =>
    cases hr : rvO s a with
    | none =>
      rw [hr] at k
      simp only [Try.ntmps37, Try.results37, push_cast, seval, sc, numA, numB, numN, hr]
      refine GoD_call rfl rfl k rfl rfl ?_
      simp only [Try.ntmps37, Try.results37, push_cast, seval, rvX, sc, numA, numB, numN, hr]
    | some p =>
      obtain ⟨n, x⟩ := p
      rw [hr] at k
      simp only [Try.ntmps37, Try.results37, push_cast, seval, sc, numA, numB, numN, hr]
      refine GoD_call rfl rfl k rfl rfl ?_
      simp only [Try.ntmps37, Try.results37, push_cast, seval, rvX, sc, numA, numB, numN, hr]
def takeOk (s : ByteArray) (a : Nat) (b : Bool) (n : Nat) : Bool := !b && decide (a + n ≤ s.size)
def takeT (s : ByteArray) (a : Nat) (b : Bool) (n : Nat) : ByteArray := if takeOk s a b n then s.extract a (a + n) else ⟨#[]⟩
def takeA (s : ByteArray) (a : Nat) (b : Bool) (n : Nat) : Nat := if takeOk s a b n then a + n else a
def takeB (s : ByteArray) (a : Nat) (b : Bool) (n : Nat) : Bool := !takeOk s a b n
theorem take_ok (s : ByteArray) (hs : s.size ≤ 140737488355328) (a : Nat) (ha : a ≤ s.size) (b : Bool) (n : Nat) (hn : n ≤ 140737488355328) : IoFn Try.prog 36 .box 3 [sc s a b] [i64 n] [sc s (takeA s a b n) (takeB s a b n)] [st (takeT s a b n)] := by
  refine IoFn_of_Go Try.func36 rfl (by decide) mo (by decide +kernel) (ioOk_box rfl) (ioOk_box rfl) rfl rfl ?_
  have w1 : IntKind.i64.wrap ((s.size : Int) - (a : Int)) = ((s.size - a : Nat) : Int) := wN (by omega) (by omega)
  obtain ⟨r, hr⟩ : ∃ r, r = s.size - a := ⟨_, rfl⟩
  rw [← hr] at w1
  have w2 : IntKind.i64.wrap ((a : Int) + (n : Int)) = ((a + n : Nat) : Int) := wN (by omega) (by omega)
  obtain ⟨x, hx⟩ : ∃ x, x = a + n := ⟨_, rfl⟩
  rw [← hx] at w2
  have w3 : IntKind.i64.wrap ((x : Int) - (n : Int)) = (a : Int) := wN (by omega) (by omega)
  cases b with
  | true =>
    have ho : takeOk s a true n = false := rfl
    simp only [Try.ntmps36, Try.results36, push_cast, seval, sc, takeT, takeA, takeB, ho]
  | false =>
    by_cases c : (r : Int) < (n : Int)
    · have ho : takeOk s a false n = false := by simp [takeOk]; omega
      simp only [Try.ntmps36, Try.results36, push_cast, seval, sc, takeT, takeA, takeB, ho, w1, c]
    · have ho : takeOk s a false n = true := by simp [takeOk]; omega
      have h1 : a ≤ x := by omega
      have h2 : x ≤ s.size := by omega
      simp only [Try.ntmps36, Try.results36, push_cast, seval, sc, takeT, takeA, takeB, ho, w1, c, w2, w3, h1, h2, ← hx]
end Go.Proofs.Ythhgmnpodgmlkaa
namespace Go.Proofs.Ythhgmnpodgmlkaa
open Go.RowKit Go.Rx
set_option linter.unusedSimpArgs false
set_option maxRecDepth 100000
def strs (xs : List ByteArray) : List (List Value) := xs.map fun x => [.string x]
def ints (xs : List Int) : List (List Value) := xs.map fun x => [.int .i64 x]
theorem strs_length (xs : List ByteArray) : (strs xs).length = xs.length := by simp [strs]
theorem ints_length (xs : List Int) : (ints xs).length = xs.length := by simp [ints]
theorem strs_getD (xs : List ByteArray) {i : Nat} (h : i < xs.length) : (strs xs).getD i [] = [.string (xs.getD i default)] := by
  simp [strs, List.getD_eq_getElem?_getD, List.getElem?_map, List.getElem?_eq_getElem h]
theorem ints_getD (xs : List Int) {i : Nat} (h : i < xs.length) : (ints xs).getD i [] = [.int .i64 (xs.getD i default)] := by
  simp [ints, List.getD_eq_getElem?_getD, List.getElem?_map, List.getElem?_eq_getElem h]
theorem wsucc {i n : Nat} (h : i < n) (hn : n ≤ 140737488355328) : IntKind.i64.wrap ((i : Int) + 1) = ((i + 1 : Nat) : Int) := by rw [IntKind.wrap_i64]; omega
def digB (n : Nat) : ByteArray := if n = 0 then ⟨#[]⟩ else digB (n / 10) ++ ⟨[UInt8.ofNat (48 + n % 10)].toArray⟩
termination_by n
decreasing_by omega
theorem digB_zero : digB 0 = ⟨#[]⟩ := by rw [digB, if_pos rfl]
theorem digB_pos {n : Nat} (h : n ≠ 0) : digB n = digB (n / 10) ++ ⟨[UInt8.ofNat (48 + n % 10)].toArray⟩ := by rw [digB, if_neg h]
theorem empty_append (b : ByteArray) : (⟨#[]⟩ : ByteArray) ++ b = b := bytes_ext (by simp [ByteArray.data_append])
end Go.Proofs.Ythhgmnpodgmlkaa
namespace Go.Proofs.Ythhgmnpodgmlkaa
open Go.RowKit Go.Rx
set_option linter.unusedSimpArgs false
set_option maxRecDepth 100000
end Go.Proofs.Ythhgmnpodgmlkaa
namespace Go.Proofs.Ythhgmnpodgmlkaa
open Go.RowKit Go.Rx
set_option linter.unusedSimpArgs false
set_option maxRecDepth 100000
theorem seg_len {s : ByteArray} {a k : Nat} (h : a + k ≤ s.size) : (seg s a k).length = k := by
  unfold seg
  have : s.data.toList.length = s.size := by rw [Array.length_toList]; rfl
  rw [List.length_take, List.length_drop, this]; omega
theorem varL_len (n : Nat) : (varL n).length ≤ n + 1 := by
  induction n using Nat.strongRecOn with
  | ind n ih =>
    by_cases h : n ≤ 127
    · rw [varL_small h]; simp
    · rw [varL_big h, List.length_cons]
      have := ih (n / 128) (by omega)
      omega
theorem varB_size (n : Nat) : (varB n).size ≤ n + 1 := by
  have := varL_len n
  show (varL n).toArray.size ≤ _
  simpa using this
theorem app_list (x y : ByteArray) : (x ++ y).data.toList = x.data.toList ++ y.data.toList := by rw [ByteArray.data_append, Array.toList_append]
end Go.Proofs.Ythhgmnpodgmlkaa
namespace Go.Proofs.Ythhgmnpodgmlkaa
open Go.RowKit Go.Rx
set_option linter.unusedSimpArgs false
set_option maxRecDepth 100000
theorem numA_le {s : ByteArray} {a : Nat} {b : Bool} (ha : a ≤ s.size) : numA s a b ≤ s.size := by
  unfold numA
  split
  · exact ha
  · cases h : rvO s a with
    | none => exact ha
    | some p => obtain ⟨n, x⟩ := p; exact (rvO_bound h).2.2.2
theorem takeA_le {s : ByteArray} {a : Nat} {b : Bool} {n : Nat} (ha : a ≤ s.size) : takeA s a b n ≤ s.size := by
  unfold takeA
  cases h : takeOk s a b n with
  | false => simpa using ha
  | true =>
    simp [takeOk] at h
    simp; exact h.2
def octN (s : ByteArray) (a : Nat) (b : Bool) : Nat := if takeOk s a b 1 then (bu s a).toNat else 0
theorem extract_one {s : ByteArray} {a : Nat} (h : a + 1 ≤ s.size) : s.extract a (a + 1) = ⟨[bu s a].toArray⟩ := by
  refine bytes_ext ?_
  rw [extract_list, show a + 1 - a = 0 + 1 by omega, seg_succ (by omega), seg_zero]; rfl
theorem octet_ok (s : ByteArray) (hs : s.size ≤ 140737488355328) (a : Nat) (ha : a ≤ s.size) (b : Bool) : IoFn Try.prog 38 .box 3 [sc s a b] [] [sc s (takeA s a b 1) (takeB s a b 1)] [i64 (octN s a b)] := by
  refine IoFn_of_Go Try.func38 rfl (by decide) mo (by decide +kernel) (ioOk_box rfl) (ioOk_box rfl) rfl rfl ?_
  have k := take_ok s hs a ha b 1 (by omega)
  simp only [Try.ntmps38, Try.results38, push_cast, seval, sc]
  refine GoL_io (0, 1) .box 3 [sc s a b] rfl rfl rfl rfl (.inl rfl) rfl k rfl rfl ?_
  obtain ⟨x, hx⟩ : ∃ x, x = takeA s a b 1 := ⟨_, rfl⟩
  obtain ⟨y, hy⟩ : ∃ y, y = takeB s a b 1 := ⟨_, rfl⟩
  rw [← hx, ← hy]
  cases ho : takeOk s a b 1 with
  | false =>
    have ht : takeT s a b 1 = ⟨#[]⟩ := by simp [takeT, ho]
    rw [ht]
    simp only [Try.ntmps38, Try.results38, push_cast, seval, sc, octN, ho, Bool.false_eq_true, Int.ofNat_zero]
  | true =>
    have hle : a + 1 ≤ s.size := by simp [takeOk] at ho; exact ho.2
    have ht : takeT s a b 1 = ⟨[bu s a].toArray⟩ := by simp only [takeT, ho, if_true]; exact extract_one hle
    rw [ht]
    obtain ⟨t, htt⟩ : ∃ t : ByteArray, t = ⟨[bu s a].toArray⟩ := ⟨_, rfl⟩
    rw [← htt]
    have hne : decide (t = ⟨#[]⟩) = false := by
      rw [htt]; apply decide_eq_false; intro h
      have := congrArg ByteArray.size h
      have h2 : (1 : Nat) = 0 := this
      omega
    have h0 : t[0]? = some (bu s a) := by rw [htt]; rfl
    have hw : IntKind.i64.wrap ((bu s a).toNat : Int) = ((bu s a).toNat : Int) := wN rfl (by have := u8_lt (bu s a); omega)
    have hi := index_str (P := Try.prog) (t := 9) t 0 .i64
    rw [show ((0 : Nat) : Int) = 0 from rfl, h0] at hi
    simp only [Try.ntmps38, Try.results38, push_cast, seval, sc, octN, ho, hne, hi, hw]
end Go.Proofs.Ythhgmnpodgmlkaa
namespace Go.Proofs.Ythhgmnpodgmlkaa
open Go.RowKit Go.Rx
set_option linter.unusedSimpArgs false
set_option maxRecDepth 100000
def inR (n a b : Int) : Bool := decide (a ≤ n) && decide (n ≤ b)
theorem inR_spec {n a b : Int} : inR n a b = true ↔ a ≤ n ∧ n ≤ b := by simp [inR]
theorem isTerm_ok (n : Int) : PureFn Try.prog 82 [i64 n] [bo (inR n 0 100000)] := by
  refine PureFn_of_Go Try.func82 rfl (by decide) mo (by decide +kernel) ?_
  simp only [Try.ntmps82, Try.results82, push_cast, seval]
  refine GoL_call rfl rfl (inRange_ok n 0 100000) rfl rfl ?_
  simp only [Try.ntmps82, Try.results82, push_cast, seval, inR]
theorem isNode_ok (n : Int) : PureFn Try.prog 87 [i64 n] [bo (inR n 1 4)] := by
  refine PureFn_of_Go Try.func87 rfl (by decide) mo (by decide +kernel) ?_
  simp only [Try.ntmps87, Try.results87, push_cast, seval]
  refine GoL_call rfl rfl (inRange_ok n 1 4) rfl rfl ?_
  simp only [Try.ntmps87, Try.results87, push_cast, seval, inR]
def at_ (l : List Int) (i : Nat) : Int := l.getD i default
def rise (l : List Int) (a b : Int) : Prop := ∀ i, i < l.length → a ≤ at_ l i ∧ at_ l i ≤ b ∧ (0 < i → at_ l (i - 1) < at_ l i)
instance (l : List Int) (a b : Int) : Decidable (rise l a b) := by unfold rise; infer_instance
theorem areNodes_ok (l : List Int) (hl : l.length ≤ 140737488355328) : PureFn Try.prog 43 [.one (.sh 1 (vR (ints l)))] [bo (decide (rise l 1 4))] := by
  refine PureFn_of_Go Try.func43 rfl (by decide) mo (by decide +kernel) ?_
  obtain ⟨r, hr⟩ : ∃ r, r = decide (rise l 1 4) := ⟨_, rfl⟩
  rw [← hr]
  simp only [Try.ntmps43, Try.results43, push_cast, seval, ints_length]
  refine Go_loop (α := {i : Nat // i ≤ l.length ∧ ∀ j, j < i → 1 ≤ at_ l j ∧ at_ l j ≤ 4 ∧ (0 < j → at_ l (j - 1) < at_ l j)})
    (fun i => ⟨tp 29 [(0, .x (.one (.sh 1 (vR (ints l))))), (5, .x (.one (.sh 1 (vR (ints l))))), (6, int l.length), (7, int i.1)], 0, [], []⟩) (fun i => l.length - i.1) ⟨0, by omega, fun j h => absurd h (Nat.not_lt_zero _)⟩ ?_ ?_
  · exact Weak.same (by simp only [push_cast, seval, Int.ofNat_zero])
  · rintro ⟨i, hi, hall⟩ X hX
    by_cases hlt : (i : Int) < (l.length : Int)
    · have hi' : i < l.length := by omega
      have ws := wsucc hi' hl
      have hg := ints_getD l hi'
      rw [show l.getD i default = at_ l i from rfl] at hg
      have kn := isNode_ok (at_ l i)
      obtain ⟨x, hx⟩ : ∃ x, x = at_ l i := ⟨_, rfl⟩
      rw [← hx] at hg kn
      obtain ⟨i', hi1⟩ : ∃ i', i' = i + 1 := ⟨_, rfl⟩
      rw [← hi1] at ws
      simp only [push_cast, seval, ints_length, hlt, hi', vR_getD, hg]
      refine GoL_call rfl rfl kn rfl rfl ?_
      cases c1 : inR x 1 4 with
      | false =>
        have hf : r = false := by
          rw [hr]; apply decide_eq_false
          intro h
          have := h i hi'
          have h2 : inR x 1 4 = true := inR_spec.2 ⟨by rw [hx]; exact this.1, by rw [hx]; exact this.2.1⟩
          rw [h2] at c1; cases c1
        subst hf
        simp only [Try.ntmps43, Try.results43, push_cast, seval]
      | true =>
        have hin := inR_spec.1 c1
        by_cases c2 : (0 : Int) < (i : Int)
        · have hpi : i - 1 < l.length := by omega
          have hgp := ints_getD l hpi
          rw [show l.getD (i - 1) default = at_ l (i - 1) from rfl] at hgp
          have wp : IntKind.i64.wrap ((i : Int) - 1) = ((i - 1 : Nat) : Int) := wN (by omega) (by omega)
          obtain ⟨p, hp⟩ : ∃ p, p = i - 1 := ⟨_, rfl⟩
          rw [← hp] at hgp wp hpi
          obtain ⟨y, hy⟩ : ∃ y, y = at_ l p := ⟨_, rfl⟩
          rw [← hy] at hgp
          have hpl : (p : Int) < (l.length : Int) := by omega
          by_cases c3 : x ≤ y
          · have hf : r = false := by
              rw [hr]; apply decide_eq_false
              intro h
              have := (h i hi').2.2 (by omega)
              rw [← hp, ← hy, ← hx] at this; omega
            subst hf
            simp only [Try.ntmps43, Try.results43, push_cast, seval, ints_length, c2, wp, hpi, hpl, vR_getD, hgp, c3]
          · simp only [push_cast, seval, ints_length, c2, wp, hpi, hpl, vR_getD, hgp, c3, ws]
            refine ⟨_, ?_, hX ⟨i', by omega, fun j hj => ?_⟩ (by simp only; omega)⟩
            · exact Weak.same (by simp only [push_cast, seval])
            · by_cases e : j = i
              · subst e
                exact ⟨by rw [← hx]; exact hin.1, by rw [← hx]; exact hin.2, fun _ => by rw [← hp, ← hy, ← hx]; omega⟩
              · exact hall j (by omega)
        · simp only [push_cast, seval, ints_length, c2, ws]
          refine ⟨_, ?_, hX ⟨i', by omega, fun j hj => ?_⟩ (by simp only; omega)⟩
          · exact Weak.same (by simp only [push_cast, seval])
          · by_cases e : j = i
            · subst e
              exact ⟨by rw [← hx]; exact hin.1, by rw [← hx]; exact hin.2, fun h0 => by omega⟩
            · exact hall j (by omega)
    · have ht : r = true := by
        rw [hr]; apply decide_eq_true
        intro j hj; exact hall j (by omega)
      subst ht
      simp only [Try.ntmps43, Try.results43, push_cast, seval, hlt]
theorem l05Rise_ok (l : List Int) (hl : l.length ≤ 140737488355328) (a b : Int) : PureFn Try.prog 42 [.one (.sh 1 (vR (ints l))), i64 a, i64 b] [bo (decide (rise l a b))] := by
  refine PureFn_of_Go Try.func42 rfl (by decide) mo (by decide +kernel) ?_
  obtain ⟨r, hr⟩ : ∃ r, r = decide (rise l a b) := ⟨_, rfl⟩
  rw [← hr]
  simp only [Try.ntmps42, Try.results42, push_cast, seval, ints_length]
  refine Go_loop (α := {i : Nat // i ≤ l.length ∧ ∀ j, j < i → a ≤ at_ l j ∧ at_ l j ≤ b ∧ (0 < j → at_ l (j - 1) < at_ l j)})
    (fun i => ⟨tp 38 [(0, .x (.one (.sh 1 (vR (ints l))))), (1, .x (i64 a)), (2, .x (i64 b)), (7, int i.1)], 0, [], []⟩) (fun i => l.length - i.1) ⟨0, by omega, fun j h => absurd h (Nat.not_lt_zero _)⟩ ?_ ?_
  · exact Weak.same (by simp only [push_cast, seval, Int.ofNat_zero])
  · rintro ⟨i, hi, hall⟩ X hX
    by_cases hlt : (i : Int) < (l.length : Int)
    · have hi' : i < l.length := by omega
      have ws := wsucc hi' hl
      have hg := ints_getD l hi'
      rw [show l.getD i default = at_ l i from rfl] at hg
      have kn := l01In_ok (at_ l i) a b
      obtain ⟨x, hx⟩ : ∃ x, x = at_ l i := ⟨_, rfl⟩
      rw [← hx] at hg kn
      obtain ⟨i', hi1⟩ : ∃ i', i' = i + 1 := ⟨_, rfl⟩
      rw [← hi1] at ws
      simp only [push_cast, seval, ints_length, hlt, hi', vR_getD, hg]
      refine GoD_call rfl rfl kn rfl rfl ?_
      rw [show (decide (a ≤ x) && decide (x ≤ b)) = inR x a b from rfl]
      cases c1 : inR x a b with
      | false =>
        have hf : r = false := by
          rw [hr]; apply decide_eq_false
          intro h
          have := h i hi'
          have h2 : inR x a b = true := inR_spec.2 ⟨by rw [hx]; exact this.1, by rw [hx]; exact this.2.1⟩
          rw [h2] at c1; cases c1
        subst hf
        simp only [Try.ntmps42, Try.results42, push_cast, seval]
      | true =>
        have hin := inR_spec.1 c1
        by_cases c2 : (0 : Int) < (i : Int)
        · have hpi : i - 1 < l.length := by omega
          have hgp := ints_getD l hpi
          rw [show l.getD (i - 1) default = at_ l (i - 1) from rfl] at hgp
          have wp : IntKind.i64.wrap ((i : Int) - 1) = ((i - 1 : Nat) : Int) := wN (by omega) (by omega)
          obtain ⟨p, hp⟩ : ∃ p, p = i - 1 := ⟨_, rfl⟩
          rw [← hp] at hgp wp hpi
          obtain ⟨y, hy⟩ : ∃ y, y = at_ l p := ⟨_, rfl⟩
          rw [← hy] at hgp
          have hpl : (p : Int) < (l.length : Int) := by omega
          by_cases c3 : x ≤ y
          · have hf : r = false := by
              rw [hr]; apply decide_eq_false
              intro h
              have := (h i hi').2.2 (by omega)
              rw [← hp, ← hy, ← hx] at this; omega
            subst hf
            simp only [Try.ntmps42, Try.results42, push_cast, seval, ints_length, hlt, hi', hg, c2, wp, hpi, hpl, vR_getD, hgp, c3]
          · simp only [push_cast, seval, ints_length, hlt, hi', hg, c2, wp, hpi, hpl, vR_getD, hgp, c3, ws]
            refine ⟨_, ?_, hX ⟨i', by omega, fun j hj => ?_⟩ (by simp only; omega)⟩
            · exact Weak.same (by simp only [push_cast, seval])
            · by_cases e : j = i
              · subst e
                exact ⟨by rw [← hx]; exact hin.1, by rw [← hx]; exact hin.2, fun _ => by rw [← hp, ← hy, ← hx]; omega⟩
              · exact hall j (by omega)
        · simp only [push_cast, seval, ints_length, c2, ws]
          refine ⟨_, ?_, hX ⟨i', by omega, fun j hj => ?_⟩ (by simp only; omega)⟩
          · exact Weak.same (by simp only [push_cast, seval])
          · by_cases e : j = i
            · subst e
              exact ⟨by rw [← hx]; exact hin.1, by rw [← hx]; exact hin.2, fun h0 => by omega⟩
            · exact hall j (by omega)
    · have ht : r = true := by
        rw [hr]; apply decide_eq_true
        intro j hj; exact hall j (by omega)
      subst ht
      simp only [Try.ntmps42, Try.results42, push_cast, seval, hlt, ints_length]
def confB (l : List Int) : Bool := decide ((0 : Int) < (l.length : Int)) && decide (rise l 1 4)
theorem rise_len {l : List Int} (h : rise l 1 4) : l.length ≤ 4 := by
  have key : ∀ i, i < l.length → (i : Int) + 1 ≤ at_ l i := by
    intro i
    induction i with
    | zero => intro hi; have := (h 0 hi).1; omega
    | succ i ih =>
      intro hi
      have h1 := ih (by omega)
      have h2 := (h (i + 1) hi).2.2 (by omega)
      rw [Nat.add_sub_cancel] at h2
      omega
  rcases Nat.lt_or_ge 4 l.length with h4 | h4
  · have h1 := key 4 h4
    have h2 := (h 4 h4).2.1
    omega
  · exact h4
theorem confOkI_ok (l : List Int) (hl : l.length ≤ 140737488355328) : PureFn Try.prog 15 [.one (.sh 1 (vR (ints l)))] [bo (confB l)] := by
  refine PureFn_of_Go Try.func15 rfl (by decide) mo (by decide +kernel) ?_
  have k := areNodes_ok l hl
  unfold confB
  by_cases c : (0 : Int) < (l.length : Int)
  · simp only [Try.ntmps15, Try.results15, push_cast, seval, ints_length, c]
    refine GoL_call rfl rfl k rfl rfl ?_
    simp only [Try.ntmps15, Try.results15, push_cast, seval, ints_length, c]
  · simp only [Try.ntmps15, Try.results15, push_cast, seval, ints_length, c]
theorem confOkS_ok (l : List Int) (hl : l.length ≤ 140737488355328) : PureFn Try.prog 13 [.one (.sh 1 (vR (ints l)))] [bo (confB l)] := by
  refine PureFn_of_Go Try.func13 rfl (by decide) mo (by decide +kernel) ?_
  have k1 := l01In_ok l.length 1 4
  have k2 := l05Rise_ok l hl 1 4
  simp only [Try.ntmps13, Try.results13, push_cast, seval, ints_length]
  refine GoL_call rfl rfl k1 rfl rfl ?_
  rw [show (decide ((1 : Int) ≤ (l.length : Int)) && decide ((l.length : Int) ≤ 4)) = inR l.length 1 4 from rfl]
  cases c : inR l.length 1 4 with
  | true =>
    have hc := inR_spec.1 c
    have h0 : (0 : Int) < (l.length : Int) := by omega
    simp only [Try.ntmps13, Try.results13, push_cast, seval, confB, h0]
    refine GoL_call rfl rfl k2 rfl rfl ?_
    simp only [Try.ntmps13, Try.results13, push_cast, seval, confB, h0]
  | false =>
    have hb : confB l = false := by
      cases hb : confB l with
      | false => rfl
      | true =>
        simp only [confB, Bool.and_eq_true, decide_eq_true_eq] at hb
        have := rise_len hb.2
        have h2 : inR l.length 1 4 = true := inR_spec.2 ⟨by omega, by omega⟩
        rw [h2] at c; cases c
    simp only [Try.ntmps13, Try.results13, push_cast, seval, hb]
def natsL (s : ByteArray) : List Int := s.data.toList.map fun b => (b.toNat : Int)
theorem natsL_length (s : ByteArray) : (natsL s).length = s.size := by simp [natsL]
theorem natsL_take (s : ByteArray) {i : Nat} (h : i < s.size) : (natsL s).take (i + 1) = (natsL s).take i ++ [((bu s i).toNat : Int)] := by
  have h2 : i < s.data.toList.length := by rw [Array.length_toList]; exact h
  have h3 : i < (natsL s).length := by rw [natsL_length]; exact h
  rw [List.take_add_one, List.getElem?_eq_getElem h3]
  simp [natsL, bu, List.getD_eq_getElem?_getD, List.getElem?_eq_getElem h2]
theorem byR_getD (s : ByteArray) {i : Nat} (h : i < s.size) : (byR s.data.toList).getD i [] = [.v (.int .u8 ((bu s i).toNat : Int))] := by
  have h2 : i < s.data.toList.length := by rw [Array.length_toList]; exact h
  simp [byR, bu, List.getD_eq_getElem?_getD, List.getElem?_map, List.getElem?_eq_getElem h2]
theorem numbers_ok (s : ByteArray) (hs : s.size ≤ 1000000) : PureFn Try.prog 41 [st s] [.one (.own 1 (vR (ints (natsL s))))] := by
  refine PureFn_of_Go Try.func41 rfl (by decide) mo (by decide +kernel) ?_
  have h1 : s.size ≤ 281474976710656 := by omega
  have hbl : (byR s.data.toList).length = s.size := by rw [byR_length, Array.length_toList]; rfl
  obtain ⟨F, hF⟩ : ∃ F, F = natsL s := ⟨_, rfl⟩
  rw [← hF]
  simp only [Try.ntmps41, Try.results41, push_cast, seval, h1, byteRows_byR]
  refine Go_loop (α := {i : Nat // i ≤ s.size})
    (fun i => ⟨tp 20 [(3, .x (.one (.rs (0, 1088) [] 1 0 i.1))), (7, .x (.one (.rs (0, 448) [] 1 0 s.size))), (8, int s.size), (9, int i.1)], 0, [((0, 1088), ⟨.sl, 1, vR (ints (F.take i.1))⟩), ((0, 448), ⟨.sl, 1, byR s.data.toList⟩)], []⟩) (fun i => s.size - i.1) ⟨0, Nat.zero_le _⟩ ?_ ?_
  · refine Weak.trans (Weak.nilRoot (0, 1088) 1 3 rfl rfl rfl) ?_
    simp only [push_cast, seval, ints, List.map_nil, List.take_zero]
    exact Weak.same (by simp only [push_cast, seval, Int.ofNat_zero])
  · rintro ⟨i, hi⟩ X hX
    have hll : (ints (F.take i)).length = i := by rw [ints_length, List.length_take, hF, natsL_length]; omega
    by_cases hlt : (i : Int) < (s.size : Int)
    · have hi' : i < s.size := by omega
      have ws := wsucc hi' (by omega)
      have hg := byR_getD s hi'
      have hw : IntKind.i64.wrap ((bu s i).toNat : Int) = ((bu s i).toNat : Int) := wN rfl (by have := u8_lt (bu s i); omega)
      have a0 : i + 1 ≤ 4294967296 := by omega
      have a1 := max_len a0
      have a2 := room_le (b := 8) a0 (by decide)
      have s1 := vR_snoc (ints (F.take i)) [.int .i64 ((bu s i).toNat : Int)]
      have e1 : ints (F.take i) ++ [[Value.int .i64 ((bu s i).toNat : Int)]] = ints (F.take (i + 1)) := by rw [hF, natsL_take s hi']; simp [ints]
      rw [e1] at s1
      simp only [List.map_cons, List.map_nil] at s1
      obtain ⟨i', hi1⟩ : ∃ i', i' = i + 1 := ⟨_, rfl⟩
      rw [← hi1] at ws s1
      simp only [push_cast, seval, hlt, hi', hbl, hg, hw, hll, a1, a2, s1, ws, flatRows, flatRow]
      refine ⟨_, ?_, hX ⟨i', by omega⟩ (by simp only; omega)⟩
      exact Weak.drop (by simp only [push_cast, seval, hi1]) (by simp only [push_cast, seval, hi1]) (by simp only [push_cast, seval, hi1])
    · have hie : i = s.size := by omega
      have hfin : F.take i = F := List.take_of_length_le (by rw [hF, natsL_length, hie]; exact Nat.le_refl _)
      rw [hfin] at hll
      simp only [hfin]
      simp only [Try.ntmps41, Try.results41, push_cast, seval, hlt, hll]
end Go.Proofs.Ythhgmnpodgmlkaa
namespace Go.Proofs.Ythhgmnpodgmlkaa
open Go.RowKit Go.Rx
set_option linter.unusedSimpArgs false
set_option maxRecDepth 100000
def rcB (s : ByteArray) : Bool := decide ((s.size : Int) ≤ 4) && confB (natsL s)
def rcX (s : ByteArray) : List X := if rcB s then [.one (.own 1 (vR (ints (natsL s)))), bo true] else [.one (.own 1 []), bo false]
theorem readConfI_ok (s : ByteArray) (hs : s.size ≤ 140737488355328) : PureFn Try.prog 12 [st s] (rcX s) := by
  refine PureFn_of_GoW Try.func12 rfl (by decide) mo (by decide +kernel) ?_
  by_cases c : (4 : Int) < (s.size : Int)
  · have hb : rcB s = false := by
      simp only [rcB]; rw [decide_eq_false (by omega), Bool.false_and]
    simp only [rcX, hb, Bool.false_eq_true, if_false]
    simp only [Try.ntmps12, Try.results12, push_cast, seval, c]
    refine ⟨_, Weak.nilRoot (0, 1) 1 2 rfl rfl rfl, ?_⟩
    simp only [Try.ntmps12, Try.results12, push_cast, seval]
  · have h4 : (s.size : Int) ≤ 4 := by omega
    have k := numbers_ok s (by omega)
    have k2 := confOkI_ok (natsL s) (by rw [natsL_length]; omega)
    have hl : (ints (natsL s)).length = s.size := by rw [ints_length, natsL_length]
    have ht : (vR (ints (natsL s))).take s.size = vR (ints (natsL s)) := List.take_of_length_le (by rw [vR_length, hl]; exact Nat.le_refl _)
    have hb : rcB s = confB (natsL s) := by simp only [rcB]; rw [decide_eq_true h4, Bool.true_and]
    simp only [Try.ntmps12, Try.results12, push_cast, seval, c]
    refine GoL_call rfl rfl k (by simp only [push_cast, seval]) rfl ?_
    simp only [Try.ntmps12, Try.results12, push_cast, seval, hl]
    refine GoL_call rfl (by simp only [push_cast, seval, ht]) k2 rfl rfl ?_
    cases c2 : confB (natsL s) with
    | true =>
      have hb2 := hb.trans c2
      simp only [rcX, hb2, if_true]
      simp only [Try.ntmps12, Try.results12, push_cast, seval]
      refine ⟨_, Weak.refl _, ?_⟩
      simp only [Try.ntmps12, Try.results12, push_cast, seval, hl]
    | false =>
      have hb2 := hb.trans c2
      simp only [rcX, hb2, Bool.false_eq_true, if_false]
      simp only [Try.ntmps12, Try.results12, push_cast, seval]
      refine ⟨_, Weak.nilRoot (0, 1) 1 2 rfl rfl rfl, ?_⟩
      simp only [Try.ntmps12, Try.results12, push_cast, seval]
theorem readConfS_ok (s : ByteArray) (hs : s.size ≤ 140737488355328) : PureFn Try.prog 84 [st s] (rcX s) := by
  refine PureFn_of_Go Try.func84 rfl (by decide) mo (by decide +kernel) ?_
  obtain ⟨F, hF⟩ : ∃ F, F = natsL s := ⟨_, rfl⟩
  have hFl : F.length = s.size := by rw [hF, natsL_length]
  obtain ⟨ret, hret⟩ : ∃ ret, ret = rcX s := ⟨_, rfl⟩
  rw [← hret]
  simp only [Try.ntmps84, Try.results84, push_cast, seval]
  refine Go_loop (α := {i : Nat // i ≤ s.size ∧ i ≤ 5})
    (fun i => ⟨tp 36 [(0, .x (st s)), (4, .x (.one (.rs (0, 1472) [] 1 0 i.1))), (5, int i.1)], 0, [((0, 1472), ⟨.sl, 1, vR (ints (F.take i.1))⟩)], []⟩) (fun i => s.size - i.1) ⟨0, Nat.zero_le _, by omega⟩ ?_ ?_
  · refine Weak.trans (Weak.rename (0, 384) (0, 1472) rfl rfl (by decide) rfl) ?_
    simp only [push_cast, seval, ints, List.map_nil, List.take_zero]
    exact Weak.same (by simp only [push_cast, seval, Int.ofNat_zero])
  · rintro ⟨i, hi, hi5⟩ X hX
    have hll : (ints (F.take i)).length = i := by rw [ints_length, List.length_take, hFl]; omega
    by_cases hlt : (i : Int) < (s.size : Int)
    · have hi' : i < s.size := by omega
      by_cases h4 : (i : Int) ≤ 4
      · have ws := wsucc hi' (by omega)
        have hb := bu_get hi'
        have hw : IntKind.i64.wrap ((bu s i).toNat : Int) = ((bu s i).toNat : Int) := wN rfl (by have := u8_lt (bu s i); omega)
        have a0 : i + 1 ≤ 4294967296 := by omega
        have a1 := max_len a0
        have a2 := room_le (b := 8) a0 (by decide)
        have s1 := vR_snoc (ints (F.take i)) [.int .i64 ((bu s i).toNat : Int)]
        have e1 : ints (F.take i) ++ [[Value.int .i64 ((bu s i).toNat : Int)]] = ints (F.take (i + 1)) := by rw [hF, natsL_take s hi']; simp [ints]
        rw [e1] at s1
        simp only [List.map_cons, List.map_nil] at s1
        obtain ⟨i', hi1⟩ : ∃ i', i' = i + 1 := ⟨_, rfl⟩
        rw [← hi1] at ws s1
        simp only [push_cast, seval, hlt, h4, hb, hw, hll, a1, a2, s1, ws, flatRows, flatRow]
        refine ⟨_, ?_, hX ⟨i', by omega, by omega⟩ (by simp only; omega)⟩
        exact Weak.drop (by simp only [push_cast, seval, hi1]) (by simp only [push_cast, seval, hi1]) (by simp only [push_cast, seval, hi1])
      · have hne : decide ((i : Int) = (s.size : Int)) = false := decide_eq_false (by omega)
        have hr : rcB s = false := by simp only [rcB]; rw [decide_eq_false (by omega), Bool.false_and]
        simp only [rcX, hr, Bool.false_eq_true, if_false] at hret
        subst hret
        simp only [Try.ntmps84, Try.results84, push_cast, seval, hlt, h4, decide_not, hne, hll]
    · have hie : i = s.size := by omega
      have hfin : F.take i = F := List.take_of_length_le (by rw [hFl, hie]; exact Nat.le_refl _)
      have heq : decide ((i : Int) = (s.size : Int)) = true := decide_eq_true (by omega)
      rw [hfin] at hll
      have k2 := confOkS_ok F (by rw [hFl]; omega)
      have ht : (vR (ints F)).take i = vR (ints F) := List.take_of_length_le (by rw [vR_length, hll]; exact Nat.le_refl _)
      have hr : rcB s = confB F := by
        simp only [rcB, ← hF]
        cases hc : confB F with
        | false => rw [Bool.and_false]
        | true =>
          simp only [confB, Bool.and_eq_true, decide_eq_true_eq] at hc
          have := rise_len hc.2
          rw [decide_eq_true (by omega)]; rfl
      simp only [hfin]
      simp only [Try.ntmps84, Try.results84, push_cast, seval, hlt, decide_not, heq, hll]
      refine GoL_call rfl (by simp only [push_cast, seval, ht]) k2 rfl rfl ?_
      cases c2 : confB F with
      | true =>
        simp only [rcX, hr.trans c2, if_true, ← hF] at hret
        subst hret
        simp only [Try.ntmps84, Try.results84, push_cast, seval, hll]
      | false =>
        simp only [rcX, hr.trans c2, Bool.false_eq_true, if_false] at hret
        subst hret
        simp only [Try.ntmps84, Try.results84, push_cast, seval, hll]
def entC (term kind : Int) (data : ByteArray) : List C := [.v (.int .i64 term), .v (.int .i64 kind), .v (.string data)]
def eoB (term kind : Int) (data : ByteArray) : Bool := inR term 0 100000 &&
  (if decide (kind = 1) then decide (data = ⟨#[]⟩) else if decide (kind = 2) then rcB data else if decide (kind = 3) then decide ((data.size : Int) ≤ 640) else false)
theorem rcX_true {s : ByteArray} (h : rcB s = true) : rcX s = [.one (.own 1 (vR (ints (natsL s)))), bo true] := by simp only [rcX, h, if_true]
theorem rcX_false {s : ByteArray} (h : rcB s = false) : rcX s = [.one (.own 1 []), bo false] := by simp only [rcX, h, Bool.false_eq_true, if_false]
theorem entryOkI_ok (term kind : Int) (data : ByteArray) (hd : data.size ≤ 140737488355328) : PureFn Try.prog 31 [.agg (entC term kind data)] [bo (eoB term kind data)] := by
  refine PureFn_of_Go Try.func31 rfl (by decide) mo (by decide +kernel) ?_
  have k1 := isTerm_ok term
  have k2 := readConfI_ok data hd
  simp only [Try.ntmps31, Try.results31, push_cast, seval, entC]
  refine GoL_call rfl rfl k1 rfl rfl ?_
  unfold eoB
  cases c0 : inR term 0 100000 with
  | false => simp only [Try.ntmps31, Try.results31, push_cast, seval]
  | true =>
    cases c1 : decide (kind = 1) with
    | true => simp only [Try.ntmps31, Try.results31, push_cast, seval, c1]
    | false =>
      cases c2 : decide (kind = 2) with
      | true =>
        simp only [Try.ntmps31, Try.results31, push_cast, seval, c1, c2]
        cases c3 : rcB data with
        | true =>
          rw [rcX_true c3] at k2
          refine GoL_call rfl rfl k2 (by simp only [push_cast, seval]) rfl ?_
          simp only [Try.ntmps31, Try.results31, push_cast, seval]
        | false =>
          rw [rcX_false c3] at k2
          refine GoL_call rfl rfl k2 rfl rfl ?_
          simp only [Try.ntmps31, Try.results31, push_cast, seval]
      | false =>
        cases c4 : decide (kind = 3) with
        | true => simp only [Try.ntmps31, Try.results31, push_cast, seval, c1, c2, c4]
        | false => simp only [Try.ntmps31, Try.results31, push_cast, seval, c1, c2, c4]
theorem entryOkS_ok (term kind : Int) (data : ByteArray) (hd : data.size ≤ 140737488355328) : PureFn Try.prog 33 [.agg (entC term kind data)] [bo (eoB term kind data)] := by
  refine PureFn_of_Go Try.func33 rfl (by decide) mo (by decide +kernel) ?_
  have k1 := l01In_ok term 0 100000
  have k2 := readConfS_ok data hd
  simp only [Try.ntmps33, Try.results33, push_cast, seval, entC]
  refine GoL_call rfl rfl k1 rfl rfl ?_
  rw [show (decide ((0 : Int) ≤ term) && decide (term ≤ 100000)) = inR term 0 100000 from rfl]
  unfold eoB
  cases c0 : inR term 0 100000 with
  | false => simp only [Try.ntmps33, Try.results33, push_cast, seval]
  | true =>
    cases c1 : decide (kind = 1) with
    | true => simp only [Try.ntmps33, Try.results33, push_cast, seval, c1]
    | false =>
      cases c2 : decide (kind = 2) with
      | true =>
        simp only [Try.ntmps33, Try.results33, push_cast, seval, c1, c2]
        cases c3 : rcB data with
        | true =>
          rw [rcX_true c3] at k2
          refine GoL_call rfl rfl k2 (by simp only [push_cast, seval]) rfl ?_
          simp only [Try.ntmps33, Try.results33, push_cast, seval]
        | false =>
          rw [rcX_false c3] at k2
          refine GoL_call rfl rfl k2 rfl rfl ?_
          simp only [Try.ntmps33, Try.results33, push_cast, seval]
      | false =>
        cases c4 : decide (kind = 3) with
        | true => simp only [Try.ntmps33, Try.results33, push_cast, seval, c1, c2, c4]
        | false => simp only [Try.ntmps33, Try.results33, push_cast, seval, c1, c2, c4]
def etB (index term kind : Nat) (data : ByteArray) : ByteArray := (((⟨#[69]⟩ ++ varB index) ++ varB term) ++ ⟨[UInt8.ofNat kind].toArray⟩) ++ data
def etOk (index term kind : Nat) (data : ByteArray) : Bool := eoB term kind data && inR index 1 1000000
def etX (index term kind : Nat) (data : ByteArray) : List X := if etOk index term kind data then [st (etB index term kind data), bo true] else [st ⟨#[]⟩, bo false]
theorem entryTextS_ok (index term kind : Nat) (hi : index ≤ 1000000000) (ht : term ≤ 1000000000) (data : ByteArray) (hd : data.size ≤ 140737488355328) : PureFn Try.prog 8 [i64 index, .agg (entC term kind data)] (etX index term kind data) := by
  refine PureFn_of_Go Try.func8 rfl (by decide) mo (by decide +kernel) ?_
  have k1 := entryOkS_ok term kind data hd
  have k2 := l01In_ok index 1 1000000
  rw [show (decide ((1 : Int) ≤ (index : Int)) && decide ((index : Int) ≤ 1000000)) = inR index 1 1000000 from rfl] at k2
  simp only [entC] at k1
  simp only [Try.ntmps8, Try.results8, push_cast, seval, entC]
  refine GoL_call rfl rfl k1 rfl rfl ?_
  cases c1 : eoB term kind data with
  | false =>
    have hx : etX index term kind data = [st ⟨#[]⟩, bo false] := by simp only [etX, etOk, c1, Bool.false_and, Bool.false_eq_true, if_false]
    rw [hx]
    simp only [Try.ntmps8, Try.results8, push_cast, seval]
  | true =>
    simp only [Try.ntmps8, Try.results8, push_cast, seval]
    refine GoL_call rfl rfl k2 rfl rfl ?_
    cases c2 : inR index 1 1000000 with
    | false =>
      have hx : etX index term kind data = [st ⟨#[]⟩, bo false] := by simp only [etX, etOk, c1, c2, Bool.true_and, Bool.false_eq_true, if_false]
      rw [hx]
      simp only [Try.ntmps8, Try.results8, push_cast, seval]
    | true =>
      have hx : etX index term kind data = [st (etB index term kind data), bo true] := by simp only [etX, etOk, c1, c2, Bool.true_and, if_true]
      rw [hx]
      have h1 := varB_size index
      have h2 := varB_size term
      have e1 : (⟨#[69]⟩ : ByteArray).size = 1 := rfl
      have r1 : (⟨#[69]⟩ : ByteArray).size + (varB index).size ≤ 9223372036854775807 := by omega
      have r2 : (⟨#[69]⟩ ++ varB index).size + (varB term).size ≤ 9223372036854775807 := by rw [ByteArray.size_append]; omega
      have w := wu8 (n := kind)
      have hf := str_natsOf [UInt8.ofNat kind]
      simp only [natsOf, List.map_cons, List.map_nil] at hf
      obtain ⟨c, hc⟩ : ∃ c, c = UInt8.ofNat kind := ⟨_, rfl⟩
      unfold etB
      rw [← hc] at w hf ⊢
      obtain ⟨kk, hkk⟩ : ∃ kk : ByteArray, kk = ⟨[c].toArray⟩ := ⟨_, rfl⟩
      rw [← hkk] at hf ⊢
      have e2 : kk.size = 1 := by rw [hkk]; rfl
      have r3 : ((⟨#[69]⟩ ++ varB index) ++ varB term).size + kk.size ≤ 9223372036854775807 := by rw [ByteArray.size_append, ByteArray.size_append]; omega
      have r4 : (((⟨#[69]⟩ ++ varB index) ++ varB term) ++ kk).size + data.size ≤ 9223372036854775807 := by rw [ByteArray.size_append, ByteArray.size_append, ByteArray.size_append]; omega
      simp only [Try.ntmps8, Try.results8, push_cast, seval]
      refine GoD_call rfl rfl (l01Var_ok index (by omega)) rfl rfl ?_
      simp only [Try.ntmps8, Try.results8, push_cast, seval, r1]
      refine GoD_call rfl rfl (l01Var_ok term (by omega)) rfl rfl ?_
      simp only [Try.ntmps8, Try.results8, push_cast, seval, r1, r2, w, hf, r3, r4]
end Go.Proofs.Ythhgmnpodgmlkaa
namespace Go.Proofs.Ythhgmnpodgmlkaa
open Go.RowKit Go.Rx
set_option linter.unusedSimpArgs false
set_option maxRecDepth 100000
theorem seg_all (s : ByteArray) : seg s 0 s.size = s.data.toList := by
  unfold seg
  have : s.data.toList.length = s.size := by rw [Array.length_toList]; rfl
  rw [List.drop_zero, ← this, List.take_length]
def eA1 (s : ByteArray) : Nat := takeA s 0 false 1
def eB1 (s : ByteArray) : Bool := takeB s 0 false 1
def eN1 (s : ByteArray) : Nat := numN s (eA1 s) (eB1 s)
def eA2 (s : ByteArray) : Nat := numA s (eA1 s) (eB1 s)
def eB2 (s : ByteArray) : Bool := numB s (eA1 s) (eB1 s)
def eN2 (s : ByteArray) : Nat := numN s (eA2 s) (eB2 s)
def eA3 (s : ByteArray) : Nat := numA s (eA2 s) (eB2 s)
def eB3 (s : ByteArray) : Bool := numB s (eA2 s) (eB2 s)
def eK (s : ByteArray) : Nat := octN s (eA3 s) (eB3 s)
def eA4 (s : ByteArray) : Nat := takeA s (eA3 s) (eB3 s) 1
def eB4 (s : ByteArray) : Bool := takeB s (eA3 s) (eB3 s) 1
def eD (s : ByteArray) : ByteArray := s.extract (eA4 s) s.size
def eOk (s : ByteArray) : Bool := (!eB4 s && decide (takeT s 0 false 1 = ⟨#[69]⟩)) && (inR (eN1 s) 1 1000000 && eoB (eN2 s) (eK s) (eD s))
def eX (s : ByteArray) : List X := if eOk s then [i64 (eN1 s), .agg (entC (eN2 s) (eK s) (eD s)), bo true] else [i64 0, .agg (entC 0 0 ⟨#[]⟩), bo false]
theorem eX_true {s : ByteArray} (h : eOk s = true) : eX s = [i64 (eN1 s), .agg (entC (eN2 s) (eK s) (eD s)), bo true] := by simp only [eX, h, if_true]
theorem eX_false {s : ByteArray} (h : eOk s = false) : eX s = [i64 0, .agg (entC 0 0 ⟨#[]⟩), bo false] := by simp only [eX, h, Bool.false_eq_true, if_false]
theorem eA1_le (s : ByteArray) : eA1 s ≤ s.size := takeA_le (Nat.zero_le _)
theorem eA2_le (s : ByteArray) : eA2 s ≤ s.size := numA_le (eA1_le s)
theorem eA3_le (s : ByteArray) : eA3 s ≤ s.size := numA_le (eA2_le s)
theorem eA4_le (s : ByteArray) : eA4 s ≤ s.size := takeA_le (eA3_le s)
theorem readEntryI_ok (s : ByteArray) (hs : s.size ≤ 140737488355328) : PureFn Try.prog 9 [st s] (eX s) := by
  refine PureFn_of_Go Try.func9 rfl (by decide) mo (by decide +kernel) ?_
  have k1 := take_ok s hs 0 (Nat.zero_le _) false 1 (by omega)
  have k2 := number_ok s hs (eA1 s) (eB1 s)
  have k3 := number_ok s hs (eA2 s) (eB2 s)
  have k4 := octet_ok s hs (eA3 s) (eA3_le s) (eB3 s)
  have k5 := inRange_ok (eN1 s) 1 1000000
  have k6 := entryOkI_ok (eN2 s) (eK s) (eD s) (by unfold eD; exact Nat.le_trans (by rw [ByteArray.size_extract]; omega) hs)
  rw [show (decide ((1 : Int) ≤ (eN1 s : Int)) && decide ((eN1 s : Int) ≤ 1000000)) = inR (eN1 s) 1 1000000 from rfl] at k5
  simp only [entC] at k6
  have hle := eA4_le s
  simp only [Try.ntmps9, Try.results9, push_cast, seval]
  refine GoL_io (0, 320) .box 3 [sc s 0 false] rfl rfl rfl rfl (.inl rfl) rfl k1 rfl rfl ?_
  rw [show takeA s 0 false 1 = eA1 s from rfl, show takeB s 0 false 1 = eB1 s from rfl]
  simp only [Try.ntmps9, Try.results9, push_cast, seval, sc]
  refine GoL_io (0, 320) .box 3 [sc s (eA1 s) (eB1 s)] rfl rfl rfl rfl (.inl rfl) rfl k2 rfl rfl ?_
  rw [show numA s (eA1 s) (eB1 s) = eA2 s from rfl, show numB s (eA1 s) (eB1 s) = eB2 s from rfl, show numN s (eA1 s) (eB1 s) = eN1 s from rfl]
  simp only [Try.ntmps9, Try.results9, push_cast, seval, sc]
  refine GoL_io (0, 320) .box 3 [sc s (eA2 s) (eB2 s)] rfl rfl rfl rfl (.inl rfl) rfl k3 rfl rfl ?_
  rw [show numA s (eA2 s) (eB2 s) = eA3 s from rfl, show numB s (eA2 s) (eB2 s) = eB3 s from rfl, show numN s (eA2 s) (eB2 s) = eN2 s from rfl]
  simp only [Try.ntmps9, Try.results9, push_cast, seval, sc]
  refine GoL_io (0, 320) .box 3 [sc s (eA3 s) (eB3 s)] rfl rfl rfl rfl (.inl rfl) rfl k4 rfl rfl ?_
  rw [show takeA s (eA3 s) (eB3 s) 1 = eA4 s from rfl, show takeB s (eA3 s) (eB3 s) 1 = eB4 s from rfl, show octN s (eA3 s) (eB3 s) = eK s from rfl]
  cases c1 : eB4 s with
  | true =>
    rw [eX_false (by simp only [eOk, c1, Bool.not_true, Bool.false_and])]
    simp only [Try.ntmps9, Try.results9, push_cast, seval, sc, entC]
  | false =>
    cases c2 : decide (takeT s 0 false 1 = ⟨#[69]⟩) with
    | false =>
      rw [eX_false (by simp only [eOk, c1, c2, Bool.and_false, Bool.false_and])]
      simp only [Try.ntmps9, Try.results9, push_cast, seval, sc, entC, c2]
    | true =>
      have hc : eOk s = (inR (eN1 s) 1 1000000 && eoB (eN2 s) (eK s) (eD s)) := by simp only [eOk, c1, c2, Bool.not_false, Bool.true_and]
      have hd : s.extract (eA4 s) s.size = eD s := rfl
      simp only [Try.ntmps9, Try.results9, push_cast, seval, sc, entC, c2, hle, hd, Nat.le_refl]
      refine GoL_call rfl rfl k5 rfl rfl ?_
      cases c3 : inR (eN1 s) 1 1000000 with
      | false =>
        rw [eX_false (by rw [hc, c3]; rfl)]
        simp only [Try.ntmps9, Try.results9, push_cast, seval, entC]
      | true =>
        simp only [Try.ntmps9, Try.results9, push_cast, seval, entC]
        refine GoL_call rfl rfl k6 rfl rfl ?_
        cases c4 : eoB (eN2 s) (eK s) (eD s) with
        | false =>
          rw [eX_false (by rw [hc, c3, c4]; rfl)]
          simp only [Try.ntmps9, Try.results9, push_cast, seval, entC]
        | true =>
          rw [eX_true (by rw [hc, c3, c4]; rfl)]
          simp only [Try.ntmps9, Try.results9, push_cast, seval, entC]
end Go.Proofs.Ythhgmnpodgmlkaa
namespace Go.Proofs.Ythhgmnpodgmlkaa
open Go.RowKit Go.Rx
set_option linter.unusedSimpArgs false
set_option maxRecDepth 100000
def letP (s : ByteArray) (i : Nat) : Prop := (97 ≤ (bu s i).toNat ∧ (bu s i).toNat ≤ 122) ∨ (i ≠ 0 ∧ 48 ≤ (bu s i).toNat ∧ (bu s i).toNat ≤ 57)
def nameP (s : ByteArray) : Prop := ∀ i, i < s.size → letP s i
instance (s : ByteArray) (i : Nat) : Decidable (letP s i) := by unfold letP; infer_instance
instance (s : ByteArray) : Decidable (nameP s) := by unfold nameP; infer_instance
def nameB (s : ByteArray) : Bool := decide (nameP s) && inR s.size 1 8
theorem nameS_ok (s : ByteArray) (hs : s.size ≤ 140737488355328) : PureFn Try.prog 142 [st s] [bo (nameB s)] := by
  refine PureFn_of_Go Try.func142 rfl (by decide) mo (by decide +kernel) ?_
  have k := l01In_ok s.size 1 8
  rw [show (decide ((1 : Int) ≤ (s.size : Int)) && decide ((s.size : Int) ≤ 8)) = inR s.size 1 8 from rfl] at k
  obtain ⟨r, hr⟩ : ∃ r, r = nameB s := ⟨_, rfl⟩
  rw [← hr]
  simp only [Try.ntmps142, Try.results142, push_cast, seval]
  refine GoL_call rfl rfl k rfl rfl ?_
  cases c0 : inR s.size 1 8 with
  | false =>
    have hf : r = false := by rw [hr, nameB, c0, Bool.and_false]
    subst hf
    simp only [Try.ntmps142, Try.results142, push_cast, seval]
  | true =>
  have h1 := inR_spec.1 c0
  have h0 : 0 < s.size := by omega
  have hb0 := bu_get h0
  have hix := index_str (P := Try.prog) (t := 9) s 0 .i64
  rw [show ((0 : Nat) : Int) = 0 from rfl, hb0] at hix
  have bad : ∀ i, i < s.size → ¬ letP s i → r = false := fun i hi h => by
    rw [hr, nameB, decide_eq_false fun hp => h (hp i hi), Bool.false_and]
  by_cases d1 : ((bu s 0).toNat : Int) < 97
  · have hf := bad 0 h0 (by unfold letP; omega)
    subst hf
    simp only [Try.ntmps142, Try.results142, push_cast, seval, hix, d1]
  by_cases d2 : (122 : Int) < ((bu s 0).toNat : Int)
  · have hf := bad 0 h0 (by unfold letP; omega)
    subst hf
    simp only [Try.ntmps142, Try.results142, push_cast, seval, hix, d1, d2]
  simp only [Try.ntmps142, Try.results142, push_cast, seval, hix, d1, d2]
  refine Go_loop (α := {i : Nat // i ≤ s.size ∧ ∀ j, j < i → letP s j})
    (fun i => ⟨tp 46 [(0, .x (st s)), (3, int i.1)], 0, [], []⟩) (fun i => s.size - i.1) ⟨0, by omega, fun j h => absurd h (Nat.not_lt_zero _)⟩ ?_ ?_
  · exact Weak.same (by simp only [push_cast, seval, Int.ofNat_zero])
  · rintro ⟨i, hi, hall⟩ X hX
    by_cases hlt : (i : Int) < (s.size : Int)
    · have hi' : i < s.size := by omega
      have hb := bu_get hi'
      have ws := wsucc hi' hs
      obtain ⟨i', hi1⟩ : ∃ i', i' = i + 1 := ⟨_, rfl⟩
      rw [← hi1] at ws
      have next : letP s i → ∀ j, j < i' → letP s j := fun h j hj => by
        by_cases e : j = i
        · subst e; exact h
        · exact hall j (by omega)
      have first : i = 0 → 97 ≤ (bu s i).toNat ∧ (bu s i).toNat ≤ 122 := fun e => by subst e; omega
      by_cases c1 : ((bu s i).toNat : Int) < 97
      · by_cases c4 : ((bu s i).toNat : Int) < 48
        · have hf := bad i hi' (by unfold letP; omega)
          subst hf
          simp only [Try.ntmps142, Try.results142, push_cast, seval, hlt, hb, c1, c4]
        · by_cases c5 : (57 : Int) < ((bu s i).toNat : Int)
          · have hf := bad i hi' (by unfold letP; omega)
            subst hf
            simp only [Try.ntmps142, Try.results142, push_cast, seval, hlt, hb, c1, c4, c5]
          · simp only [push_cast, seval, hlt, hb, c1, c4, c5, ws]
            refine ⟨_, ?_, hX ⟨i', by omega, next (.inr ⟨fun e => by have := first e; omega, by omega, by omega⟩)⟩ (by simp only; omega)⟩
            exact Weak.same (by simp only [push_cast, seval])
      · by_cases c2 : (122 : Int) < ((bu s i).toNat : Int)
        · have hf := bad i hi' (by unfold letP; omega)
          subst hf
          have c4 : ¬ ((bu s i).toNat : Int) < 48 := by omega
          have c5 : (57 : Int) < ((bu s i).toNat : Int) := by omega
          simp only [Try.ntmps142, Try.results142, push_cast, seval, hlt, hb, c1, c2, c4, c5]
        · simp only [push_cast, seval, hlt, hb, c1, c2, ws]
          refine ⟨_, ?_, hX ⟨i', by omega, next (.inl ⟨by omega, by omega⟩)⟩ (by simp only; omega)⟩
          exact Weak.same (by simp only [push_cast, seval])
    · have ht : r = true := by
        have hp : nameP s := fun j hj => hall j (by omega)
        rw [hr, nameB, decide_eq_true hp, c0]; rfl
      subst ht
      simp only [Try.ntmps142, Try.results142, push_cast, seval, hlt]
structure Cmd where
  op : Int
  tok : Int
  seq : Int
  text : ByteArray
  task : ByteArray
  num : Int
  to_ : Int
  yes : Bool
def Cmd.enc (x : Cmd) : List C := [.v (.int .i64 x.op), .v (.int .i64 x.tok), .v (.int .i64 x.seq), .v (.string x.text), .v (.string x.task), .v (.int .i64 x.num), .v (.int .i64 x.to_), .v (.bool x.yes)]
def Cmd.Ok (x : Cmd) : Prop := x.text.size ≤ 140737488355328 ∧ x.task.size ≤ 140737488355328
def restB (x : Cmd) (text task num to_ yes : Bool) : Bool :=
  ((((text || decide (x.text = ⟨#[]⟩)) && (task || decide (x.task = ⟨#[]⟩))) && (num || decide (x.num = 0))) && (to_ || decide (x.to_ = 0))) && (yes || !x.yes)
theorem restFFFFF_ok (x : Cmd) : PureFn Try.prog 141 [.agg x.enc, bo false, bo false, bo false, bo false, bo false] [bo (restB x false false false false false)] := by
  refine PureFn_of_Go Try.func141 rfl (by decide) mo (by decide +kernel) ?_
  unfold restB
  cases d0 : decide (x.text = ⟨#[]⟩) with
  | false => simp only [Try.ntmps141, Try.results141, push_cast, seval, Cmd.enc, d0, Bool.false_or, Bool.true_or, Bool.and_false, Bool.false_and, Bool.true_and, Bool.and_true, Bool.not_true, Bool.not_false]
  | true =>
    cases d1 : decide (x.task = ⟨#[]⟩) with
    | false => simp only [Try.ntmps141, Try.results141, push_cast, seval, Cmd.enc, d0, d1, Bool.false_or, Bool.true_or, Bool.and_false, Bool.false_and, Bool.true_and, Bool.and_true, Bool.not_true, Bool.not_false]
    | true =>
      cases d2 : decide (x.num = 0) with
      | false => simp only [Try.ntmps141, Try.results141, push_cast, seval, Cmd.enc, d0, d1, d2, Bool.false_or, Bool.true_or, Bool.and_false, Bool.false_and, Bool.true_and, Bool.and_true, Bool.not_true, Bool.not_false]
      | true =>
        cases d3 : decide (x.to_ = 0) with
        | false => simp only [Try.ntmps141, Try.results141, push_cast, seval, Cmd.enc, d0, d1, d2, d3, Bool.false_or, Bool.true_or, Bool.and_false, Bool.false_and, Bool.true_and, Bool.and_true, Bool.not_true, Bool.not_false]
        | true =>
          cases dy : x.yes with
          | true => simp only [Try.ntmps141, Try.results141, push_cast, seval, Cmd.enc, d0, d1, d2, d3, dy, Bool.false_or, Bool.true_or, Bool.and_false, Bool.false_and, Bool.true_and, Bool.and_true, Bool.not_true, Bool.not_false]
          | false => simp only [Try.ntmps141, Try.results141, push_cast, seval, Cmd.enc, d0, d1, d2, d3, dy, Bool.false_or, Bool.true_or, Bool.and_false, Bool.false_and, Bool.true_and, Bool.and_true, Bool.not_true, Bool.not_false]
theorem restTFFFF_ok (x : Cmd) : PureFn Try.prog 141 [.agg x.enc, bo true, bo false, bo false, bo false, bo false] [bo (restB x true false false false false)] := by
  refine PureFn_of_Go Try.func141 rfl (by decide) mo (by decide +kernel) ?_
  unfold restB
  cases d1 : decide (x.task = ⟨#[]⟩) with
  | false => simp only [Try.ntmps141, Try.results141, push_cast, seval, Cmd.enc, d1, Bool.false_or, Bool.true_or, Bool.and_false, Bool.false_and, Bool.true_and, Bool.and_true, Bool.not_true, Bool.not_false]
  | true =>
    cases d2 : decide (x.num = 0) with
    | false => simp only [Try.ntmps141, Try.results141, push_cast, seval, Cmd.enc, d1, d2, Bool.false_or, Bool.true_or, Bool.and_false, Bool.false_and, Bool.true_and, Bool.and_true, Bool.not_true, Bool.not_false]
    | true =>
      cases d3 : decide (x.to_ = 0) with
      | false => simp only [Try.ntmps141, Try.results141, push_cast, seval, Cmd.enc, d1, d2, d3, Bool.false_or, Bool.true_or, Bool.and_false, Bool.false_and, Bool.true_and, Bool.and_true, Bool.not_true, Bool.not_false]
      | true =>
        cases dy : x.yes with
        | true => simp only [Try.ntmps141, Try.results141, push_cast, seval, Cmd.enc, d1, d2, d3, dy, Bool.false_or, Bool.true_or, Bool.and_false, Bool.false_and, Bool.true_and, Bool.and_true, Bool.not_true, Bool.not_false]
        | false => simp only [Try.ntmps141, Try.results141, push_cast, seval, Cmd.enc, d1, d2, d3, dy, Bool.false_or, Bool.true_or, Bool.and_false, Bool.false_and, Bool.true_and, Bool.and_true, Bool.not_true, Bool.not_false]
theorem restTFFFT_ok (x : Cmd) : PureFn Try.prog 141 [.agg x.enc, bo true, bo false, bo false, bo false, bo true] [bo (restB x true false false false true)] := by
  refine PureFn_of_Go Try.func141 rfl (by decide) mo (by decide +kernel) ?_
  unfold restB
  cases d1 : decide (x.task = ⟨#[]⟩) with
  | false => simp only [Try.ntmps141, Try.results141, push_cast, seval, Cmd.enc, d1, Bool.false_or, Bool.true_or, Bool.and_false, Bool.false_and, Bool.true_and, Bool.and_true, Bool.not_true, Bool.not_false]
  | true =>
    cases d2 : decide (x.num = 0) with
    | false => simp only [Try.ntmps141, Try.results141, push_cast, seval, Cmd.enc, d1, d2, Bool.false_or, Bool.true_or, Bool.and_false, Bool.false_and, Bool.true_and, Bool.and_true, Bool.not_true, Bool.not_false]
    | true =>
      cases d3 : decide (x.to_ = 0) with
      | false => simp only [Try.ntmps141, Try.results141, push_cast, seval, Cmd.enc, d1, d2, d3, Bool.false_or, Bool.true_or, Bool.and_false, Bool.false_and, Bool.true_and, Bool.and_true, Bool.not_true, Bool.not_false]
      | true =>
        simp only [Try.ntmps141, Try.results141, push_cast, seval, Cmd.enc, d1, d2, d3, Bool.false_or, Bool.true_or, Bool.and_false, Bool.false_and, Bool.true_and, Bool.and_true, Bool.not_true, Bool.not_false]
theorem restFFTFF_ok (x : Cmd) : PureFn Try.prog 141 [.agg x.enc, bo false, bo false, bo true, bo false, bo false] [bo (restB x false false true false false)] := by
  refine PureFn_of_Go Try.func141 rfl (by decide) mo (by decide +kernel) ?_
  unfold restB
  cases d0 : decide (x.text = ⟨#[]⟩) with
  | false => simp only [Try.ntmps141, Try.results141, push_cast, seval, Cmd.enc, d0, Bool.false_or, Bool.true_or, Bool.and_false, Bool.false_and, Bool.true_and, Bool.and_true, Bool.not_true, Bool.not_false]
  | true =>
    cases d1 : decide (x.task = ⟨#[]⟩) with
    | false => simp only [Try.ntmps141, Try.results141, push_cast, seval, Cmd.enc, d0, d1, Bool.false_or, Bool.true_or, Bool.and_false, Bool.false_and, Bool.true_and, Bool.and_true, Bool.not_true, Bool.not_false]
    | true =>
      cases d3 : decide (x.to_ = 0) with
      | false => simp only [Try.ntmps141, Try.results141, push_cast, seval, Cmd.enc, d0, d1, d3, Bool.false_or, Bool.true_or, Bool.and_false, Bool.false_and, Bool.true_and, Bool.and_true, Bool.not_true, Bool.not_false]
      | true =>
        cases dy : x.yes with
        | true => simp only [Try.ntmps141, Try.results141, push_cast, seval, Cmd.enc, d0, d1, d3, dy, Bool.false_or, Bool.true_or, Bool.and_false, Bool.false_and, Bool.true_and, Bool.and_true, Bool.not_true, Bool.not_false]
        | false => simp only [Try.ntmps141, Try.results141, push_cast, seval, Cmd.enc, d0, d1, d3, dy, Bool.false_or, Bool.true_or, Bool.and_false, Bool.false_and, Bool.true_and, Bool.and_true, Bool.not_true, Bool.not_false]
theorem restFFTFT_ok (x : Cmd) : PureFn Try.prog 141 [.agg x.enc, bo false, bo false, bo true, bo false, bo true] [bo (restB x false false true false true)] := by
  refine PureFn_of_Go Try.func141 rfl (by decide) mo (by decide +kernel) ?_
  unfold restB
  cases d0 : decide (x.text = ⟨#[]⟩) with
  | false => simp only [Try.ntmps141, Try.results141, push_cast, seval, Cmd.enc, d0, Bool.false_or, Bool.true_or, Bool.and_false, Bool.false_and, Bool.true_and, Bool.and_true, Bool.not_true, Bool.not_false]
  | true =>
    cases d1 : decide (x.task = ⟨#[]⟩) with
    | false => simp only [Try.ntmps141, Try.results141, push_cast, seval, Cmd.enc, d0, d1, Bool.false_or, Bool.true_or, Bool.and_false, Bool.false_and, Bool.true_and, Bool.and_true, Bool.not_true, Bool.not_false]
    | true =>
      cases d3 : decide (x.to_ = 0) with
      | false => simp only [Try.ntmps141, Try.results141, push_cast, seval, Cmd.enc, d0, d1, d3, Bool.false_or, Bool.true_or, Bool.and_false, Bool.false_and, Bool.true_and, Bool.and_true, Bool.not_true, Bool.not_false]
      | true =>
        simp only [Try.ntmps141, Try.results141, push_cast, seval, Cmd.enc, d0, d1, d3, Bool.false_or, Bool.true_or, Bool.and_false, Bool.false_and, Bool.true_and, Bool.and_true, Bool.not_true, Bool.not_false]
theorem restTFTTF_ok (x : Cmd) : PureFn Try.prog 141 [.agg x.enc, bo true, bo false, bo true, bo true, bo false] [bo (restB x true false true true false)] := by
  refine PureFn_of_Go Try.func141 rfl (by decide) mo (by decide +kernel) ?_
  unfold restB
  cases d1 : decide (x.task = ⟨#[]⟩) with
  | false => simp only [Try.ntmps141, Try.results141, push_cast, seval, Cmd.enc, d1, Bool.false_or, Bool.true_or, Bool.and_false, Bool.false_and, Bool.true_and, Bool.and_true, Bool.not_true, Bool.not_false]
  | true =>
    cases dy : x.yes with
    | true => simp only [Try.ntmps141, Try.results141, push_cast, seval, Cmd.enc, d1, dy, Bool.false_or, Bool.true_or, Bool.and_false, Bool.false_and, Bool.true_and, Bool.and_true, Bool.not_true, Bool.not_false]
    | false => simp only [Try.ntmps141, Try.results141, push_cast, seval, Cmd.enc, d1, dy, Bool.false_or, Bool.true_or, Bool.and_false, Bool.false_and, Bool.true_and, Bool.and_true, Bool.not_true, Bool.not_false]
theorem restTTTFF_ok (x : Cmd) : PureFn Try.prog 141 [.agg x.enc, bo true, bo true, bo true, bo false, bo false] [bo (restB x true true true false false)] := by
  refine PureFn_of_Go Try.func141 rfl (by decide) mo (by decide +kernel) ?_
  unfold restB
  cases d3 : decide (x.to_ = 0) with
  | false => simp only [Try.ntmps141, Try.results141, push_cast, seval, Cmd.enc, d3, Bool.false_or, Bool.true_or, Bool.and_false, Bool.false_and, Bool.true_and, Bool.and_true, Bool.not_true, Bool.not_false]
  | true =>
    cases dy : x.yes with
    | true => simp only [Try.ntmps141, Try.results141, push_cast, seval, Cmd.enc, d3, dy, Bool.false_or, Bool.true_or, Bool.and_false, Bool.false_and, Bool.true_and, Bool.and_true, Bool.not_true, Bool.not_false]
    | false => simp only [Try.ntmps141, Try.results141, push_cast, seval, Cmd.enc, d3, dy, Bool.false_or, Bool.true_or, Bool.and_false, Bool.false_and, Bool.true_and, Bool.and_true, Bool.not_true, Bool.not_false]
end Go.Proofs.Ythhgmnpodgmlkaa
namespace Go.Proofs.Ythhgmnpodgmlkaa
open Go.RowKit Go.Rx
set_option linter.unusedSimpArgs false
set_option maxRecDepth 100000
def cokB (x : Cmd) : Bool := (inR x.tok 0 1000000 && inR x.seq 0 1000000) &&
  (if decide (x.op = 1) then (decide (x.tok = 0) && decide (x.seq = 0)) && restB x false false false false false
   else if decide (x.op = 2) then decide ((x.text.size : Int) ≤ 600) && restB x true false false false false
   else if decide (x.op = 3) then nameB x.text && restB x true false false false true
   else if decide (x.op = 4) then inR x.num 0 68374079 && restB x false false true false false
   else if decide (x.op = 5) then restB x false false false false false
   else if decide (x.op = 6) then inR x.num 0 1000000000 && restB x false false true false false
   else if decide (x.op = 7) then inR x.num 0 1000000000 && restB x false false true false true
   else if decide (x.op = 8) then ((nameB x.text && inR x.num 0 68374079) && inR x.to_ 0 68374079) && restB x true false true true false
   else if decide (x.op = 9) then ((nameB x.text && inR x.num 0 68374079) && nameB x.task) && restB x true true true false false
   else false)
set_option maxHeartbeats 4000000 in
theorem commandOkS_ok (x : Cmd) (hx : x.Ok) : PureFn Try.prog 130 [.agg x.enc] [bo (cokB x)] := by
  obtain ⟨hx1, hx2⟩ := hx
  refine PureFn_of_Go Try.func130 rfl (by decide) mo (by decide +kernel) ?_
  have kt := l01In_ok x.tok 0 1000000
  have ks := l01In_ok x.seq 0 1000000
  have mN := l01In_ok x.num 0 68374079
  have mT := l01In_ok x.to_ 0 68374079
  have bN := l01In_ok x.num 0 1000000000
  have nT := nameS_ok x.text hx1
  have nK := nameS_ok x.task hx2
  rw [show (decide ((0 : Int) ≤ x.tok) && decide (x.tok ≤ 1000000)) = inR x.tok 0 1000000 from rfl] at kt
  rw [show (decide ((0 : Int) ≤ x.seq) && decide (x.seq ≤ 1000000)) = inR x.seq 0 1000000 from rfl] at ks
  rw [show (decide ((0 : Int) ≤ x.num) && decide (x.num ≤ 68374079)) = inR x.num 0 68374079 from rfl] at mN
  rw [show (decide ((0 : Int) ≤ x.to_) && decide (x.to_ ≤ 68374079)) = inR x.to_ 0 68374079 from rfl] at mT
  rw [show (decide ((0 : Int) ≤ x.num) && decide (x.num ≤ 1000000000)) = inR x.num 0 1000000000 from rfl] at bN
  unfold cokB
  simp only [Try.ntmps130, Try.results130, push_cast, seval, Cmd.enc]
  refine GoL_call rfl rfl kt rfl rfl ?_
  cases ct : inR x.tok 0 1000000 with
  | false => simp only [Try.ntmps130, Try.results130, push_cast, seval, Cmd.enc]
  | true =>
    simp only [Try.ntmps130, Try.results130, push_cast, seval, Cmd.enc]
    refine GoL_call rfl rfl ks rfl rfl ?_
    cases cs : inR x.seq 0 1000000 with
    | false => simp only [Try.ntmps130, Try.results130, push_cast, seval, Cmd.enc]
    | true =>
      cases e1 : decide (x.op = 1) with
      | true =>
        cases q0 : decide (x.tok = 0) with
        | false => simp only [Try.ntmps130, Try.results130, push_cast, seval, Cmd.enc, e1, q0]
        | true =>
          cases q1 : decide (x.seq = 0) with
          | false => simp only [Try.ntmps130, Try.results130, push_cast, seval, Cmd.enc, e1, q0, q1]
          | true =>
            simp only [Try.ntmps130, Try.results130, push_cast, seval, Cmd.enc, e1, q0, q1]
            refine GoL_call rfl rfl (restFFFFF_ok x) rfl rfl ?_
            simp only [Try.ntmps130, Try.results130, push_cast, seval, Cmd.enc, e1, q0, q1]
      | false =>
        cases e2 : decide (x.op = 2) with
        | true =>
          cases q0 : decide ((x.text.size : Int) ≤ 600) with
          | false => simp only [Try.ntmps130, Try.results130, push_cast, seval, Cmd.enc, e1, e2, q0]
          | true =>
            simp only [Try.ntmps130, Try.results130, push_cast, seval, Cmd.enc, e1, e2, q0]
            refine GoL_call rfl rfl (restTFFFF_ok x) rfl rfl ?_
            simp only [Try.ntmps130, Try.results130, push_cast, seval, Cmd.enc, e1, e2, q0]
        | false =>
          cases e3 : decide (x.op = 3) with
          | true =>
            simp only [Try.ntmps130, Try.results130, push_cast, seval, Cmd.enc, e1, e2, e3]
            refine GoL_call rfl rfl nT rfl rfl ?_
            cases q0 : nameB x.text with
            | false => simp only [Try.ntmps130, Try.results130, push_cast, seval, Cmd.enc, e1, e2, e3, q0]
            | true =>
              simp only [Try.ntmps130, Try.results130, push_cast, seval, Cmd.enc, e1, e2, e3, q0]
              refine GoL_call rfl rfl (restTFFFT_ok x) rfl rfl ?_
              simp only [Try.ntmps130, Try.results130, push_cast, seval, Cmd.enc, e1, e2, e3, q0]
          | false =>
            cases e4 : decide (x.op = 4) with
            | true =>
              simp only [Try.ntmps130, Try.results130, push_cast, seval, Cmd.enc, e1, e2, e3, e4]
              refine GoL_call rfl rfl mN rfl rfl ?_
              cases q0 : inR x.num 0 68374079 with
              | false => simp only [Try.ntmps130, Try.results130, push_cast, seval, Cmd.enc, e1, e2, e3, e4, q0]
              | true =>
                simp only [Try.ntmps130, Try.results130, push_cast, seval, Cmd.enc, e1, e2, e3, e4, q0]
                refine GoL_call rfl rfl (restFFTFF_ok x) rfl rfl ?_
                simp only [Try.ntmps130, Try.results130, push_cast, seval, Cmd.enc, e1, e2, e3, e4, q0]
            | false =>
              cases e5 : decide (x.op = 5) with
              | true =>
                simp only [Try.ntmps130, Try.results130, push_cast, seval, Cmd.enc, e1, e2, e3, e4, e5]
                refine GoL_call rfl rfl (restFFFFF_ok x) rfl rfl ?_
                simp only [Try.ntmps130, Try.results130, push_cast, seval, Cmd.enc, e1, e2, e3, e4, e5]
              | false =>
                cases e6 : decide (x.op = 6) with
                | true =>
                  simp only [Try.ntmps130, Try.results130, push_cast, seval, Cmd.enc, e1, e2, e3, e4, e5, e6]
                  refine GoL_call rfl rfl bN rfl rfl ?_
                  cases q0 : inR x.num 0 1000000000 with
                  | false => simp only [Try.ntmps130, Try.results130, push_cast, seval, Cmd.enc, e1, e2, e3, e4, e5, e6, q0]
                  | true =>
                    simp only [Try.ntmps130, Try.results130, push_cast, seval, Cmd.enc, e1, e2, e3, e4, e5, e6, q0]
                    refine GoL_call rfl rfl (restFFTFF_ok x) rfl rfl ?_
                    simp only [Try.ntmps130, Try.results130, push_cast, seval, Cmd.enc, e1, e2, e3, e4, e5, e6, q0]
                | false =>
                  cases e7 : decide (x.op = 7) with
                  | true =>
                    simp only [Try.ntmps130, Try.results130, push_cast, seval, Cmd.enc, e1, e2, e3, e4, e5, e6, e7]
                    refine GoL_call rfl rfl bN rfl rfl ?_
                    cases q0 : inR x.num 0 1000000000 with
                    | false => simp only [Try.ntmps130, Try.results130, push_cast, seval, Cmd.enc, e1, e2, e3, e4, e5, e6, e7, q0]
                    | true =>
                      simp only [Try.ntmps130, Try.results130, push_cast, seval, Cmd.enc, e1, e2, e3, e4, e5, e6, e7, q0]
                      refine GoL_call rfl rfl (restFFTFT_ok x) rfl rfl ?_
                      simp only [Try.ntmps130, Try.results130, push_cast, seval, Cmd.enc, e1, e2, e3, e4, e5, e6, e7, q0]
                  | false =>
                    cases e8 : decide (x.op = 8) with
                    | true =>
                      simp only [Try.ntmps130, Try.results130, push_cast, seval, Cmd.enc, e1, e2, e3, e4, e5, e6, e7, e8]
                      refine GoL_call rfl rfl nT rfl rfl ?_
                      cases q0 : nameB x.text with
                      | false => simp only [Try.ntmps130, Try.results130, push_cast, seval, Cmd.enc, e1, e2, e3, e4, e5, e6, e7, e8, q0]
                      | true =>
                        simp only [Try.ntmps130, Try.results130, push_cast, seval, Cmd.enc, e1, e2, e3, e4, e5, e6, e7, e8, q0]
                        refine GoL_call rfl rfl mN rfl rfl ?_
                        cases q1 : inR x.num 0 68374079 with
                        | false => simp only [Try.ntmps130, Try.results130, push_cast, seval, Cmd.enc, e1, e2, e3, e4, e5, e6, e7, e8, q0, q1]
                        | true =>
                          simp only [Try.ntmps130, Try.results130, push_cast, seval, Cmd.enc, e1, e2, e3, e4, e5, e6, e7, e8, q0, q1]
                          refine GoL_call rfl rfl mT rfl rfl ?_
                          cases q2 : inR x.to_ 0 68374079 with
                          | false => simp only [Try.ntmps130, Try.results130, push_cast, seval, Cmd.enc, e1, e2, e3, e4, e5, e6, e7, e8, q0, q1, q2]
                          | true =>
                            simp only [Try.ntmps130, Try.results130, push_cast, seval, Cmd.enc, e1, e2, e3, e4, e5, e6, e7, e8, q0, q1, q2]
                            refine GoL_call rfl rfl (restTFTTF_ok x) rfl rfl ?_
                            simp only [Try.ntmps130, Try.results130, push_cast, seval, Cmd.enc, e1, e2, e3, e4, e5, e6, e7, e8, q0, q1, q2]
                    | false =>
                      cases e9 : decide (x.op = 9) with
                      | true =>
                        simp only [Try.ntmps130, Try.results130, push_cast, seval, Cmd.enc, e1, e2, e3, e4, e5, e6, e7, e8, e9]
                        refine GoL_call rfl rfl nT rfl rfl ?_
                        cases q0 : nameB x.text with
                        | false => simp only [Try.ntmps130, Try.results130, push_cast, seval, Cmd.enc, e1, e2, e3, e4, e5, e6, e7, e8, e9, q0]
                        | true =>
                          simp only [Try.ntmps130, Try.results130, push_cast, seval, Cmd.enc, e1, e2, e3, e4, e5, e6, e7, e8, e9, q0]
                          refine GoL_call rfl rfl nK rfl rfl ?_
                          cases q1 : nameB x.task with
                          | false => simp only [Try.ntmps130, Try.results130, push_cast, seval, Cmd.enc, e1, e2, e3, e4, e5, e6, e7, e8, e9, q0, q1]
                          | true =>
                            simp only [Try.ntmps130, Try.results130, push_cast, seval, Cmd.enc, e1, e2, e3, e4, e5, e6, e7, e8, e9, q0, q1]
                            refine GoL_call rfl rfl mN rfl rfl ?_
                            cases q2 : inR x.num 0 68374079 with
                            | false => simp only [Try.ntmps130, Try.results130, push_cast, seval, Cmd.enc, e1, e2, e3, e4, e5, e6, e7, e8, e9, q0, q1, q2]
                            | true =>
                              simp only [Try.ntmps130, Try.results130, push_cast, seval, Cmd.enc, e1, e2, e3, e4, e5, e6, e7, e8, e9, q0, q1, q2]
                              refine GoL_call rfl rfl (restTTTFF_ok x) rfl rfl ?_
                              simp only [Try.ntmps130, Try.results130, push_cast, seval, Cmd.enc, e1, e2, e3, e4, e5, e6, e7, e8, e9, q0, q1, q2]
                      | false =>
                        simp only [Try.ntmps130, Try.results130, push_cast, seval, Cmd.enc, e1, e2, e3, e4, e5, e6, e7, e8, e9]
end Go.Proofs.Ythhgmnpodgmlkaa
namespace Go.Proofs.Ythhgmnpodgmlkaa
open Go.RowKit Go.Rx
set_option linter.unusedSimpArgs false
set_option maxRecDepth 100000
def oneB (n : Nat) : ByteArray := ⟨[UInt8.ofNat n].toArray⟩
theorem l17Byte_ok (n : Nat) : PureFn Try.prog 131 [i64 n] [st (oneB n)] := by
  refine PureFn_of_Go Try.func131 rfl (by decide) mo (by decide +kernel) ?_
  have w := wu8 (n := n)
  have hf := str_natsOf [UInt8.ofNat n]
  simp only [natsOf, List.map_cons, List.map_nil] at hf
  unfold oneB
  obtain ⟨c, hc⟩ : ∃ c, c = UInt8.ofNat n := ⟨_, rfl⟩
  rw [← hc] at w hf ⊢
  simp only [Try.ntmps131, Try.results131, push_cast, seval, w, hf]
def shortB (t : ByteArray) : ByteArray := varB t.size ++ t
theorem l17Short_ok (t : ByteArray) (ht : t.size ≤ 4000000000) : PureFn Try.prog 132 [st t] [st (shortB t)] := by
  refine PureFn_of_Go Try.func132 rfl (by decide) mo (by decide +kernel) ?_
  simp only [Try.ntmps132, Try.results132, push_cast, seval]
  refine GoL_call rfl rfl (l01Var_ok t.size (by omega)) rfl rfl ?_
  have h1 := varB_size t.size
  have h2 : (varB t.size).size + t.size ≤ 9223372036854775807 := by omega
  simp only [Try.ntmps132, Try.results132, push_cast, seval, h2, shortB]
def flB (y : Bool) : ByteArray := if y then ⟨#[1]⟩ else ⟨#[0]⟩
theorem l17Flag_ok (y : Bool) : PureFn Try.prog 133 [bo y] [st (flB y)] := by
  refine PureFn_of_Go Try.func133 rfl (by decide) mo (by decide +kernel) ?_
  cases y with
  | true => simp only [Try.ntmps133, Try.results133, push_cast, seval, flB]
  | false => simp only [Try.ntmps133, Try.results133, push_cast, seval, flB, Bool.false_eq_true]
theorem rest_text {x : Cmd} {a n o y : Bool} (h : restB x false a n o y = true) : x.text.size ≤ 600 := by
  simp only [restB, Bool.and_eq_true, Bool.or_eq_true, Bool.false_eq_true, false_or, decide_eq_true_eq] at h
  rw [h.1.1.1.1]; decide
theorem rest_task {x : Cmd} {t n o y : Bool} (h : restB x t false n o y = true) : x.task.size ≤ 600 := by
  simp only [restB, Bool.and_eq_true, Bool.or_eq_true, Bool.false_eq_true, false_or, decide_eq_true_eq] at h
  rw [h.1.1.1.2]; decide
theorem name_len {s : ByteArray} (h : nameB s = true) : s.size ≤ 600 := by
  simp only [nameB, Bool.and_eq_true] at h
  have := inR_spec.1 h.2
  omega
theorem cok_len {x : Cmd} (h : cokB x = true) : x.text.size ≤ 600 ∧ x.task.size ≤ 600 := by
  unfold cokB at h
  rw [Bool.and_eq_true] at h
  have h := h.2
  split at h
  · rw [Bool.and_eq_true] at h; exact ⟨rest_text h.2, rest_task h.2⟩
  split at h
  · rw [Bool.and_eq_true] at h; exact ⟨by have := of_decide_eq_true h.1; omega, rest_task h.2⟩
  split at h
  · rw [Bool.and_eq_true] at h; exact ⟨name_len h.1, rest_task h.2⟩
  split at h
  · rw [Bool.and_eq_true] at h; exact ⟨rest_text h.2, rest_task h.2⟩
  split at h
  · exact ⟨rest_text h, rest_task h⟩
  split at h
  · rw [Bool.and_eq_true] at h; exact ⟨rest_text h.2, rest_task h.2⟩
  split at h
  · rw [Bool.and_eq_true] at h; exact ⟨rest_text h.2, rest_task h.2⟩
  split at h
  · simp only [Bool.and_eq_true] at h; exact ⟨name_len h.1.1.1, rest_task h.2⟩
  split at h
  · simp only [Bool.and_eq_true] at h; exact ⟨name_len h.1.1.1, name_len h.1.2⟩
  · cases h
def mkC (o tok seq : Nat) (text task : ByteArray) (num to_ : Nat) (yes : Bool) : Cmd := ⟨o, tok, seq, text, task, num, to_, yes⟩
def ctB (o tok seq : Nat) (text task : ByteArray) (num to_ : Nat) (yes : Bool) : ByteArray :=
  ((((((oneB o ++ varB tok) ++ varB seq) ++ shortB text) ++ shortB task) ++ varB num) ++ varB to_) ++ flB yes
theorem commandText_ok (o tok seq : Nat) (text task : ByteArray) (num to_ : Nat) (yes : Bool) (h1 : tok ≤ 1000000000) (h2 : seq ≤ 1000000000) (h3 : num ≤ 1000000000) (h4 : to_ ≤ 1000000000)
    (h5 : text.size ≤ 140737488355328) (h6 : task.size ≤ 140737488355328) : PureFn Try.prog 113 [.agg (mkC o tok seq text task num to_ yes).enc]
      (if cokB (mkC o tok seq text task num to_ yes) then [st (ctB o tok seq text task num to_ yes), bo true] else [st ⟨#[]⟩, bo false]) := by
  refine PureFn_of_Go Try.func113 rfl (by decide) mo (by decide +kernel) ?_
  have k := commandOkS_ok (mkC o tok seq text task num to_ yes) ⟨h5, h6⟩
  cases hc : cokB (mkC o tok seq text task num to_ yes) with
  | false =>
    rw [hc] at k
    simp only [Cmd.enc, mkC] at k
    simp only [Bool.false_eq_true, if_false]
    simp only [Try.ntmps113, Try.results113, push_cast, seval, Cmd.enc, mkC]
    refine GoL_call rfl rfl k rfl rfl ?_
    simp only [Try.ntmps113, Try.results113, push_cast, seval, Cmd.enc, mkC]
  | true =>
    obtain ⟨l1, l2⟩ := cok_len hc
    rw [hc] at k
    simp only [Cmd.enc, mkC] at k l1 l2
    simp only [if_true]
    have s1 : (oneB o).size = 1 := rfl
    have s2 := varB_size tok
    have s3 := varB_size seq
    have s4 : (shortB text).size ≤ text.size + 1 + text.size := by unfold shortB; rw [ByteArray.size_append]; have := varB_size text.size; omega
    have s5 : (shortB task).size ≤ task.size + 1 + task.size := by unfold shortB; rw [ByteArray.size_append]; have := varB_size task.size; omega
    have s6 := varB_size num
    have s7 := varB_size to_
    have s8 : (flB yes).size = 1 := by cases yes <;> rfl
    have r1 : (oneB o).size + (varB tok).size ≤ 9223372036854775807 := by omega
    have r2 : (oneB o ++ varB tok).size + (varB seq).size ≤ 9223372036854775807 := by simp only [ByteArray.size_append]; omega
    have r3 : ((oneB o ++ varB tok) ++ varB seq).size + (shortB text).size ≤ 9223372036854775807 := by simp only [ByteArray.size_append]; omega
    have r4 : (((oneB o ++ varB tok) ++ varB seq) ++ shortB text).size + (shortB task).size ≤ 9223372036854775807 := by simp only [ByteArray.size_append]; omega
    have r5 : ((((oneB o ++ varB tok) ++ varB seq) ++ shortB text) ++ shortB task).size + (varB num).size ≤ 9223372036854775807 := by simp only [ByteArray.size_append]; omega
    have r6 : (((((oneB o ++ varB tok) ++ varB seq) ++ shortB text) ++ shortB task) ++ varB num).size + (varB to_).size ≤ 9223372036854775807 := by simp only [ByteArray.size_append]; omega
    have r7 : ((((((oneB o ++ varB tok) ++ varB seq) ++ shortB text) ++ shortB task) ++ varB num) ++ varB to_).size + (flB yes).size ≤ 9223372036854775807 := by simp only [ByteArray.size_append]; omega
    simp only [Try.ntmps113, Try.results113, push_cast, seval, Cmd.enc, mkC]
    refine GoL_call rfl rfl k rfl rfl ?_
    simp only [Try.ntmps113, Try.results113, push_cast, seval]
    refine GoD_call rfl rfl (l17Byte_ok o) rfl rfl ?_
    simp only [Try.ntmps113, Try.results113, push_cast, seval]
    refine GoD_call rfl rfl (l01Var_ok tok (by omega)) rfl rfl ?_
    simp only [Try.ntmps113, Try.results113, push_cast, seval, r1]
    refine GoD_call rfl rfl (l01Var_ok seq (by omega)) rfl rfl ?_
    simp only [Try.ntmps113, Try.results113, push_cast, seval, r2]
    refine GoD_call rfl rfl (l17Short_ok text (by omega)) rfl rfl ?_
    simp only [Try.ntmps113, Try.results113, push_cast, seval, r3]
    refine GoD_call rfl rfl (l17Short_ok task (by omega)) rfl rfl ?_
    simp only [Try.ntmps113, Try.results113, push_cast, seval, r4]
    refine GoD_call rfl rfl (l01Var_ok num (by omega)) rfl rfl ?_
    simp only [Try.ntmps113, Try.results113, push_cast, seval, r5]
    refine GoD_call rfl rfl (l01Var_ok to_ (by omega)) rfl rfl ?_
    simp only [Try.ntmps113, Try.results113, push_cast, seval, r6]
    refine GoD_call rfl rfl (l17Flag_ok yes) rfl rfl ?_
    simp only [Try.ntmps113, Try.results113, push_cast, seval, r7, ctB]
end Go.Proofs.Ythhgmnpodgmlkaa
namespace Go.Proofs.Ythhgmnpodgmlkaa
open Go.RowKit Go.Rx
set_option linter.unusedSimpArgs false
set_option maxRecDepth 100000
def decB (n : Nat) : ByteArray := ⟨(Lib.decDigits n).toArray⟩
theorem decB_list (n : Nat) : (decB n).data.toList = Lib.decDigits n := by simp [decB]
theorem decB_pos : ∀ {n : Nat}, n ≠ 0 → decB n = digB n := by
  intro n
  induction n using Nat.strongRecOn with
  | _ n ih =>
    intro h
    refine bytes_ext ?_
    rw [digB_pos h, app_list, decB_list, Lib.decDigits]
    by_cases h10 : n < 10
    · rw [dif_pos h10, show n / 10 = 0 by omega, digB_zero, Nat.mod_eq_of_lt h10]
      rfl
    · rw [dif_neg h10, ← ih (n / 10) (by omega) (by omega), decB_list]
theorem decB_zero : decB 0 = ⟨#[48]⟩ := by
  refine bytes_ext ?_
  rw [decB_list, Lib.decDigits]; rfl
def isD (b : UInt8) : Bool := decide (48 ≤ b.toNat) && decide (b.toNat ≤ 57)
theorem isD_iff {b : UInt8} : isD b = true ↔ 48 ≤ b.toNat ∧ b.toNat ≤ 57 := by simp [isD]
def dvL (l : List UInt8) : Nat := l.foldl (fun a b => a * 10 + (b.toNat - 48)) 0
theorem dvL_snoc (l : List UInt8) (b : UInt8) : dvL (l ++ [b]) = dvL l * 10 + (b.toNat - 48) := by simp [dvL]
theorem dvL_lt : ∀ (n : Nat) (l : List UInt8), l.length = n → l.all isD = true → dvL l < 10 ^ n
  | 0, l, h, _ => by rw [List.eq_nil_of_length_eq_zero h]; decide
  | n + 1, l, h, hd => by
    obtain ⟨l', b, rfl⟩ : ∃ l' b, l = l' ++ [b] := by
      rcases List.eq_nil_or_concat l with rfl | ⟨l', b, e⟩
      · cases h
      · exact ⟨l', b, by rw [e, List.concat_eq_append]⟩
    rw [List.all_append, Bool.and_eq_true] at hd
    have h1 := dvL_lt n l' (by simpa using h) hd.1
    have h2 : isD b = true := by simpa using hd.2
    rw [isD_iff] at h2
    rw [dvL_snoc, Nat.pow_succ]; omega
theorem ofNat_digit {d : Nat} (h : d < 10) : (UInt8.ofNat (48 + d)).toNat = 48 + d := by
  simp only [UInt8.toNat_ofNat']; omega
def rdN (s : ByteArray) : Nat := dvL s.data.toList
def rdB (s : ByteArray) : Bool := (decide (s.size ≤ 10) && s.data.toList.all isD) && (decide (rdN s ≤ 1000000000) && decide (decB (rdN s) = s))
def rdX (s : ByteArray) : List X := if rdB s then [i64 (rdN s), bo true] else [i64 0, bo false]
theorem rdX_true {s : ByteArray} (h : rdB s = true) : rdX s = [i64 (rdN s), bo true] := by simp only [rdX, h, if_true]
theorem rdX_false {s : ByteArray} (h : rdB s = false) : rdX s = [i64 0, bo false] := by simp only [rdX, h, Bool.false_eq_true, if_false]
theorem rdB_spec {s : ByteArray} (h : rdB s = true) : rdN s ≤ 1000000000 ∧ decB (rdN s) = s := by
  simp only [rdB, Bool.and_eq_true, decide_eq_true_eq] at h
  exact h.2
theorem decDigits_le : ∀ (k n : Nat), n < 10 ^ (k + 1) → (Lib.decDigits n).length ≤ k + 1
  | 0, n, h => by rw [Lib.decDigits, dif_pos (by simpa using h)]; simp
  | k + 1, n, h => by
    rw [Lib.decDigits]
    by_cases h10 : n < 10
    · rw [dif_pos h10]; simp
    · rw [dif_neg h10, List.length_append]
      have := decDigits_le k (n / 10) (by rw [Nat.pow_succ] at h; omega)
      simp only [List.length_cons, List.length_nil]; omega
theorem decB_size (n : Nat) (h : n < 10 ^ 10) : (decB n).size ≤ 10 := by
  have := decDigits_le 9 n h
  rw [ByteArray.size, ← Array.length_toList, decB_list]; exact this
end Go.Proofs.Ythhgmnpodgmlkaa
namespace Go.Proofs.Ythhgmnpodgmlkaa
open Go.RowKit Go.Rx
set_option linter.unusedSimpArgs false
set_option maxRecDepth 100000
theorem l01Figure_ok (x : Nat) (h : x < 10) : PureFn Try.prog 155 [i64 x] [.one (.v (.int .u8 ((48 + x : Nat) : Int)))] := by
  refine PureFn_of_Go Try.func155 rfl (by decide) mo (by decide +kernel) ?_
  have h1 : (x : Int) < 10 := by omega
  have hw1 : IntKind.i64.wrap (48 + (x : Int)) = ((48 + x : Nat) : Int) := wN (by omega) (by omega)
  have hw2 : IntKind.u8.wrap ((48 + x : Nat) : Int) = ((48 + x : Nat) : Int) := by rw [IntKind.wrap_u8]; omega
  obtain ⟨z, hz⟩ : ∃ z, z = 48 + x := ⟨_, rfl⟩
  rw [← hz] at hw1 hw2 ⊢
  simp only [Try.ntmps155, Try.results155, push_cast, seval, h1, hw1, hw2]
theorem decimalS_ok (n : Nat) (hn : n ≤ 1000000000000000000) : PureFn Try.prog 145 [i64 n] [st (decB n)] := by
  refine PureFn_of_Go Try.func145 rfl (by decide) mo (by decide +kernel) ?_
  by_cases h0 : n = 0
  · subst h0
    rw [decB_zero]
    simp only [Try.ntmps145, Try.results145, push_cast, seval, Int.ofNat_zero]
  have h1 : ¬ ((n : Int) = 0) := by omega
  have h2 : ¬ ((n : Int) < 0) := by omega
  rw [decB_pos h0]
  simp only [Try.ntmps145, Try.results145, push_cast, seval, h1, h2]
  refine Go_loop (α := {p : Nat × ByteArray // digB p.1 ++ p.2 = digB n ∧ p.1 + p.2.size ≤ n})
    (fun p => ⟨tp 30 [(0, int p.1.1), (3, .x (bo false)), (4, .x (st p.1.2))], 0, [], []⟩) (fun p => p.1.1) ⟨(n, ⟨#[]⟩), bytes_ext (by simp [ByteArray.data_append]), by simp [ByteArray.size]⟩ ?_ ?_
  · exact Weak.same (by simp only [push_cast, seval])
  · rintro ⟨⟨m, out⟩, hp, hm⟩ X hX
    simp only at hp hm
    by_cases hlt : (m : Int) = 0
    · have hm0 : m = 0 := by omega
      rw [hm0, digB_zero, empty_append] at hp
      simp only [Try.ntmps145, Try.results145, push_cast, seval, hlt, hp]
    · have hrem := tmodN m 10
      rw [show ((10 : Nat) : Int) = 10 from rfl] at hrem
      obtain ⟨q, hq⟩ : ∃ q, q = m % 10 := ⟨_, rfl⟩
      have hq10 : q < 10 := by omega
      have hb : UInt8.ofNat (48 + q) = UInt8.ofNat (48 + m % 10) := by rw [hq]
      rw [← hq] at hrem
      have hq0 : ¬ ((q : Int) < 0) := by omega
      have kf := l01Figure_ok q hq10
      have hw2 := ofNat_digit hq10
      obtain ⟨z, hz⟩ : ∃ z, z = 48 + q := ⟨_, rfl⟩
      rw [← hz] at hb kf hw2
      obtain ⟨c, hc⟩ : ∃ c, c = UInt8.ofNat z := ⟨_, rfl⟩
      rw [← hc] at hb hw2
      rw [← hw2] at kf
      have hdiv := tdivN m 10
      rw [show ((10 : Nat) : Int) = 10 from rfl] at hdiv
      have hw3 : IntKind.i64.wrap ((m : Int).tdiv 10) = ((m / 10 : Nat) : Int) := wN hdiv (by omega)
      obtain ⟨m', hm'⟩ : ∃ m', m' = m / 10 := ⟨_, rfl⟩
      rw [← hm'] at hw3
      have hf := str_natsOf [c]
      simp only [natsOf, List.map_cons, List.map_nil] at hf
      obtain ⟨cc, hcc⟩ : ∃ cc : ByteArray, cc = ⟨[c].toArray⟩ := ⟨_, rfl⟩
      rw [← hcc] at hf
      have hcs : cc.size = 1 := by rw [hcc]; rfl
      have hroom : cc.size + out.size ≤ 9223372036854775807 := by omega
      have hinv : digB m' ++ (cc ++ out) = digB n := by
        rw [← hp, digB_pos (n := m) (by omega), hm', hcc, hb, ByteArray.append_assoc]
      have hsz : m' + (cc ++ out).size ≤ n := by rw [ByteArray.size_append]; omega
      simp only [push_cast, seval, hlt, hrem, hq0]
      refine GoL_call rfl rfl kf rfl rfl ?_
      simp only [push_cast, seval, hf, hroom, hw3]
      refine ⟨_, ?_, hX ⟨(m', cc ++ out), hinv, hsz⟩ (by simp only; omega)⟩
      exact Weak.drop (by simp only [push_cast, seval]) (by simp only [push_cast, seval]) (by simp only [push_cast, seval])
theorem isD_bu {s : ByteArray} (h : s.data.toList.all isD = true) {i : Nat} (hi : i < s.size) : isD (bu s i) = true := by
  have hl : i < s.data.toList.length := by rw [Array.length_toList]; exact hi
  have := List.all_eq_true.1 h (s.data.toList[i]) (List.getElem_mem hl)
  have he : bu s i = s.data.toList[i] := by simp only [bu, List.getD_eq_getElem?_getD, List.getElem?_eq_getElem hl, Option.getD_some]
  rw [he]; exact this
end Go.Proofs.Ythhgmnpodgmlkaa
namespace Go.Proofs.Ythhgmnpodgmlkaa
open Go.RowKit Go.Rx
set_option linter.unusedSimpArgs false
set_option maxRecDepth 100000
def dT (s : ByteArray) (i : Nat) : Nat := dvL (seg s 0 i)
theorem dT_zero (s : ByteArray) : dT s 0 = 0 := by rw [dT, seg_zero]; rfl
theorem dT_succ {s : ByteArray} {i : Nat} (h : i < s.size) : dT s (i + 1) = dT s i * 10 + ((bu s i).toNat - 48) := by
  rw [dT, seg_succ (by omega), Nat.zero_add, dvL_snoc]; rfl
theorem dT_all (s : ByteArray) : dT s s.size = rdN s := by rw [dT, seg_all]; rfl
theorem seg_all_isD {s : ByteArray} {i : Nat} (h : i < s.size) : (seg s 0 (i + 1)).all isD = ((seg s 0 i).all isD && isD (bu s i)) := by
  rw [seg_succ (by omega), Nat.zero_add, List.all_append]; simp
theorem dT_lt {s : ByteArray} {i : Nat} (hi : i ≤ s.size) (h : (seg s 0 i).all isD = true) : dT s i < 10 ^ i := dvL_lt i _ (seg_len (by omega)) h
theorem pow10_le {i : Nat} (h : i ≤ 10) : 10 ^ i ≤ 10000000000 := Nat.le_trans (Nat.pow_le_pow_right (by decide) h) (by decide)
theorem rd_bad {s : ByteArray} {i : Nat} (hi : i < s.size) (h : isD (bu s i) = false) : rdX s = [i64 0, bo false] := by
  refine rdX_false ?_
  cases ha : s.data.toList.all isD with
  | false => simp [rdB, ha]
  | true => rw [isD_bu ha hi] at h; cases h
theorem rd_long {s : ByteArray} (h : ¬ s.size ≤ 10) : rdX s = [i64 0, bo false] := rdX_false (by simp [rdB, h])
theorem isD_no {b : UInt8} (h : (b.toNat : Int) < 48 ∨ (57 : Int) < (b.toNat : Int)) : isD b = false := by
  cases hb : isD b with
  | false => rfl
  | true => rw [isD_iff] at hb; omega
theorem rd_end {s : ByteArray} (h1 : s.size ≤ 10) (h : (seg s 0 s.size).all isD = true) : rdB s = (decide (rdN s ≤ 1000000000) && decide (decB (rdN s) = s)) := by
  rw [seg_all] at h
  simp [rdB, h1, h]
theorem readDecS_ok (s : ByteArray) (hs : s.size ≤ 140737488355328) : PureFn Try.prog 162 [st s] (rdX s) := by
  refine PureFn_of_Go Try.func162 rfl (by decide) mo (by decide +kernel) ?_
  by_cases h10 : (10 : Int) < (s.size : Int)
  · rw [rd_long (by omega)]
    simp only [Try.ntmps162, Try.results162, push_cast, seval, h10]
  have h10n : s.size ≤ 10 := by omega
  simp only [Try.ntmps162, Try.results162, push_cast, seval, h10]
  refine Go_loop (α := {i : Nat // i ≤ s.size ∧ (seg s 0 i).all isD = true}) (fun i => ⟨tp 42 [(0, .x (st s)), (4, int (dT s i.1)), (5, int i.1)], 0, [], []⟩) (fun i => s.size - i.1) ⟨0, Nat.zero_le _, by rw [seg_zero]; rfl⟩ ?_ ?_
  · exact Weak.same (by simp only [push_cast, seval, dT_zero, Int.ofNat_zero])
  · rintro ⟨i, hi, hd⟩ X hX
    simp only
    have hlt9 := dT_lt hi hd
    have hp := pow10_le (Nat.le_trans hi h10n)
    by_cases hlt : (i : Int) < (s.size : Int)
    · have hi' : i < s.size := by omega
      have hb := bu_get hi'
      have hu := u8_lt (bu s i)
      have hws : IntKind.i64.wrap ((i : Int) + 1) = ((i + 1 : Nat) : Int) := wN (by omega) (by omega)
      have hds := dT_succ hi'
      have hal := seg_all_isD hi'
      rw [hd, Bool.true_and] at hal
      obtain ⟨i', hi1⟩ : ∃ i', i' = i + 1 := ⟨_, rfl⟩
      rw [← hi1] at hws hds hal
      by_cases c1 : ((bu s i).toNat : Int) < 48
      · rw [rd_bad hi' (isD_no (.inl c1))]
        simp only [Try.ntmps162, Try.results162, push_cast, seval, hlt, hb, c1]
      by_cases c2 : (57 : Int) < ((bu s i).toNat : Int)
      · rw [rd_bad hi' (isD_no (.inr c2))]
        simp only [Try.ntmps162, Try.results162, push_cast, seval, hlt, hb, c1, c2]
      have hal : (seg s 0 i').all isD = true := by rw [hal, isD_iff]; omega
      obtain ⟨b, hbn⟩ : ∃ b, b = (bu s i).toNat := ⟨_, rfl⟩
      rw [← hbn] at c1 c2 hds
      obtain ⟨z, hz⟩ : ∃ z, z = dT s i := ⟨_, rfl⟩
      rw [← hz] at hds hlt9
      rw [← hz]
      have w1 : IntKind.i64.wrap (10 * (z : Int)) = ((z * 10 : Nat) : Int) := wN (by omega) (by omega)
      have w3 : IntKind.i64.wrap (b : Int) = (b : Int) := wN rfl (by omega)
      obtain ⟨z10, hz10⟩ : ∃ z10, z10 = z * 10 := ⟨_, rfl⟩
      have w2 : IntKind.i64.wrap ((z10 : Int) + (b : Int)) = ((z10 + b : Nat) : Int) := wN (by omega) (by omega)
      obtain ⟨zb, hzb⟩ : ∃ zb, zb = z10 + b := ⟨_, rfl⟩
      obtain ⟨z', hz'⟩ : ∃ z', z' = dT s i' := ⟨_, rfl⟩
      rw [← hz10, ← hz'] at hds
      rw [← hz10] at w1
      rw [← hzb] at w2
      have w4 : IntKind.i64.wrap ((zb : Int) - 48) = (z' : Int) := wN (by omega) (by omega)
      simp only [push_cast, seval, hlt, hb, ← hbn, c1, c2, w1, w2, w3, w4, hws]
      refine ⟨_, ?_, hX ⟨i', by omega, hal⟩ (by simp only; omega)⟩
      simp only [← hz']
      exact Weak.same (by simp only [push_cast, seval])
    · obtain rfl : i = s.size := by omega
      have he := rd_end h10n hd
      rw [dT_all] at hlt9 ⊢
      obtain ⟨z, hz⟩ : ∃ z, z = rdN s := ⟨_, rfl⟩
      have hX2 : rdX s = if rdB s then [i64 z, bo true] else [i64 0, bo false] := by rw [hz]; rfl
      rw [hX2, he]
      rw [← hz] at hlt9 ⊢
      by_cases c3 : (1000000000 : Int) < (z : Int)
      · rw [if_neg (by simp; omega)]
        simp only [Try.ntmps162, Try.results162, push_cast, seval, hlt, c3]
      · have c4 : z ≤ 1000000000 := by omega
        have kd := decimalS_ok z (by omega)
        simp only [Try.ntmps162, Try.results162, push_cast, seval, hlt, c3]
        refine GoL_call rfl rfl kd rfl rfl ?_
        by_cases c5 : decB z = s
        · simp only [Try.ntmps162, Try.results162, push_cast, seval, c5, c4]
        · simp only [Try.ntmps162, Try.results162, push_cast, seval, c5, c4]
end Go.Proofs.Ythhgmnpodgmlkaa
namespace Go.Proofs.Ythhgmnpodgmlkaa
open Go.RowKit Go.Rx
set_option linter.unusedSimpArgs false
set_option maxRecDepth 100000
theorem setA_setA (s : Store) (r : Root) (a b : Obj') : setA (setA s r a) r b = setA s r b := by
  induction s with
  | nil => rfl
  | cons p s ih =>
    obtain ⟨k, o⟩ := p
    by_cases h : k = r
    · simp only [setA, if_pos h]
    · simp only [setA, if_neg h, ih]
theorem getA_here {s : Store} {r : Root} {o : Obj'} (h : getA s r = some o) (ob : Obj') : getA (setA s r ob) r = some ob := by rw [getA_setA, if_pos rfl, h]; rfl
theorem belowS_setA (D : Nat) (r : Root) (ob : Obj') : ∀ s : Store, belowS D (setA s r ob) = belowS D s
  | [] => rfl
  | (k, o) :: s => by
    by_cases h : k = r
    · simp only [setA, if_pos h, belowS]
    · simp only [setA, if_neg h, belowS, belowS_setA D r ob s]
theorem upS_below {D : Nat} : ∀ {s : Store}, belowS D s = true → upS D s = []
  | [], _ => rfl
  | (k, o) :: s, h => by
    rw [belowS, Bool.and_eq_true, decide_eq_true_eq] at h
    rw [upS, if_neg (by omega), upS_below h.2]
theorem dnS_below {D : Nat} : ∀ {s : Store}, belowS D s = true → dnS D s = s
  | [], _ => rfl
  | (k, o) :: s, h => by
    rw [belowS, Bool.and_eq_true, decide_eq_true_eq] at h
    rw [dnS, if_pos h.1, dnS_below h.2]
theorem belowS_mono {D E : Nat} (h : D ≤ E) : ∀ {s : Store}, belowS D s = true → belowS E s = true
  | [], _ => rfl
  | (k, o) :: s, e => by
    rw [belowS, Bool.and_eq_true, decide_eq_true_eq] at e
    rw [belowS, belowS_mono h e.2, Bool.and_true, decide_eq_true_eq]; omega
def curH (h : Int) : Int := IntKind.i64.wrap (IntKind.i64.wrap (h * 6364136223846793005) + 1442695040888963407)
def cur0 (h : Int) : Int := bits .and .i64 (bits .xor .i64 (shrI .i64 h 33) (shrI .i64 h 45)) 255
def curX (c : List UInt8) (p : Nat × Int) : Int := if p.1 < c.length then bits .and .i64 (IntKind.i64.wrap (cur0 (curH p.2) + ((c.getD p.1 0).toNat : Int))) 255 else cur0 (curH p.2)
def curN (c : List UInt8) (p : Nat × Int) : Nat × Int := (if p.1 < c.length then p.1 + 1 else p.1, curH p.2)
def curOb (c : List UInt8) (p : Nat × Int) : Obj' := ⟨.box, 3, [[.sh 1 (byR c), .v (.int .i64 p.1), .v (.int .i64 p.2)]]⟩
theorem and255 (x : Int) : 0 ≤ bits .and .i64 x 255 ∧ bits .and .i64 x 255 ≤ 255 := by
  have h : bits .and .i64 x 255 = IntKind.i64.wrap ((BitVec.ofInt 64 x &&& BitVec.ofInt 64 255).toNat : Int) := rfl
  have h2 : (BitVec.ofInt 64 x &&& BitVec.ofInt 64 255).toNat ≤ 255 := by
    rw [BitVec.toNat_and]
    exact Nat.le_trans Nat.and_le_right (by decide)
  rw [h, IntKind.wrap_i64]; omega
theorem curX_b (c : List UInt8) (p : Nat × Int) : 0 ≤ curX c p ∧ curX c p ≤ 255 := by
  unfold curX
  split
  · exact and255 _
  · exact and255 _
theorem curN_le {c : List UInt8} {p : Nat × Int} (h : p.1 ≤ c.length) : (curN c p).1 ≤ c.length := by
  simp only [curN]; split <;> omega
theorem byRL_getD (c : List UInt8) {i : Nat} (h : i < c.length) : (byR c).getD i [] = [.v (.int .u8 (c.getD i 0).toNat)] := by
  simp [byR, List.getD_eq_getElem?_getD, List.getElem?_map, List.getElem?_eq_getElem h]
variable {Q : Ex → St → Prop} {k : List Fr} {l : List SOp} {σ : St} {dst : Option Tmp} {a a2 : Operand} {ats : Array TypeId} {ty : TypeId}
theorem byte_go (D : Nat) (r : Root) {c : List UInt8} {p : Nat × Int} (hc : c.length ≤ 1048576) (hp : p.1 ≤ c.length)
    (ha : xsV [ev σ a] = some [.one (.pt r [] 3 0 0)]) (hr : getA σ.o r = some (curOb c p)) (hd : σ.d ≤ D) (hD : belowS D σ.o = true)
    (H : GoL Try.prog l k (exitSt σ.t σ.d dst ⟨[], D, [], setA σ.o r (curOb c (curN c p))⟩ [i64 (curX c p)]) Q) :
    GoL Try.prog (⟨dst, .call { callee := .value (.func 111), args := #[a], argTypes := ats }, ty, none⟩ :: l) k σ Q := by
  refine GoL_inl2 D Try.func111 rfl (by decide) mo (by decide +kernel) rfl ha hd hD fun K hK => ?_
  generalize σ.o = s at hr hD H hK
  obtain ⟨i, h⟩ := p
  simp only at hp
  have hr1 : ∀ ob, getA (setA s r ob) r = some ob := getA_here hr
  have hu : ∀ ob, upS D (setA s r ob) = [] := fun ob => upS_below (by rw [belowS_setA]; exact hD)
  have hn : ∀ ob, dnS D (setA s r ob) = setA s r ob := fun ob => dnS_below (by rw [belowS_setA]; exact hD)
  have hs : ∀ a b, setA (setA s r a) r b = setA s r b := setA_setA s r
  unfold curOb at hr
  simp only at hr
  obtain ⟨h1, hh1⟩ : ∃ h1, h1 = curH h := ⟨_, rfl⟩
  have e1 : IntKind.i64.wrap (IntKind.i64.wrap (h * 6364136223846793005) + 1442695040888963407) = h1 := hh1.symm
  obtain ⟨x0, hx0⟩ : ∃ x0, x0 = cur0 h1 := ⟨_, rfl⟩
  have e2 : bits .and .i64 (bits .xor .i64 (shrI .i64 h1 33) (shrI .i64 h1 45)) 255 = x0 := hx0.symm
  simp only [curX, curN, ← hh1, ← hx0] at H
  by_cases hlt : (i : Int) < (c.length : Int)
  · have hi : i < c.length := by omega
    rw [if_pos hi, if_pos hi] at H
    have hg := byRL_getD c hi
    obtain ⟨i', hi'⟩ : ∃ i', i' = i + 1 := ⟨_, rfl⟩
    have hw : IntKind.i64.wrap ((i : Int) + 1) = (i' : Int) := wN (by omega) (by omega)
    have hb := u8_lt (c.getD i 0)
    have hw2 : IntKind.i64.wrap ((c.getD i 0).toNat : Int) = ((c.getD i 0).toNat : Int) := wN rfl (by omega)
    rw [← hi'] at H
    simp only [Try.ntmps111, Try.results111, push_cast, seval, List.nil_append, hr, hr1, hs, hlt, hi, hg, hw, hw2, e1, e2]
    refine hK _ _ _ (Weak.refl _) rfl rfl rfl H
  · have hi : ¬ i < c.length := by omega
    rw [if_neg hi, if_neg hi] at H
    simp only [Try.ntmps111, Try.results111, push_cast, seval, List.nil_append, hr, hr1, hs, hlt, e1, e2]
    refine hK _ _ _ (Weak.refl _) rfl rfl rfl H
def curI (c : List UInt8) (p : Nat × Int) : Nat → Nat × Int
  | 0 => p
  | j + 1 => curN c (curI c p j)
def bigN (c : List UInt8) (p : Nat × Int) : Int :=
  IntKind.i64.wrap (IntKind.i64.wrap (IntKind.i64.wrap (IntKind.i64.wrap (curX c p * 16777216) + IntKind.i64.wrap (curX c (curI c p 1) * 65536)) + IntKind.i64.wrap (curX c (curI c p 2) * 256)) + curX c (curI c p 3))
theorem bigN_pos (c : List UInt8) (p : Nat × Int) : 0 ≤ bigN c p := by
  have h0 := curX_b c p
  have h1 := curX_b c (curI c p 1)
  have h2 := curX_b c (curI c p 2)
  have h3 := curX_b c (curI c p 3)
  unfold bigN
  simp only [IntKind.wrap_i64]
  omega
theorem curI_le {c : List UInt8} {p : Nat × Int} (h : p.1 ≤ c.length) : ∀ j, (curI c p j).1 ≤ c.length
  | 0 => h
  | j + 1 => curN_le (curI_le h j)
theorem small_go (D : Nat) (r : Root) {c : List UInt8} {p : Nat × Int} {n : Int} (hn0 : 0 < n) (hn : n ≤ 256) (hc : c.length ≤ 1048576) (hp : p.1 ≤ c.length)
    (ha : xsV [ev σ a, ev σ a2] = some [.one (.pt r [] 3 0 0), i64 n]) (hr : getA σ.o r = some (curOb c p)) (hd : σ.d ≤ D) (hD : belowS D σ.o = true)
    (H : GoL Try.prog l k (exitSt σ.t σ.d dst ⟨[], D, [], setA σ.o r (curOb c (curN c p))⟩ [i64 ((curX c p).tmod n)]) Q) :
    GoL Try.prog (⟨dst, .call { callee := .value (.func 79), args := #[a, a2], argTypes := ats }, ty, none⟩ :: l) k σ Q := by
  refine GoL_inl2 D Try.func79 rfl (by decide) mo (by decide +kernel) rfl ha hd hD fun K hK => ?_
  generalize σ.o = s at hr hD H hK
  have hr1 : ∀ ob, getA (setA s r ob) r = some ob := getA_here hr
  have c1 : ¬ n ≤ 0 := by omega
  have c2 : ¬ n = 0 := by omega
  simp only [Try.ntmps79, Try.results79, push_cast, seval, c1, hn]
  refine byte_go (D + 1) r hc hp rfl hr (by simp only; omega) (belowS_mono (by omega) hD) ?_
  have hu : ∀ ob, upS D (setA s r ob) = [] := fun ob => upS_below (by rw [belowS_setA]; exact hD)
  have hv : ∀ ob, dnS D (setA s r ob) = setA s r ob := fun ob => dnS_below (by rw [belowS_setA]; exact hD)
  simp only [Try.ntmps79, Try.results79, push_cast, seval, List.nil_append, List.append_nil, hu, hv, hr1, c2]
  refine hK _ _ _ (Weak.refl _) rfl rfl rfl H
theorem big_go (D : Nat) (r : Root) {c : List UInt8} {p : Nat × Int} {n : Int} (hn : 256 < n) (hc : c.length ≤ 1048576) (hp : p.1 ≤ c.length)
    (ha : xsV [ev σ a, ev σ a2] = some [.one (.pt r [] 3 0 0), i64 n]) (hr : getA σ.o r = some (curOb c p)) (hd : σ.d ≤ D) (hD : belowS D σ.o = true)
    (H : GoL Try.prog l k (exitSt σ.t σ.d dst ⟨[], D, [], setA σ.o r (curOb c (curI c p 4))⟩ [i64 ((bigN c p).tmod n)]) Q) :
    GoL Try.prog (⟨dst, .call { callee := .value (.func 79), args := #[a, a2], argTypes := ats }, ty, none⟩ :: l) k σ Q := by
  refine GoL_inl2 D Try.func79 rfl (by decide) mo (by decide +kernel) rfl ha hd hD fun K hK => ?_
  generalize σ.o = s at hr hD H hK
  have hr1 : ∀ ob, getA (setA s r ob) r = some ob := getA_here hr
  have hs : ∀ a b, setA (setA s r a) r b = setA s r b := setA_setA s r
  have c0 : ¬ n ≤ 0 := by omega
  have c1 : ¬ n ≤ 256 := by omega
  have c2 : ¬ n = 0 := by omega
  have hu : ∀ ob, upS D (setA s r ob) = [] := fun ob => upS_below (by rw [belowS_setA]; exact hD)
  have hv : ∀ ob, dnS D (setA s r ob) = setA s r ob := fun ob => dnS_below (by rw [belowS_setA]; exact hD)
  have hB : ∀ ob, belowS (D + 1) (setA s r ob) = true := fun ob => by rw [belowS_setA]; exact belowS_mono (by omega) hD
  simp only [Try.ntmps79, Try.results79, push_cast, seval, c0, c1]
  refine byte_go (D + 1) r hc hp rfl hr (by simp only; omega) (belowS_mono (by omega) hD) ?_
  have f1 := curI_le (c := c) hp 1
  have f2 := curI_le (c := c) hp 2
  have f3 := curI_le (c := c) hp 3
  rw [show curN c p = curI c p 1 from rfl]
  unfold curOb
  simp only [Try.ntmps79, Try.results79, push_cast, seval, List.nil_append, List.append_nil, hu, hv, hr1, c2]
  refine byte_go (D + 1) r hc f1 rfl (hr1 _) (by simp only; omega) (hB _) ?_
  rw [show curN c (curI c p 1) = curI c p 2 from rfl]
  unfold curOb
  simp only [Try.ntmps79, Try.results79, push_cast, seval, List.nil_append, List.append_nil, hu, hv, hr1, hs, c2]
  refine byte_go (D + 1) r hc f2 rfl (hr1 _) (by simp only; omega) (hB _) ?_
  rw [show curN c (curI c p 2) = curI c p 3 from rfl]
  unfold curOb
  simp only [Try.ntmps79, Try.results79, push_cast, seval, List.nil_append, List.append_nil, hu, hv, hr1, hs, c2]
  refine byte_go (D + 1) r hc f3 rfl (hr1 _) (by simp only; omega) (hB _) ?_
  rw [show curN c (curI c p 3) = curI c p 4 from rfl]
  unfold curOb
  simp only [Try.ntmps79, Try.results79, push_cast, seval, List.nil_append, List.append_nil, hu, hv, hr1, hs, c2]
  refine hK _ _ _ (Weak.refl _) rfl rfl rfl H
def newK (c : List UInt8) : Nat → Int
  | 0 => IntKind.i64.wrap (27701 + c.length)
  | j + 1 => bits .and .i64 (IntKind.i64.wrap (IntKind.i64.wrap (IntKind.i64.wrap (newK c j * 131) + ((c.getD j 0).toNat : Int)) + 7)) 1073741823
def new0 (c : List UInt8) : Nat × Int := (0, newK c (min c.length 4000))
theorem new_go (D : Nat) {c : List UInt8} (hc : c.length ≤ 1048576)
    (ha : xsV [ev σ a] = some [.one (.sh 1 (byR c))]) (hd : σ.d ≤ D) (hD : belowS D σ.o = true)
    (H : GoL Try.prog l k (exitSt σ.t σ.d dst ⟨[], D, [((D, 1984), curOb c (new0 c))], σ.o⟩ [.one (.pt (D, 1984) [] 3 0 0)]) Q) :
    GoL Try.prog (⟨dst, .call { callee := .value (.func 27), args := #[a], argTypes := ats }, ty, none⟩ :: l) k σ Q := by
  refine GoL_inl2 D Try.func27 rfl (by decide) mo (by decide +kernel) rfl ha hd hD fun K hK => ?_
  generalize σ.o = s at hD H hK
  simp only [Try.ntmps27, Try.results27, push_cast, seval]
  refine Go_loop (α := {i : Nat // i ≤ c.length ∧ i ≤ 4000})
    (fun i => ⟨tp 32 [(0, .x (.one (.sh 1 (byR c)))), (3, .x (i64 (newK c i.1))), (4, int i.1)], D, [], s⟩)
    (fun i => c.length - i.1) ⟨0, by omega, by omega⟩ ?_ ?_
  · exact Weak.same (by simp only [push_cast, seval, Int.ofNat_zero, newK])
  · rintro ⟨i, hi, hi2⟩ X hX
    by_cases hlt : (i : Int) < (c.length : Int)
    · by_cases hl2 : (i : Int) < 4000
      · have hg := byRL_getD c (show i < c.length by omega)
        have hlt' : i < c.length := by omega
        obtain ⟨i', hi'⟩ : ∃ i', i' = i + 1 := ⟨_, rfl⟩
        have hw : IntKind.i64.wrap ((i : Int) + 1) = (i' : Int) := wN (by omega) (by omega)
        have hb := u8_lt (c.getD i 0)
        have hw2 : IntKind.i64.wrap ((c.getD i 0).toNat : Int) = ((c.getD i 0).toNat : Int) := wN rfl (by omega)
        have hk : newK c i' = bits .and .i64 (IntKind.i64.wrap (IntKind.i64.wrap (IntKind.i64.wrap (newK c i * 131) + ((c.getD i 0).toNat : Int)) + 7)) 1073741823 := by rw [hi']; rfl
        simp only [push_cast, seval, hlt, hl2, hlt', hg, hw, hw2, ← hk]
        refine ⟨_, ?_, hX ⟨i', by omega, by omega⟩ (by simp only; omega)⟩
        exact Weak.same (by simp only [push_cast, seval])
      · have hm : min c.length 4000 = i := by omega
        simp only [new0, hm] at H
        simp only [Try.ntmps27, Try.results27, push_cast, seval, hlt, hl2]
        refine hK _ _ _ (Weak.refl _) rfl rfl rfl H
    · have hm : min c.length 4000 = i := by omega
      simp only [new0, hm] at H
      simp only [Try.ntmps27, Try.results27, push_cast, seval, hlt]
      refine hK _ _ _ (Weak.refl _) rfl rfl rfl H
end Go.Proofs.Ythhgmnpodgmlkaa
namespace Go.Proofs.Ythhgmnpodgmlkaa
open Go.RowKit Go.Rx
set_option linter.unusedSimpArgs false
set_option maxRecDepth 100000
variable {Q : Ex → St → Prop} {k : List Fr} {l : List SOp} {σ : St} {dst : Option Tmp} {a a2 : Operand} {ats : Array TypeId} {ty : TypeId}
theorem setA_same : ∀ {s : Store} {r : Root} {ob : Obj'}, getA s r = some ob → setA s r ob = s
  | [], _, _, h => by cases h
  | (q, o) :: s, r, ob, h => by
    unfold getA at h
    unfold setA
    split at h
    · rename_i e
      rw [if_pos e]; cases h; rfl
    · rename_i e
      rw [if_neg e, setA_same h]
theorem below_any (D : Nat) (r : Root) {c : List UInt8} {p : Nat × Int} {n : Int} (hc : c.length ≤ 1048576) (hp : p.1 ≤ c.length)
    (ha : xsV [ev σ a, ev σ a2] = some [.one (.pt r [] 3 0 0), i64 n]) (hr : getA σ.o r = some (curOb c p)) (hd : σ.d ≤ D) (hD : belowS D σ.o = true)
    (H : ∀ (p' : Nat × Int) (x : Int), p'.1 ≤ c.length → (0 < n → 0 ≤ x ∧ x < n) → (n ≤ 0 → x = 0) → GoL Try.prog l k (exitSt σ.t σ.d dst ⟨[], D, [], setA σ.o r (curOb c p')⟩ [i64 x]) Q) :
    GoL Try.prog (⟨dst, .call { callee := .value (.func 79), args := #[a, a2], argTypes := ats }, ty, none⟩ :: l) k σ Q := by
  by_cases h0 : n ≤ 0
  · refine GoL_inl2 D Try.func79 rfl (by decide) mo (by decide +kernel) rfl ha hd hD fun K hK => ?_
    have hs : setA σ.o r (curOb c p) = σ.o := setA_same hr
    have H' := H p 0 hp (fun h => absurd h (by omega)) fun _ => rfl
    rw [hs] at H'
    generalize σ.o = s at hr hD H' hK
    simp only [Try.ntmps79, Try.results79, push_cast, seval, h0]
    refine hK _ _ _ (Weak.refl _) rfl rfl rfl H'
  · by_cases h1 : n ≤ 256
    · refine small_go D r (by omega) h1 hc hp ha hr hd hD (H _ _ (curN_le hp) (fun hn => ?_) fun h => absurd h h0)
      have hb := curX_b c p
      exact ⟨Int.tmod_nonneg n hb.1, Int.tmod_lt_of_pos _ hn⟩
    · refine big_go D r (by omega) hc hp ha hr hd hD (H _ _ (curI_le hp 4) (fun hn => ?_) fun h => absurd h h0)
      exact ⟨Int.tmod_nonneg n (bigN_pos c p), Int.tmod_lt_of_pos _ hn⟩
theorem once_any (D : Nat) (r : Root) {c : List UInt8} {p : Nat × Int} {n : Int} (hc : c.length ≤ 1048576) (hp : p.1 ≤ c.length)
    (ha : xsV [ev σ a, ev σ a2] = some [.one (.pt r [] 3 0 0), i64 n]) (hr : getA σ.o r = some (curOb c p)) (hd : σ.d ≤ D) (hD : belowS D σ.o = true)
    (H : ∀ (p' : Nat × Int) (b : Bool), p'.1 ≤ c.length → GoL Try.prog l k (exitSt σ.t σ.d dst ⟨[], D, [], setA σ.o r (curOb c p')⟩ [bo b]) Q) :
    GoL Try.prog (⟨dst, .call { callee := .value (.func 77), args := #[a, a2], argTypes := ats }, ty, none⟩ :: l) k σ Q := by
  refine GoL_inl2 D Try.func77 rfl (by decide) mo (by decide +kernel) rfl ha hd hD fun K hK => ?_
  generalize σ.o = s at hr hD H hK
  have hr1 : ∀ ob, getA (setA s r ob) r = some ob := getA_here hr
  have hu : ∀ ob, upS D (setA s r ob) = [] := fun ob => upS_below (by rw [belowS_setA]; exact hD)
  have hv : ∀ ob, dnS D (setA s r ob) = setA s r ob := fun ob => dnS_below (by rw [belowS_setA]; exact hD)
  simp only [Try.ntmps77, Try.results77, push_cast, seval]
  refine below_any (D + 1) r hc hp rfl hr (by simp only; omega) (belowS_mono (by omega) hD) fun p' x hp' _ _ => ?_
  simp only [Try.ntmps77, Try.results77, push_cast, seval, List.nil_append, List.append_nil, hu, hv, hr1]
  refine hK _ _ _ (Weak.refl _) rfl rfl rfl (H p' _ hp')
theorem pickInt_any (D : Nat) (r r2 : Root) (L : List Int) {c : List UInt8} {p : Nat × Int} (hc : c.length ≤ 1048576) (hp : p.1 ≤ c.length) (hL : 0 < L.length) (hL2 : L.length ≤ 1048576) (hne : r ≠ r2)
    (ha : xsV [ev σ a, ev σ a2] = some [.one (.pt r [] 3 0 0), .one (.rs r2 [] 1 0 L.length)]) (hr : getA σ.o r = some (curOb c p)) (hr2 : getA σ.o r2 = some ⟨.sl, 1, vR (ints L)⟩) (hd : σ.d ≤ D) (hD : belowS D σ.o = true)
    (H : ∀ (p' : Nat × Int) (x : Int), p'.1 ≤ c.length → x ∈ L → GoL Try.prog l k (exitSt σ.t σ.d dst ⟨[], D, [], setA σ.o r (curOb c p')⟩ [i64 x]) Q) :
    GoL Try.prog (⟨dst, .call { callee := .value (.func 78), args := #[a, a2], argTypes := ats }, ty, none⟩ :: l) k σ Q := by
  refine GoL_inl2 D Try.func78 rfl (by decide) mo (by decide +kernel) rfl ha hd hD fun K hK => ?_
  generalize σ.o = s at hr hr2 hD H hK
  have hr1 : ∀ ob, getA (setA s r ob) r = some ob := getA_here hr
  have hr3 : ∀ ob, getA (setA s r ob) r2 = some ⟨.sl, 1, vR (ints L)⟩ := fun ob => by rw [getA_setA, if_neg hne]; exact hr2
  have hu : ∀ ob, upS D (setA s r ob) = [] := fun ob => upS_below (by rw [belowS_setA]; exact hD)
  have hv : ∀ ob, dnS D (setA s r ob) = setA s r ob := fun ob => dnS_below (by rw [belowS_setA]; exact hD)
  simp only [Try.ntmps78, Try.results78, push_cast, seval]
  refine below_any (D + 1) r hc hp rfl hr (by simp only; omega) (belowS_mono (by omega) hD) fun p' x hp' hx _ => ?_
  obtain ⟨hx0, hx1⟩ := hx (by omega)
  obtain ⟨n, rfl⟩ := Int.eq_ofNat_of_zero_le hx0
  have hn : n < L.length := by omega
  have hlt : (n : Int) < (L.length : Int) := by omega
  have hg := ints_getD L hn
  have hlen : (ints L).length = L.length := ints_length L
  simp only [Try.ntmps78, Try.results78, push_cast, seval, List.nil_append, List.append_nil, hu, hv, hr1, hr3, hlen, hn, hlt, vR_getD, hg]
  refine hK _ _ _ (Weak.refl _) rfl rfl rfl ?_
  exact H p' _ hp' (by rw [List.getD_eq_getElem?_getD, List.getElem?_eq_getElem hn]; exact List.getElem_mem hn)
theorem pick_any (D : Nat) (r r2 : Root) (L : List ByteArray) {c : List UInt8} {p : Nat × Int} (hc : c.length ≤ 1048576) (hp : p.1 ≤ c.length) (hL : 0 < L.length) (hL2 : L.length ≤ 1048576) (hne : r ≠ r2)
    (ha : xsV [ev σ a, ev σ a2] = some [.one (.pt r [] 3 0 0), .one (.rs r2 [] 1 0 L.length)]) (hr : getA σ.o r = some (curOb c p)) (hr2 : getA σ.o r2 = some ⟨.sl, 1, vR (strs L)⟩) (hd : σ.d ≤ D) (hD : belowS D σ.o = true)
    (H : ∀ (p' : Nat × Int) (x : ByteArray), p'.1 ≤ c.length → x ∈ L → GoL Try.prog l k (exitSt σ.t σ.d dst ⟨[], D, [], setA σ.o r (curOb c p')⟩ [st x]) Q) :
    GoL Try.prog (⟨dst, .call { callee := .value (.func 159), args := #[a, a2], argTypes := ats }, ty, none⟩ :: l) k σ Q := by
  refine GoL_inl2 D Try.func159 rfl (by decide) mo (by decide +kernel) rfl ha hd hD fun K hK => ?_
  generalize σ.o = s at hr hr2 hD H hK
  have hr1 : ∀ ob, getA (setA s r ob) r = some ob := getA_here hr
  have hr3 : ∀ ob, getA (setA s r ob) r2 = some ⟨.sl, 1, vR (strs L)⟩ := fun ob => by rw [getA_setA, if_neg hne]; exact hr2
  have hu : ∀ ob, upS D (setA s r ob) = [] := fun ob => upS_below (by rw [belowS_setA]; exact hD)
  have hv : ∀ ob, dnS D (setA s r ob) = setA s r ob := fun ob => dnS_below (by rw [belowS_setA]; exact hD)
  simp only [Try.ntmps159, Try.results159, push_cast, seval]
  refine below_any (D + 1) r hc hp rfl hr (by simp only; omega) (belowS_mono (by omega) hD) fun p' x hp' hx _ => ?_
  obtain ⟨hx0, hx1⟩ := hx (by omega)
  obtain ⟨n, rfl⟩ := Int.eq_ofNat_of_zero_le hx0
  have hn : n < L.length := by omega
  have hlt : (n : Int) < (L.length : Int) := by omega
  have hg := strs_getD L hn
  have hlen : (strs L).length = L.length := strs_length L
  simp only [Try.ntmps159, Try.results159, push_cast, seval, List.nil_append, List.append_nil, hu, hv, hr1, hr3, hlen, hn, hlt, vR_getD, hg]
  refine hK _ _ _ (Weak.refl _) rfl rfl rfl ?_
  exact H p' _ hp' (by rw [List.getD_eq_getElem?_getD, List.getElem?_eq_getElem hn]; exact List.getElem_mem hn)
end Go.Proofs.Ythhgmnpodgmlkaa
namespace Go.Proofs.Ythhgmnpodgmlkaa
open Go.RowKit Go.Rx
set_option linter.unusedSimpArgs false
set_option maxRecDepth 100000
def splA (s : ByteArray) (c : UInt8) : Nat → Nat × List ByteArray
  | 0 => (0, [])
  | i + 1 => if i = s.size ∨ bu s i = c then (i + 1, (splA s c i).2 ++ [s.extract (splA s c i).1 i]) else splA s c i
theorem splA_b (s : ByteArray) (c : UInt8) : ∀ i, (splA s c i).1 ≤ i ∧ (splA s c i).2.length ≤ i
  | 0 => ⟨Nat.le_refl _, Nat.le_refl _⟩
  | i + 1 => by
    obtain ⟨h1, h2⟩ := splA_b s c i
    unfold splA
    split
    · exact ⟨Nat.le_refl _, by rw [List.length_append]; simp only [List.length_cons, List.length_nil]; omega⟩
    · exact ⟨by omega, by omega⟩
def splL (s : ByteArray) (c : UInt8) : List ByteArray := (splA s c (s.size + 1)).2
theorem strs_snoc (l : List ByteArray) (x : ByteArray) : vR (strs l) ++ [[C.v (.string x)]] = vR (strs (l ++ [x])) := by simp [vR, strs]
theorem u8_eq {a b : UInt8} : ((a.toNat : Int) = (b.toNat : Int)) ↔ a = b := by
  constructor
  · intro h; exact UInt8.toNat_inj.1 (by omega)
  · rintro rfl; rfl
theorem split_ok (s : ByteArray) (c : UInt8) (hs : s.size ≤ 1048576) : PureFn Try.prog 172 [st s, .one (.v (.int .u8 (c.toNat : Int)))] [.one (.own 1 (vR (strs (splL s c))))] := by
  refine PureFn_of_GoW Try.func172 rfl (by decide) mo (by decide +kernel) ?_
  simp only [Try.ntmps172, Try.results172, push_cast, seval]
  refine Go_loop (α := {i : Nat // i ≤ s.size + 1}) (fun i => ⟨tp 36 [(0, .x (st s)), (1, .x (.one (.v (.int .u8 (c.toNat : Int))))), (5, .x (.one (.rs (0, 2048) [] 1 0 (splA s c i.1).2.length))), (6, int (splA s c i.1).1), (7, int i.1)], 0, [((0, 2048), ⟨.sl, 1, vR (strs (splA s c i.1).2)⟩)], []⟩)
    (fun i => s.size + 1 - i.1) ⟨0, Nat.zero_le _⟩ ?_ ?_
  · refine Weak.trans (Weak.rename' (0, 512) (0, 2048) (Nat.le_refl _) (Nat.le_refl _) (by decide) rfl) ?_
    rw [show vR (strs (splA s c (⟨0, Nat.zero_le _⟩ : {i : Nat // i ≤ s.size + 1}).1).2) = [] from rfl]
    simp only [push_cast, seval, ren_vR', splA]
    exact Weak.same (by simp only [push_cast, seval, Int.ofNat_zero])
  · rintro ⟨i, hi⟩ X hX
    simp only
    obtain ⟨b1, b2⟩ := splA_b s c i
    obtain ⟨B, hB⟩ : ∃ B, B = splA s c i := ⟨_, rfl⟩
    rw [← hB] at b1 b2
    have hsl := strs_length B.2
    by_cases hle : (i : Int) ≤ (s.size : Int)
    · have hi' : i ≤ s.size := by omega
      obtain ⟨i', hi1⟩ : ∃ i', i' = i + 1 := ⟨_, rfl⟩
      have hws : IntKind.i64.wrap ((i : Int) + 1) = (i' : Int) := wN (by omega) (by omega)
      have hstep : splA s c i' = if i = s.size ∨ bu s i = c then (i', B.2 ++ [s.extract B.1 i]) else B := by rw [hi1, splA, ← hB]
      have a0 : B.2.length + 1 ≤ 4294967296 := by omega
      have a1 := max_len a0
      have a2 := room_le (b := 16) a0 (by decide)
      have hsn := strs_snoc B.2 (s.extract B.1 i)
      rw [← hB]
      by_cases c1 : i = s.size
      · rw [if_pos (.inl c1)] at hstep
        have c1d : decide ((i : Int) = (s.size : Int)) = true := decide_eq_true (by omega)
        simp only [push_cast, seval, hle, c1d, b1, hi', hsl, hsn, a1, a2, hws, flatRows, flatRow]
        refine ⟨_, ?_, hX ⟨i', by omega⟩ (by simp only; omega)⟩
        simp only [hstep, List.length_append, List.length_cons, List.length_nil, Nat.zero_add]
        exact Weak.drop (by simp only [push_cast, seval]) (by simp only [push_cast, seval]) (by simp only [push_cast, seval])
      · have hlt : i < s.size := by omega
        have c1d : decide ((i : Int) = (s.size : Int)) = false := decide_eq_false (by omega)
        have hlti : (i : Int) < (s.size : Int) := by omega
        have hb := bu_get hlt
        by_cases c2 : bu s i = c
        · rw [if_pos (.inr c2)] at hstep
          have c2d : decide (((bu s i).toNat : Int) = (c.toNat : Int)) = true := decide_eq_true (u8_eq.2 c2)
          simp only [push_cast, seval, hle, c1d, c2d, hb, hlti, b1, hi', hsl, hsn, a1, a2, hws, flatRows, flatRow]
          refine ⟨_, ?_, hX ⟨i', by omega⟩ (by simp only; omega)⟩
          simp only [hstep, List.length_append, List.length_cons, List.length_nil, Nat.zero_add]
          exact Weak.drop (by simp only [push_cast, seval]) (by simp only [push_cast, seval]) (by simp only [push_cast, seval])
        · rw [if_neg (by rintro (h | h); exact c1 h; exact c2 h)] at hstep
          have c2d : decide (((bu s i).toNat : Int) = (c.toNat : Int)) = false := decide_eq_false fun h => c2 (u8_eq.1 h)
          simp only [push_cast, seval, hle, c1d, c2d, hb, hlti, hws]
          refine ⟨_, ?_, hX ⟨i', by omega⟩ (by simp only; omega)⟩
          simp only [hstep]
          exact Weak.same (by simp only [push_cast, seval])
    · have hie : i = s.size + 1 := by omega
      have hsl2 : (strs (splL s c)).length = (splL s c).length := strs_length _
      have hBs : B.2 = splL s c := by rw [hB, hie]; rfl
      rw [← hB, hBs]
      simp only [Try.ntmps172, Try.results172, push_cast, seval, hle]
      refine ⟨_, Weak.refl _, ?_⟩
      simp only [Try.ntmps172, Try.results172, push_cast, seval, hsl2]
def prtA (s : ByteArray) : Nat → Nat × List ByteArray
  | 0 => (0, [])
  | i + 1 => if i < s.size ∧ bu s i ≠ 32 then prtA s i else (i + 1, if (prtA s i).1 < i then (prtA s i).2 ++ [s.extract (prtA s i).1 i] else (prtA s i).2)
theorem prtA_b (s : ByteArray) : ∀ i, (prtA s i).1 ≤ i ∧ (prtA s i).2.length ≤ i
  | 0 => ⟨Nat.le_refl _, Nat.le_refl _⟩
  | i + 1 => by
    obtain ⟨h1, h2⟩ := prtA_b s i
    unfold prtA
    split
    · exact ⟨by omega, by omega⟩
    · refine ⟨Nat.le_refl _, ?_⟩
      simp only
      split
      · rw [List.length_append]; simp only [List.length_cons, List.length_nil]; omega
      · omega
def okCh (b : UInt8) : Bool := decide (32 ≤ b.toNat) && decide (b.toNat ≤ 126)
def prtL (s : ByteArray) : List ByteArray := (prtA s (s.size + 1)).2
def ptB (s : ByteArray) : Bool := decide (s.size ≤ 600) && ((List.range s.size).all fun i => okCh (bu s i)) && decide ((prtL s).length ≤ 10)
def ptL (s : ByteArray) : List ByteArray := if ptB s then prtL s else []
theorem ptB_bad {s : ByteArray} {i : Nat} (hi : i < s.size) (h : okCh (bu s i) = false) : ptB s = false := by
  have : ((List.range s.size).all fun i => okCh (bu s i)) = false := by
    rw [List.all_eq_false]
    exact ⟨i, List.mem_range.2 hi, by rw [h]; exact Bool.false_ne_true⟩
  simp [ptB, this]
set_option maxHeartbeats 1000000 in
theorem partsOf_ok (s : ByteArray) (hs : s.size ≤ 140737488355328) : PureFn Try.prog 151 [st s] [.one (.own 1 (vR (strs (ptL s)))), bo (ptB s)] := by
  refine PureFn_of_GoW Try.func151 rfl (by decide) mo (by decide +kernel) ?_
  have bad : ptB s = false → ([.one (.own 1 (vR (strs (ptL s)))), bo (ptB s)] : List X) = [.one (.own 1 []), bo false] := fun h => by
    simp only [ptL, h, Bool.false_eq_true, if_false]; rfl
  by_cases h6 : (600 : Int) < (s.size : Int)
  · rw [bad (by simp only [ptB, decide_eq_false (show ¬ s.size ≤ 600 by omega), Bool.false_and])]
    simp only [Try.ntmps151, Try.results151, push_cast, seval, h6]
    refine ⟨_, Weak.refl _, ?_⟩
    simp only [Try.ntmps151, Try.results151, push_cast, seval]
  have h6n : s.size ≤ 600 := by omega
  simp only [Try.ntmps151, Try.results151, push_cast, seval, h6]
  refine Go_loop (α := {i : Nat // i ≤ s.size + 1 ∧ ∀ j, j < i → j < s.size → okCh (bu s j) = true}) (fun i => ⟨tp 62 [(0, .x (st s)), (4, .x (.one (.rs (0, 3456) [] 1 0 (prtA s i.1).2.length))), (5, int (prtA s i.1).1), (6, int i.1)], 0, [((0, 3456), ⟨.sl, 1, vR (strs (prtA s i.1).2)⟩)], []⟩)
    (fun i => s.size + 1 - i.1) ⟨0, Nat.zero_le _, fun j h => absurd h (Nat.not_lt_zero _)⟩ ?_ ?_
  · refine Weak.trans (Weak.rename' (0, 448) (0, 3456) (Nat.le_refl _) (Nat.le_refl _) (by decide) rfl) ?_
    simp only
    rw [show vR (strs (prtA s 0).2) = [] from rfl]
    simp only [push_cast, seval, ren_vR', prtA]
    exact Weak.same (by simp only [push_cast, seval, Int.ofNat_zero])
  · rintro ⟨i, hi, hok⟩ X hX
    simp only
    obtain ⟨b1, b2⟩ := prtA_b s i
    obtain ⟨B, hB⟩ : ∃ B, B = prtA s i := ⟨_, rfl⟩
    rw [← hB] at b1 b2
    have hsl := strs_length B.2
    by_cases hle : (i : Int) ≤ (s.size : Int)
    · have hi' : i ≤ s.size := by omega
      obtain ⟨i', hi1⟩ : ∃ i', i' = i + 1 := ⟨_, rfl⟩
      have hws : IntKind.i64.wrap ((i : Int) + 1) = (i' : Int) := wN (by omega) (by omega)
      have a0 : B.2.length + 1 ≤ 4294967296 := by omega
      have a1 := max_len a0
      have a2 := room_le (b := 16) a0 (by decide)
      have hsn := strs_snoc B.2 (s.extract B.1 i)
      have hstep : prtA s i' = if i < s.size ∧ bu s i ≠ 32 then B else (i', if B.1 < i then B.2 ++ [s.extract B.1 i] else B.2) := by rw [hi1, prtA, ← hB]
      rw [← hB]
      -- at the end of a part
      by_cases hlt : i < s.size
      · have hlti : (i : Int) < (s.size : Int) := by omega
        have hb := bu_get hlt
        by_cases c0 : okCh (bu s i) = true
        · have hok' : ∀ j, j < i' → j < s.size → okCh (bu s j) = true := fun j h1 h2 => by
            by_cases e : j = i
            · rw [e]; exact c0
            · exact hok j (by omega) h2
          simp only [okCh, Bool.and_eq_true, decide_eq_true_eq] at c0
          have d1 : ¬ ((bu s i).toNat : Int) < 32 := by omega
          have d2 : ¬ (126 : Int) < ((bu s i).toNat : Int) := by omega
          by_cases c3 : bu s i = 32
          · have c3d : (decide ¬ ((bu s i).toNat : Int) = 32) = false := by rw [c3]; rfl
            rw [if_neg (fun h => h.2 c3)] at hstep
            by_cases c4 : B.1 < i
            · have c4i : (B.1 : Int) < (i : Int) := by omega
              rw [if_pos c4] at hstep
              simp only [Try.ntmps151, Try.results151, push_cast, seval, hle, hlti, hb, d1, d2, c3d, c4i, b1, hi', hsl, hsn, a1, a2, hws, flatRows, flatRow]
              refine ⟨_, ?_, hX ⟨i', by omega, hok'⟩ (by simp only; omega)⟩
              simp only [hstep, List.length_append, List.length_cons, List.length_nil, Nat.zero_add]
              exact Weak.drop (by simp only [push_cast, seval]) (by simp only [push_cast, seval]) (by simp only [push_cast, seval])
            · have c4i : ¬ (B.1 : Int) < (i : Int) := by omega
              rw [if_neg c4] at hstep
              simp only [Try.ntmps151, Try.results151, push_cast, seval, hle, hlti, hb, d1, d2, c3d, c4i, hws]
              refine ⟨_, ?_, hX ⟨i', by omega, hok'⟩ (by simp only; omega)⟩
              simp only [hstep]
              exact Weak.same (by simp only [push_cast, seval])
          · have c3d : (decide ¬ ((bu s i).toNat : Int) = 32) = true := decide_eq_true fun h => c3 (UInt8.toNat_inj.1 (by rw [show (32 : UInt8).toNat = 32 from rfl]; omega))
            rw [if_pos ⟨hlt, c3⟩] at hstep
            simp only [Try.ntmps151, Try.results151, push_cast, seval, hle, hlti, hb, d1, d2, c3d, hws]
            refine ⟨_, ?_, hX ⟨i', by omega, hok'⟩ (by simp only; omega)⟩
            simp only [hstep]
            exact Weak.same (by simp only [push_cast, seval])
        · rw [bad (ptB_bad hlt (by simpa using c0))]
          simp only [okCh, Bool.and_eq_true, decide_eq_true_eq] at c0
          by_cases d1 : ((bu s i).toNat : Int) < 32
          · simp only [Try.ntmps151, Try.results151, push_cast, seval, hle, hlti, hb, d1]
            refine ⟨_, Weak.refl _, ?_⟩
            simp only [Try.ntmps151, Try.results151, push_cast, seval]
          · have d2 : (126 : Int) < ((bu s i).toNat : Int) := by omega
            simp only [Try.ntmps151, Try.results151, push_cast, seval, hle, hlti, hb, d1, d2]
            refine ⟨_, Weak.refl _, ?_⟩
            simp only [Try.ntmps151, Try.results151, push_cast, seval]
      · have hlti : ¬ (i : Int) < (s.size : Int) := by omega
        rw [if_neg (fun h => hlt h.1)] at hstep
        have hok' : ∀ j, j < i' → j < s.size → okCh (bu s j) = true := fun j h1 h2 => hok j (by omega) h2
        by_cases c4 : B.1 < i
        · have c4i : (B.1 : Int) < (i : Int) := by omega
          rw [if_pos c4] at hstep
          simp only [Try.ntmps151, Try.results151, push_cast, seval, hle, hlti, c4i, b1, hi', hsl, hsn, a1, a2, hws, flatRows, flatRow]
          refine ⟨_, ?_, hX ⟨i', by omega, hok'⟩ (by simp only; omega)⟩
          simp only [hstep, List.length_append, List.length_cons, List.length_nil, Nat.zero_add]
          exact Weak.drop (by simp only [push_cast, seval]) (by simp only [push_cast, seval]) (by simp only [push_cast, seval])
        · have c4i : ¬ (B.1 : Int) < (i : Int) := by omega
          rw [if_neg c4] at hstep
          simp only [Try.ntmps151, Try.results151, push_cast, seval, hle, hlti, c4i, hws]
          refine ⟨_, ?_, hX ⟨i', by omega, hok'⟩ (by simp only; omega)⟩
          simp only [hstep]
          exact Weak.same (by simp only [push_cast, seval])
    · have hie : i = s.size + 1 := by omega
      have hBs : B.2 = prtL s := by rw [hB, hie]; rfl
      have hall : ((List.range s.size).all fun i => okCh (bu s i)) = true := by
        rw [List.all_eq_true]
        intro j hj
        have := List.mem_range.1 hj
        exact hok j (by omega) this
      have hpt : ptB s = decide ((prtL s).length ≤ 10) := by simp only [ptB, hall, decide_eq_true h6n, Bool.true_and]
      have hsl2 : (strs (prtL s)).length = (prtL s).length := strs_length _
      rw [← hB, hBs]
      by_cases h10 : (10 : Int) < ((prtL s).length : Int)
      · rw [bad (by rw [hpt]; exact decide_eq_false (by omega))]
        simp only [Try.ntmps151, Try.results151, push_cast, seval, hle, h10]
        refine ⟨_, Weak.refl _, ?_⟩
        simp only [Try.ntmps151, Try.results151, push_cast, seval]
      · have h10' : ptB s = true := by rw [hpt]; exact decide_eq_true (by omega)
        have hL : ptL s = prtL s := by simp only [ptL, h10', if_true]
        rw [hL, h10']
        simp only [Try.ntmps151, Try.results151, push_cast, seval, hle, h10]
        refine ⟨_, Weak.refl _, ?_⟩
        simp only [Try.ntmps151, Try.results151, push_cast, seval, hsl2]
end Go.Proofs.Ythhgmnpodgmlkaa
namespace Go.Proofs.Ythhgmnpodgmlkaa
open Go.RowKit Go.Rx
set_option linter.unusedSimpArgs false
set_option maxRecDepth 100000
def rdV (s : ByteArray) : Int := if rdB s then (rdN s : Int) else 0
theorem rdX_eq (s : ByteArray) : rdX s = [i64 (rdV s), bo (rdB s)] := by
  cases h : rdB s with
  | true => rw [rdX_true h, rdV, h]; rfl
  | false => rw [rdX_false h, rdV, h]; rfl
theorem rdV_b (s : ByteArray) : 0 ≤ rdV s ∧ rdV s ≤ 1000000000 := by
  unfold rdV
  split
  · rename_i h
    have := (rdB_spec h).1
    omega
  · omega
theorem readDecV_ok (s : ByteArray) (hs : s.size ≤ 140737488355328) : PureFn Try.prog 162 [st s] [i64 (rdV s), bo (rdB s)] := by
  have := readDecS_ok s hs
  rwa [rdX_eq] at this
def starB : ByteArray := ⟨#[42]⟩
def stepB : ByteArray := ⟨#[42, 47]⟩
structure Pc where
  a : Int
  b : Int
  step : Int
  ok : Bool
def pcP (p : List ByteArray) (low high : Int) : Pc :=
  ⟨rdV (p.getD 0 default), if p.length = 2 then rdV (p.getD 1 default) else rdV (p.getD 0 default), 1,
    ((((rdB (p.getD 0 default) && (if p.length = 2 then rdB (p.getD 1 default) else true)) && decide (p.length ≤ 2)) && decide (low ≤ rdV (p.getD 0 default))) && decide (rdV (p.getD 0 default) ≤ (if p.length = 2 then rdV (p.getD 1 default) else rdV (p.getD 0 default)))) && decide ((if p.length = 2 then rdV (p.getD 1 default) else rdV (p.getD 0 default)) ≤ high)⟩
def pcO (s : ByteArray) (low high : Int) : Pc :=
  if s = starB then ⟨low, high, 1, true⟩
  else if 2 < s.size ∧ s.extract 0 2 = stepB then ⟨low, high, rdV (s.extract 2 s.size), rdB (s.extract 2 s.size) && decide (1 ≤ rdV (s.extract 2 s.size))⟩
  else pcP (splL s 45) low high
theorem splL_ne (s : ByteArray) (c : UInt8) : 0 < (splL s c).length := by
  unfold splL splA
  rw [if_pos (.inl rfl), List.length_append]
  simp
theorem splA_mem (s : ByteArray) (c : UInt8) : ∀ i, ∀ x ∈ (splA s c i).2, x.size ≤ s.size
  | 0, x, hx => by cases hx
  | i + 1, x, hx => by
    unfold splA at hx
    split at hx
    · rcases List.mem_append.1 hx with h | h
      · exact splA_mem s c i x h
      · rw [List.mem_singleton.1 h, ByteArray.size_extract]; omega
    · exact splA_mem s c i x hx
theorem splL_size (s : ByteArray) (c : UInt8) {i : Nat} (h : i < (splL s c).length) : ((splL s c).getD i default).size ≤ s.size := by
  refine splA_mem s c (s.size + 1) _ ?_
  show (splL s c).getD i default ∈ splL s c
  rw [List.getD_eq_getElem?_getD, List.getElem?_eq_getElem h]; exact List.getElem_mem h
set_option maxHeartbeats 1000000 in
theorem piece_ok (s : ByteArray) (low high : Int) (hs : s.size ≤ 1048576) : PureFn Try.prog 174 [st s, i64 low, i64 high] [i64 (pcO s low high).a, i64 (pcO s low high).b, i64 (pcO s low high).step, bo (pcO s low high).ok] := by
  refine PureFn_of_Go Try.func174 rfl (by decide) mo (by decide +kernel) ?_
  by_cases h1 : s = starB
  · have h1d : decide (s = ⟨#[42]⟩) = true := decide_eq_true h1
    rw [show pcO s low high = ⟨low, high, 1, true⟩ by rw [pcO, if_pos h1]]
    simp only [Try.ntmps174, Try.results174, push_cast, seval, h1d]
  have h1d : decide (s = ⟨#[42]⟩) = false := decide_eq_false h1
  have e1 : pcO s low high = if 2 < s.size ∧ s.extract 0 2 = stepB then ⟨low, high, rdV (s.extract 2 s.size), rdB (s.extract 2 s.size) && decide (1 ≤ rdV (s.extract 2 s.size))⟩ else pcP (splL s 45) low high := by rw [pcO, if_neg h1]
  have kS := split_ok s 45 hs
  rw [show ((45 : UInt8).toNat : Int) = 45 from rfl] at kS
  have fin : ¬ (2 < s.size ∧ s.extract 0 2 = stepB) → pcO s low high = pcP (splL s 45) low high := fun h => by rw [e1, if_neg h]
  have hpl := strs_length (splL s 45)
  have hp0 := splL_ne s 45
  have hps := fun i => splL_size s 45 (i := i)
  obtain ⟨p, hpe⟩ : ∃ p, p = splL s 45 := ⟨_, rfl⟩
  rw [← hpe] at kS hpl hp0 hps fin
  have hp0i : (0 : Int) < (p.length : Int) := by omega
  have hg0 := strs_getD p hp0
  have k0 := readDecV_ok (p.getD 0 default) (by have := hps 0 hp0; omega)
  by_cases h2 : 2 < s.size
  · have h2i : (2 : Int) < (s.size : Int) := by omega
    have h2n : 2 ≤ s.size := by omega
    by_cases h3 : s.extract 0 2 = stepB
    · have h3d : decide (s.extract 0 2 = ⟨#[42, 47]⟩) = true := decide_eq_true h3
      rw [e1, if_pos ⟨h2, h3⟩]
      have kd := readDecV_ok (s.extract 2 s.size) (by rw [ByteArray.size_extract]; omega)
      simp only [Try.ntmps174, Try.results174, push_cast, seval, h1d, h2i, h2n, h3d]
      refine GoL_call rfl (by simp only [push_cast, seval, h2n]) kd rfl rfl ?_
      cases rdB (s.extract 2 s.size) with
      | true => simp only [Try.ntmps174, Try.results174, push_cast, seval, Bool.true_and]
      | false => simp only [Try.ntmps174, Try.results174, push_cast, seval, Bool.false_and]
    · have h3d : decide (s.extract 0 2 = ⟨#[42, 47]⟩) = false := decide_eq_false h3
      rw [fin fun h => h3 h.2]
      simp only [Try.ntmps174, Try.results174, push_cast, seval, h1d, h2i, h2n, h3d]
      refine GoL_call rfl rfl kS (by simp only [push_cast, seval]) rfl ?_
      simp only [push_cast, seval, hpl, hp0, hp0i, vR_getD, hg0]
      refine GoL_call rfl rfl k0 rfl rfl ?_
      by_cases h5 : p.length = 2
      · have h5d : decide ((p.length : Int) = 2) = true := decide_eq_true (by omega)
        have h51 : 1 < p.length := by omega
        have h51i : (1 : Int) < (p.length : Int) := by omega
        have hg1 := strs_getD p h51
        have k1 := readDecV_ok (p.getD 1 default) (by have := hps 1 h51; omega)
        rw [show pcP p low high = ⟨rdV (p.getD 0 default), rdV (p.getD 1 default), 1, ((((rdB (p.getD 0 default) && rdB (p.getD 1 default)) && decide (p.length ≤ 2)) && decide (low ≤ rdV (p.getD 0 default))) && decide (rdV (p.getD 0 default) ≤ rdV (p.getD 1 default))) && decide (rdV (p.getD 1 default) ≤ high)⟩ by simp only [pcP, if_pos h5]]
        simp only [push_cast, seval, hpl, h5d, h51, h51i, vR_getD, hg1]
        refine GoL_call rfl rfl k1 rfl rfl ?_
        generalize rdV (p.getD 0 default) = v0
        generalize rdV (p.getD 1 default) = v1
        cases q1 : rdB (p.getD 0 default) with
        | false => simp only [Try.ntmps174, Try.results174, push_cast, seval, hpl, q1, Bool.false_and]
        | true =>
          cases q2 : rdB (p.getD 1 default) with
          | false => simp only [Try.ntmps174, Try.results174, push_cast, seval, hpl, q1, q2, Bool.true_and, Bool.false_and]
          | true =>
            by_cases q3 : p.length ≤ 2
            · have q3i : (p.length : Int) ≤ 2 := by omega
              by_cases q4 : low ≤ v0
              · by_cases q5 : v0 ≤ v1
                · by_cases q6 : v1 ≤ high
                  · simp only [Try.ntmps174, Try.results174, push_cast, seval, hpl, q1, q2, q3, q3i, q4, q5, q6, Bool.true_and]
                  · simp only [Try.ntmps174, Try.results174, push_cast, seval, hpl, q1, q2, q3, q3i, q4, q5, q6, Bool.true_and]
                · simp only [Try.ntmps174, Try.results174, push_cast, seval, hpl, q1, q2, q3, q3i, q4, q5, Bool.true_and, Bool.false_and]
              · simp only [Try.ntmps174, Try.results174, push_cast, seval, hpl, q1, q2, q3, q3i, q4, Bool.true_and, Bool.false_and]
            · have q3i : ¬ (p.length : Int) ≤ 2 := by omega
              simp only [Try.ntmps174, Try.results174, push_cast, seval, hpl, q1, q2, q3, q3i, Bool.true_and, Bool.false_and]
      · have h5d : decide ((p.length : Int) = 2) = false := decide_eq_false (by omega)
        rw [show pcP p low high = ⟨rdV (p.getD 0 default), rdV (p.getD 0 default), 1, ((((rdB (p.getD 0 default) && true) && decide (p.length ≤ 2)) && decide (low ≤ rdV (p.getD 0 default))) && decide (rdV (p.getD 0 default) ≤ rdV (p.getD 0 default))) && decide (rdV (p.getD 0 default) ≤ high)⟩ by simp only [pcP, if_neg h5]]
        simp only [push_cast, seval, hpl, h5d]
        generalize rdV (p.getD 0 default) = v0
        cases q1 : rdB (p.getD 0 default) with
        | false => simp only [Try.ntmps174, Try.results174, push_cast, seval, hpl, Bool.and_true, Int.le_refl, q1, Bool.false_and]
        | true =>
            by_cases q3 : p.length ≤ 2
            · have q3i : (p.length : Int) ≤ 2 := by omega
              by_cases q4 : low ≤ v0
              · by_cases q5 : v0 ≤ v0
                · by_cases q6 : v0 ≤ high
                  · simp only [Try.ntmps174, Try.results174, push_cast, seval, hpl, Bool.and_true, Int.le_refl, q1, q3, q3i, q4, q5, q6, Bool.true_and]
                  · simp only [Try.ntmps174, Try.results174, push_cast, seval, hpl, Bool.and_true, Int.le_refl, q1, q3, q3i, q4, q5, q6, Bool.true_and]
                · simp only [Try.ntmps174, Try.results174, push_cast, seval, hpl, Bool.and_true, Int.le_refl, q1, q3, q3i, q4, q5, Bool.true_and, Bool.false_and]
              · simp only [Try.ntmps174, Try.results174, push_cast, seval, hpl, Bool.and_true, Int.le_refl, q1, q3, q3i, q4, Bool.true_and, Bool.false_and]
            · have q3i : ¬ (p.length : Int) ≤ 2 := by omega
              simp only [Try.ntmps174, Try.results174, push_cast, seval, hpl, Bool.and_true, Int.le_refl, q1, q3, q3i, Bool.true_and, Bool.false_and]
  · have h2i : ¬ (2 : Int) < (s.size : Int) := by omega
    rw [fin fun h => h2 h.1]
    simp only [Try.ntmps174, Try.results174, push_cast, seval, h1d, h2i]
    refine GoL_call rfl rfl kS (by simp only [push_cast, seval]) rfl ?_
    simp only [push_cast, seval, hpl, hp0, hp0i, vR_getD, hg0]
    refine GoL_call rfl rfl k0 rfl rfl ?_
    by_cases h5 : p.length = 2
    · have h5d : decide ((p.length : Int) = 2) = true := decide_eq_true (by omega)
      have h51 : 1 < p.length := by omega
      have h51i : (1 : Int) < (p.length : Int) := by omega
      have hg1 := strs_getD p h51
      have k1 := readDecV_ok (p.getD 1 default) (by have := hps 1 h51; omega)
      rw [show pcP p low high = ⟨rdV (p.getD 0 default), rdV (p.getD 1 default), 1, ((((rdB (p.getD 0 default) && rdB (p.getD 1 default)) && decide (p.length ≤ 2)) && decide (low ≤ rdV (p.getD 0 default))) && decide (rdV (p.getD 0 default) ≤ rdV (p.getD 1 default))) && decide (rdV (p.getD 1 default) ≤ high)⟩ by simp only [pcP, if_pos h5]]
      simp only [push_cast, seval, hpl, h5d, h51, h51i, vR_getD, hg1]
      refine GoL_call rfl rfl k1 rfl rfl ?_
      generalize rdV (p.getD 0 default) = v0
      generalize rdV (p.getD 1 default) = v1
      cases q1 : rdB (p.getD 0 default) with
      | false => simp only [Try.ntmps174, Try.results174, push_cast, seval, hpl, q1, Bool.false_and]
      | true =>
        cases q2 : rdB (p.getD 1 default) with
        | false => simp only [Try.ntmps174, Try.results174, push_cast, seval, hpl, q1, q2, Bool.true_and, Bool.false_and]
        | true =>
          by_cases q3 : p.length ≤ 2
          · have q3i : (p.length : Int) ≤ 2 := by omega
            by_cases q4 : low ≤ v0
            · by_cases q5 : v0 ≤ v1
              · by_cases q6 : v1 ≤ high
                · simp only [Try.ntmps174, Try.results174, push_cast, seval, hpl, q1, q2, q3, q3i, q4, q5, q6, Bool.true_and]
                · simp only [Try.ntmps174, Try.results174, push_cast, seval, hpl, q1, q2, q3, q3i, q4, q5, q6, Bool.true_and]
              · simp only [Try.ntmps174, Try.results174, push_cast, seval, hpl, q1, q2, q3, q3i, q4, q5, Bool.true_and, Bool.false_and]
            · simp only [Try.ntmps174, Try.results174, push_cast, seval, hpl, q1, q2, q3, q3i, q4, Bool.true_and, Bool.false_and]
          · have q3i : ¬ (p.length : Int) ≤ 2 := by omega
            simp only [Try.ntmps174, Try.results174, push_cast, seval, hpl, q1, q2, q3, q3i, Bool.true_and, Bool.false_and]
    · have h5d : decide ((p.length : Int) = 2) = false := decide_eq_false (by omega)
      rw [show pcP p low high = ⟨rdV (p.getD 0 default), rdV (p.getD 0 default), 1, ((((rdB (p.getD 0 default) && true) && decide (p.length ≤ 2)) && decide (low ≤ rdV (p.getD 0 default))) && decide (rdV (p.getD 0 default) ≤ rdV (p.getD 0 default))) && decide (rdV (p.getD 0 default) ≤ high)⟩ by simp only [pcP, if_neg h5]]
      simp only [push_cast, seval, hpl, h5d]
      generalize rdV (p.getD 0 default) = v0
      cases q1 : rdB (p.getD 0 default) with
      | false => simp only [Try.ntmps174, Try.results174, push_cast, seval, hpl, Bool.and_true, Int.le_refl, q1, Bool.false_and]
      | true =>
          by_cases q3 : p.length ≤ 2
          · have q3i : (p.length : Int) ≤ 2 := by omega
            by_cases q4 : low ≤ v0
            · by_cases q5 : v0 ≤ v0
              · by_cases q6 : v0 ≤ high
                · simp only [Try.ntmps174, Try.results174, push_cast, seval, hpl, Bool.and_true, Int.le_refl, q1, q3, q3i, q4, q5, q6, Bool.true_and]
                · simp only [Try.ntmps174, Try.results174, push_cast, seval, hpl, Bool.and_true, Int.le_refl, q1, q3, q3i, q4, q5, q6, Bool.true_and]
              · simp only [Try.ntmps174, Try.results174, push_cast, seval, hpl, Bool.and_true, Int.le_refl, q1, q3, q3i, q4, q5, Bool.true_and, Bool.false_and]
            · simp only [Try.ntmps174, Try.results174, push_cast, seval, hpl, Bool.and_true, Int.le_refl, q1, q3, q3i, q4, Bool.true_and, Bool.false_and]
          · have q3i : ¬ (p.length : Int) ≤ 2 := by omega
            simp only [Try.ntmps174, Try.results174, push_cast, seval, hpl, Bool.and_true, Int.le_refl, q1, q3, q3i, Bool.true_and, Bool.false_and]
end Go.Proofs.Ythhgmnpodgmlkaa
namespace Go.Proofs.Ythhgmnpodgmlkaa
open Go.RowKit Go.Rx
set_option linter.unusedSimpArgs false
set_option maxRecDepth 100000
def bls (h : List Bool) : List (List Value) := h.map fun b => [.bool b]
theorem bls_length (h : List Bool) : (bls h).length = h.length := by simp [bls]
theorem bls_getD (h : List Bool) {i : Nat} (hi : i < h.length) : (bls h).getD i [] = [.bool (h.getD i false)] := by
  simp [bls, List.getD_eq_getElem?_getD, List.getElem?_map, List.getElem?_eq_getElem hi]
theorem bls_rep (n : Nat) : List.replicate n [C.v (.bool false)] = vR (bls (List.replicate n false)) := by simp [vR, bls]
theorem bls_set (h : List Bool) (i : Nat) (b : Bool) : (vR (bls h)).set i [.v (.bool b)] = vR (bls (h.set i b)) := by simp [vR, bls, List.map_set]
def stp (b step : Int) : Nat → Int → List Bool → List Bool
  | 0, _, h => h
  | f + 1, x, h => if x ≤ b then stp b step f (x + step) (h.set x.toNat true) else h
theorem stp_len (b step : Int) : ∀ (f : Nat) (x : Int) (h : List Bool), (stp b step f x h).length = h.length
  | 0, _, _ => rfl
  | f + 1, x, h => by
    unfold stp
    split
    · rw [stp_len b step f, List.length_set]
    · rfl
def hasA (p : List ByteArray) (low high : Nat) : Nat → Option (List Bool)
  | 0 => some (List.replicate (high + 1) false)
  | i + 1 => match hasA p low high i with
    | none => none
    | some h => if (pcO (p.getD i default) low high).ok then some (stp (pcO (p.getD i default) low high).b (pcO (p.getD i default) low high).step (high + 1) (pcO (p.getD i default) low high).a h) else none
theorem hasA_len {p : List ByteArray} {low high : Nat} : ∀ {i : Nat} {h : List Bool}, hasA p low high i = some h → h.length = high + 1
  | 0, h, e => by cases e; simp
  | i + 1, h, e => by
    unfold hasA at e
    split at e
    · cases e
    · rename_i h' he
      split at e
      · cases e
        rw [stp_len]; exact hasA_len he
      · cases e
theorem hasA_none {p : List ByteArray} {low high : Nat} : ∀ {i j : Nat}, i ≤ j → hasA p low high i = none → hasA p low high j = none
  | i, 0, h, e => by obtain rfl : i = 0 := by omega
                     cases e
  | i, j + 1, h, e => by
    by_cases hij : i = j + 1
    · rw [← hij]; exact e
    · unfold hasA
      rw [hasA_none (show i ≤ j by omega) e]
def outA (h : List Bool) (low : Nat) : Nat → List Int
  | 0 => []
  | k + 1 => if h.getD (low + k) false then outA h low k ++ [((low + k : Nat) : Int)] else outA h low k
theorem outA_len (h : List Bool) (low : Nat) : ∀ k, (outA h low k).length ≤ k
  | 0 => Nat.le_refl _
  | k + 1 => by
    have := outA_len h low k
    unfold outA
    split
    · rw [List.length_append]; simp only [List.length_cons, List.length_nil]; omega
    · omega
def fldO (s : ByteArray) (low high : Nat) : Option (List Int) := (hasA (splL s 44) low high (splL s 44).length).map fun h => outA h low (high + 1 - low)
def fldX (s : ByteArray) (low high : Nat) : List X := match fldO s low high with
  | some l => [.one (.own 1 (vR (ints l))), bo true]
  | none => [.one (.own 1 []), bo false]
theorem pcO_ok {s : ByteArray} {low high : Nat} (hl : low ≤ 100) (h : (pcO s low high).ok = true) : (low : Int) ≤ (pcO s low high).a ∧ (pcO s low high).b ≤ (high : Int) ∧ (1 ≤ (pcO s low high).step ∧ (pcO s low high).step ≤ 1000000000) ∧ (pcO s low high).a ≤ 1000000000 := by
  unfold pcO at h ⊢
  split
  · exact ⟨Int.le_refl _, Int.le_refl _, ⟨Int.le_refl _, show (1 : Int) ≤ 1000000000 by decide⟩, by show (low : Int) ≤ 1000000000; omega⟩
  · rename_i h1
    rw [if_neg h1] at h
    split
    · rename_i h2
      rw [if_pos h2] at h
      simp only [Bool.and_eq_true, decide_eq_true_eq] at h
      exact ⟨Int.le_refl _, Int.le_refl _, ⟨h.2, (rdV_b _).2⟩, by show (low : Int) ≤ 1000000000; omega⟩
    · rename_i h2
      rw [if_neg h2] at h
      simp only [pcP, Bool.and_eq_true, decide_eq_true_eq] at h ⊢
      obtain ⟨⟨⟨⟨_, _⟩, h3⟩, h4⟩, h5⟩ := h
      exact ⟨h3, h5, ⟨by omega, by omega⟩, (rdV_b _).2⟩
theorem stp_end {b step x : Int} (hx : ¬ x ≤ b) (f : Nat) (h : List Bool) : stp b step f x h = h := by
  cases f with
  | zero => rfl
  | succ f => rw [stp, if_neg hx]
theorem ints_snocE (l : List Int) (x : Int) : vR (ints l) ++ [[C.v (.int .i64 x)]] = vR (ints (l ++ [x])) := by simp [vR, ints]
set_option maxHeartbeats 1000000 in
theorem field_ok (s : ByteArray) (low high : Nat) (hs : s.size ≤ 1048576) (hl : low ≤ high) (hh : high ≤ 100) : PureFn Try.prog 169 [st s, i64 ((low : Nat) : Int), i64 ((high : Nat) : Int)] (fldX s low high) := by
  refine PureFn_of_GoW Try.func169 rfl (by decide) mo (by decide +kernel) ?_
  have kS := split_ok s 44 hs
  rw [show ((44 : UInt8).toNat : Int) = 44 from rfl] at kS
  have hpl := strs_length (splL s 44)
  have hps := fun i => splL_size s 44 (i := i)
  have hpn := (splA_b s 44 (s.size + 1)).2
  have hfX : fldX s low high = match (hasA (splL s 44) low high (splL s 44).length).map fun h => outA h low (high + 1 - low) with
    | some l => [.one (.own 1 (vR (ints l))), bo true]
    | none => [.one (.own 1 []), bo false] := rfl
  rw [hfX]
  rw [show (splA s 44 (s.size + 1)).2 = splL s 44 from rfl] at hpn
  generalize splL s 44 = p at kS hpl hps hpn
  obtain ⟨n1, hn1⟩ : ∃ n1, n1 = high + 1 := ⟨_, rfl⟩
  have w1 : IntKind.i64.wrap ((high : Int) + 1) = (n1 : Int) := wN (by omega) (by omega)
  have m1 : n1 * 1 ≤ 281474976710656 := by omega
  have m2 : n1 ≤ 9223372036854775807 := by omega
  simp only [Try.ntmps169, Try.results169, push_cast, seval, w1, m1, m2, bls_rep]
  refine GoL_call rfl rfl kS (by simp only [push_cast, seval]) rfl ?_
  simp only [Try.ntmps169, Try.results169, push_cast, seval, hpl]
  refine Go_loop (α := {q : Nat × List Bool // q.1 ≤ p.length ∧ hasA p low high q.1 = some q.2}) (fun q => ⟨tp 70 [(0, .x (st s)), (1, int low), (2, int high), (8, .x (.one (.rs (0, 1280) [] 1 0 n1))), (9, .x (.one (.rs (0, 1408) [] 1 0 p.length))), (10, int q.1.1)], 0, [((0, 1408), ⟨.sl, 1, vR (strs p)⟩), ((0, 1280), ⟨.sl, 1, vR (bls q.1.2)⟩)], []⟩)
    (fun q => p.length - q.1.1) ⟨(0, List.replicate n1 false), Nat.zero_le _, by rw [hn1]; rfl⟩ ?_ ?_
  · exact Weak.same (by simp only [push_cast, seval, Int.ofNat_zero])
  · rintro ⟨⟨i, h⟩, hi, he⟩ X hX
    simp only at hi he
    have hhl := hasA_len he
    rw [← hn1] at hhl
    have hbl := bls_length h
    rw [hhl] at hbl
    by_cases hlt : (i : Int) < (p.length : Int)
    · have hi' : i < p.length := by omega
      have hg := strs_getD p hi'
      obtain ⟨i', hi1⟩ : ∃ i', i' = i + 1 := ⟨_, rfl⟩
      have hws : IntKind.i64.wrap ((i : Int) + 1) = (i' : Int) := wN (by omega) (by omega)
      have kP := piece_ok (p.getD i default) low high (by have := hps i hi'; omega)
      have hstep : hasA p low high i' = if (pcO (p.getD i default) low high).ok then some (stp (pcO (p.getD i default) low high).b (pcO (p.getD i default) low high).step (high + 1) (pcO (p.getD i default) low high).a h) else none := by rw [hi1]; simp only [hasA, he]
      have hpc := pcO_ok (s := p.getD i default) (low := low) (high := high) (by omega)
      obtain ⟨q, hq⟩ : ∃ q, q = pcO (p.getD i default) low high := ⟨_, rfl⟩
      rw [← hq] at kP hstep hpc
      simp only [push_cast, seval, hlt, hpl, hi', vR_getD, hg]
      refine GoL_call rfl rfl kP rfl rfl ?_
      cases hok : q.ok with
      | false =>
        rw [hok] at hstep
        simp only [Bool.false_eq_true, if_false] at hstep
        rw [hasA_none (show i' ≤ p.length by omega) hstep]
        simp only [Try.ntmps169, Try.results169, push_cast, seval, Option.map_none]
        refine ⟨_, Weak.refl _, ?_⟩
        simp only [Try.ntmps169, Try.results169, push_cast, seval]
      | true =>
        rw [hok] at hstep
        simp only [if_true] at hstep
        obtain ⟨g1, g2, ⟨g3, g4⟩, g5⟩ := hpc hok
        obtain ⟨T, hT⟩ : ∃ T, T = stp q.b q.step (high + 1) q.a h := ⟨_, rfl⟩
        rw [← hT] at hstep
        simp only [push_cast, seval]
        refine Go_loop (α := {r : (Nat × Int) × List Bool // r.2.length = n1 ∧ (low : Int) ≤ r.1.2 ∧ r.1.2 ≤ 1000000200 ∧ q.b - r.1.2 < r.1.1 ∧ stp q.b q.step r.1.1 r.1.2 r.2 = T}) (fun r => ⟨tp 70 [(0, .x (st s)), (1, int low), (2, int high), (8, .x (.one (.rs (0, 1280) [] 1 0 n1))), (9, .x (.one (.rs (0, 1408) [] 1 0 p.length))), (10, int i), (12, .x (i64 q.b)), (13, .x (i64 q.step)), (15, .x (i64 r.1.1.2))], 0, [((0, 1408), ⟨.sl, 1, vR (strs p)⟩), ((0, 1280), ⟨.sl, 1, vR (bls r.1.2)⟩)], []⟩)
          (fun r => r.1.1.1) ⟨((high + 1, q.a), h), hhl, g1, ?_, ?_, hT.symm⟩ ?_ ?_
        · show q.a ≤ 1000000200; omega
        · show q.b - q.a < ((high + 1 : Nat) : Int); omega
        · exact Weak.same (by simp only [push_cast, seval])
        · rintro ⟨⟨⟨f, x⟩, h2⟩, r1, r2, r3, r4, r5⟩ X2 hX2
          simp only at r1 r2 r3 r4 r5
          have hbl2 := bls_length h2
          rw [r1] at hbl2
          by_cases hx : x ≤ q.b
          · obtain ⟨n, rfl⟩ := Int.eq_ofNat_of_zero_le (show 0 ≤ x by omega)
            have hn : n < n1 := by omega
            have hni : (n : Int) < (n1 : Int) := by omega
            have wx : IntKind.i64.wrap ((n : Int) + q.step) = (n : Int) + q.step := by rw [IntKind.wrap_i64]; omega
            obtain ⟨f', rfl⟩ : ∃ f', f = f' + 1 := ⟨f - 1, by omega⟩
            rw [stp, if_pos hx] at r5
            have hset := bls_set h2 n true
            have hgb := bls_getD h2 (i := n) (by omega)
            have hx2 := hX2 ⟨((f', (n : Int) + q.step), h2.set n true), by rw [List.length_set]; exact r1, by show (low : Int) ≤ (n : Int) + q.step; omega, by show (n : Int) + q.step ≤ 1000000200; omega, by show q.b - ((n : Int) + q.step) < (f' : Int); omega, r5⟩ (by simp only; omega)
            simp only [push_cast, seval, hx, hbl2, hn, hni, vR_getD, hgb, hset, wx]
            refine ⟨_, ?_, hx2⟩
            exact Weak.drop (by simp only [push_cast, seval, hbl2]) (by simp only [push_cast, seval, hbl2]) (by simp only [push_cast, seval, hbl2])
          · rw [stp_end hx] at r5
            subst r5
            simp only [push_cast, seval, hx, hws]
            refine ⟨_, ?_, hX ⟨(i', h2), by simp only; omega, hstep⟩ (by simp only; omega)⟩
            exact Weak.same (by simp only [push_cast, seval])
    · obtain rfl : i = p.length := by omega
      simp only [he]
      simp only [push_cast, seval, hlt, hpl, Option.map_some]
      refine Go_loop (α := {k : Nat // k ≤ high + 1 - low}) (fun k => ⟨tp 70 [(2, int high), (8, .x (.one (.rs (0, 1280) [] 1 0 n1))), (16, .x (.one (.rs (0, 4352) [] 1 0 (outA h low k.1).length))), (17, int (low + k.1 : Nat))], 0, [((0, 4352), ⟨.sl, 1, vR (ints (outA h low k.1))⟩), ((0, 1280), ⟨.sl, 1, vR (bls h)⟩)], []⟩)
        (fun k => high + 1 - low - k.1) ⟨0, Nat.zero_le _⟩ ?_ ?_
      · refine Weak.trans (Weak.rename' (0, 3456) (0, 4352) (Nat.le_refl _) (Nat.le_refl _) (by decide) rfl) ?_
        rw [show vR (ints (outA h low (⟨0, Nat.zero_le _⟩ : {k : Nat // k ≤ high + 1 - low}).1)) = [] from rfl]
        simp only [Nat.add_zero]
        simp only [push_cast, seval, ren_vR', outA]
        exact Weak.drop (by simp only [push_cast, seval, hbl]) (by simp only [push_cast, seval, hbl]) (by simp only [push_cast, seval, hbl])
      · rintro ⟨k, hk⟩ X3 hX3
        simp only
        have hol := outA_len h low k
        have hil := ints_length (outA h low k)
        obtain ⟨x, hx⟩ : ∃ x, x = low + k := ⟨_, rfl⟩
        rw [← hx]
        by_cases hxh : (x : Int) ≤ (high : Int)
        · obtain ⟨k', hk1⟩ : ∃ k', k' = k + 1 := ⟨_, rfl⟩
          have hstep2 : outA h low k' = if h.getD x false then outA h low k ++ [(x : Int)] else outA h low k := by rw [hk1, outA, ← hx]
          have hx' : low + k' = x + 1 := by omega
          obtain ⟨x', hx1⟩ : ∃ x', x' = x + 1 := ⟨_, rfl⟩
          have wx : IntKind.i64.wrap ((x : Int) + 1) = (x' : Int) := wN (by omega) (by omega)
          have hxn : x < n1 := by omega
          have hxi : (x : Int) < (n1 : Int) := by omega
          have hgb := bls_getD h (i := x) (by omega)
          have a0 : (outA h low k).length + 1 ≤ 4294967296 := by omega
          have a1 := max_len a0
          have a2 := room_le (b := 8) a0 (by decide)
          have hsn := ints_snocE (outA h low k) (x : Int)
          rw [← hx1] at hx'
          cases hb : h.getD x false with
          | true =>
            rw [hb] at hgb hstep2
            simp only [if_true] at hstep2
            simp only [push_cast, seval, hxh, hbl, hxn, hxi, vR_getD, hgb, hil, hsn, a1, a2, wx, flatRows, flatRow]
            refine ⟨_, ?_, hX3 ⟨k', by omega⟩ (by simp only; omega)⟩
            simp only [hstep2, hx', List.length_append, List.length_cons, List.length_nil, Nat.zero_add]
            exact Weak.drop (by simp only [push_cast, seval, hbl]) (by simp only [push_cast, seval, hbl]) (by simp only [push_cast, seval, hbl])
          | false =>
            rw [hb] at hgb hstep2
            simp only [Bool.false_eq_true, if_false] at hstep2
            simp only [push_cast, seval, hxh, hbl, hxn, hxi, vR_getD, hgb, wx]
            refine ⟨_, ?_, hX3 ⟨k', by omega⟩ (by simp only; omega)⟩
            simp only [hstep2, hx']
            exact Weak.same (by simp only [push_cast, seval])
        · have hke : k = high + 1 - low := by omega
          subst hke
          simp only [Try.ntmps169, Try.results169, push_cast, seval, hxh]
          refine ⟨_, Weak.refl _, ?_⟩
          simp only [Try.ntmps169, Try.results169, push_cast, seval, hil]
end Go.Proofs.Ythhgmnpodgmlkaa
namespace Go.Proofs.Ythhgmnpodgmlkaa
open Go.RowKit Go.Rx
set_option linter.unusedSimpArgs false
set_option maxRecDepth 100000
def nilS : C := .v (.slice none 0 0)
theorem prtA_mem (s : ByteArray) : ∀ i, ∀ x ∈ (prtA s i).2, x.size ≤ s.size
  | 0, x, hx => by cases hx
  | i + 1, x, hx => by
    unfold prtA at hx
    split at hx
    · exact prtA_mem s i x hx
    · simp only at hx
      split at hx
      · rcases List.mem_append.1 hx with h | h
        · exact prtA_mem s i x h
        · rw [List.mem_singleton.1 h, ByteArray.size_extract]; omega
      · exact prtA_mem s i x hx
theorem ptL_size (s : ByteArray) {i : Nat} (h : i < (ptL s).length) : ((ptL s).getD i default).size ≤ 600 := by
  have hm : (ptL s).getD i default ∈ ptL s := by rw [List.getD_eq_getElem?_getD, List.getElem?_eq_getElem h]; exact List.getElem_mem h
  generalize (ptL s).getD i default = x at hm
  unfold ptL at hm
  split at hm
  · rename_i hb
    have := prtA_mem s _ x hm
    simp only [ptB, Bool.and_eq_true, decide_eq_true_eq] at hb
    omega
  · cases hm
structure Crn where
  m : List Int
  h : List Int
  d : List Int
  mo : List Int
  w : List Int
def fldL (s : ByteArray) (low high : Nat) : List Int := (fldO s low high).getD []
def fldB (s : ByteArray) (low high : Nat) : Bool := (fldO s low high).isSome
theorem fldX_eq (s : ByteArray) (low high : Nat) : fldX s low high = [.one (.own 1 (vR (ints (fldL s low high)))), bo (fldB s low high)] := by
  unfold fldX fldL fldB
  cases fldO s low high <;> rfl
theorem fldL_len (s : ByteArray) (low high : Nat) : (fldL s low high).length ≤ high + 1 - low := by
  unfold fldL fldO
  cases hasA (splL s 44) low high (splL s 44).length with
  | none => exact Nat.zero_le _
  | some h => exact outA_len h low _
def crP (p : List ByteArray) : Crn := ⟨fldL (p.getD 0 default) 0 59, fldL (p.getD 1 default) 0 23, fldL (p.getD 2 default) 1 31, fldL (p.getD 3 default) 1 12, fldL (p.getD 4 default) 0 6⟩
def crQ (p : List ByteArray) : List Bool := [fldB (p.getD 0 default) 0 59, fldB (p.getD 1 default) 0 23, fldB (p.getD 2 default) 1 31, fldB (p.getD 3 default) 1 12, fldB (p.getD 4 default) 0 6]
def crB (s : ByteArray) : Bool := (ptB s && decide ((ptL s).length = 5)) && (crQ (ptL s)).all id
def crC (f : List Int → C) (c : Crn) : List C := [f c.m, f c.h, f c.d, f c.mo, f c.w]
def ownI (l : List Int) : C := .own 1 (vR (ints l))
def shI (l : List Int) : C := .sh 1 (vR (ints l))
def crX (s : ByteArray) : List X := if crB s then [.agg (crC ownI (crP (ptL s))), bo true] else [.agg [nilS, nilS, nilS, nilS, nilS], bo false]
theorem make_at {P : Program} {t : TypeId} (σ : St) (N k : Nat) (x : Int) (hx : x = (k : Int)) : makeS P σ (some N) t (int x) (int x) = match tyElem P t with
    | some e => match tyZero P e, tySz P e, tyBytes P e with
      | some zs, some s, some b => if fresh σ N = true ∧ zs.length = s ∧ 0 < s ∧ k * b ≤ 281474976710656 ∧ k ≤ 9223372036854775807 then
          some (put (newSt σ N ⟨.sl, s, List.replicate k (zs.map .v)⟩) (some N) (slV σ N s k)) else makeS' P σ (some N) t (int x) (int x)
      | _, _, _ => makeS' P σ (some N) t (int x) (int x)
    | none => makeS' P σ (some N) t (int x) (int x) := by subst hx; exact make_nat σ N k
set_option maxHeartbeats 1000000 in
theorem parseCron_ok (s : ByteArray) (hs : s.size ≤ 140737488355328) : PureFn Try.prog 160 [st s] (crX s) := by
  refine PureFn_of_GoW Try.func160 rfl (by decide) mo (by decide +kernel) ?_
  have kP := partsOf_ok s hs
  have hpl := strs_length (ptL s)
  have bad : crB s = false → crX s = [.agg [nilS, nilS, nilS, nilS, nilS], bo false] := fun h => by simp only [crX, h, Bool.false_eq_true, if_false]
  simp only [Try.ntmps160, Try.results160, push_cast, seval]
  refine GoL_call rfl rfl kP (by simp only [push_cast, seval]) rfl ?_
  cases hb : ptB s with
  | false =>
    rw [bad (by simp only [crB, hb, Bool.false_and])]
    simp only [Try.ntmps160, Try.results160, push_cast, seval]
    refine ⟨_, Weak.refl _, ?_⟩
    simp only [Try.ntmps160, Try.results160, push_cast, seval, nilS]
  | true =>
    by_cases h5 : (ptL s).length = 5
    · have h5d : (decide ¬ ((ptL s).length : Int) = 5) = false := by rw [h5]; rfl
      have hsz : ∀ i, i < 5 → ((ptL s).getD i default).size ≤ 1048576 := fun i hi => by have := ptL_size s (i := i) (by omega); omega
      have hcr : crX s = if (crQ (ptL s)).all id then [.agg (crC ownI (crP (ptL s))), bo true] else [.agg [nilS, nilS, nilS, nilS, nilS], bo false] := by
        simp only [crX, crB, hb, h5, decide_true, Bool.true_and]
      rw [hcr]
      generalize ptL s = p at hpl h5 h5d hsz
      have hg0 := strs_getD p (show 0 < p.length by omega)
      have hg1 := strs_getD p (show 1 < p.length by omega)
      have hg2 := strs_getD p (show 2 < p.length by omega)
      have hg3 := strs_getD p (show 3 < p.length by omega)
      have hg4 := strs_getD p (show 4 < p.length by omega)
      have f0 := field_ok (p.getD 0 default) 0 59 (hsz 0 (by decide)) (by decide) (by decide)
      have f1 := field_ok (p.getD 1 default) 0 23 (hsz 1 (by decide)) (by decide) (by decide)
      have f2 := field_ok (p.getD 2 default) 1 31 (hsz 2 (by decide)) (by decide) (by decide)
      have f3 := field_ok (p.getD 3 default) 1 12 (hsz 3 (by decide)) (by decide) (by decide)
      have f4 := field_ok (p.getD 4 default) 0 6 (hsz 4 (by decide)) (by decide) (by decide)
      rw [fldX_eq] at f0 f1 f2 f3 f4
      rw [h5] at hpl
      have mk := fun σ : St => make_at (P := Try.prog) (t := 210) σ 23 5 5 rfl
      simp only [Try.ntmps160, Try.results160, push_cast, seval, h5d, hpl, h5, vR_getD, hg0, hg1, hg2, hg3, hg4, mk, List.replicate]
      refine GoL_call rfl rfl f0 (by simp only [push_cast, seval]) rfl ?_
      simp only [Try.ntmps160, Try.results160, push_cast, seval, h5d, hpl, h5, vR_getD, hg0, hg1, hg2, hg3, hg4, ints_length]
      refine GoL_call rfl rfl f1 (by simp only [push_cast, seval]) rfl ?_
      simp only [Try.ntmps160, Try.results160, push_cast, seval, h5d, hpl, h5, vR_getD, hg0, hg1, hg2, hg3, hg4, ints_length]
      refine GoL_call rfl rfl f2 (by simp only [push_cast, seval]) rfl ?_
      simp only [Try.ntmps160, Try.results160, push_cast, seval, h5d, hpl, h5, vR_getD, hg0, hg1, hg2, hg3, hg4, ints_length]
      refine GoL_call rfl rfl f3 (by simp only [push_cast, seval]) rfl ?_
      simp only [Try.ntmps160, Try.results160, push_cast, seval, h5d, hpl, h5, vR_getD, hg0, hg1, hg2, hg3, hg4, ints_length]
      refine GoL_call rfl rfl f4 (by simp only [push_cast, seval]) rfl ?_
      simp only [Try.ntmps160, Try.results160, push_cast, seval, h5d, hpl, h5, vR_getD, hg0, hg1, hg2, hg3, hg4, ints_length]
      have hQ : crQ p = [fldB (p.getD 0 default) 0 59, fldB (p.getD 1 default) 0 23, fldB (p.getD 2 default) 1 31, fldB (p.getD 3 default) 1 12, fldB (p.getD 4 default) 0 6] := rfl
      have hC : crP p = ⟨fldL (p.getD 0 default) 0 59, fldL (p.getD 1 default) 0 23, fldL (p.getD 2 default) 1 31, fldL (p.getD 3 default) 1 12, fldL (p.getD 4 default) 0 6⟩ := rfl
      rw [hC]
      have hL0 := ints_length (fldL (p.getD 0 default) 0 59)
      have hL1 := ints_length (fldL (p.getD 1 default) 0 23)
      have hL2 := ints_length (fldL (p.getD 2 default) 1 31)
      have hL3 := ints_length (fldL (p.getD 3 default) 1 12)
      have hL4 := ints_length (fldL (p.getD 4 default) 0 6)
      generalize fldL (p.getD 0 default) 0 59 = L0 at hL0 ⊢
      generalize fldL (p.getD 1 default) 0 23 = L1 at hL1 ⊢
      generalize fldL (p.getD 2 default) 1 31 = L2 at hL2 ⊢
      generalize fldL (p.getD 3 default) 1 12 = L3 at hL3 ⊢
      generalize fldL (p.getD 4 default) 0 6 = L4 at hL4 ⊢
      have hq5 : (crQ p).length = 5 := rfl
      have hrows : ([[C.v (.bool (fldB (p.getD 0 default) 0 59))], [C.v (.bool (fldB (p.getD 1 default) 0 23))], [C.v (.bool (fldB (p.getD 2 default) 1 31))], [C.v (.bool (fldB (p.getD 3 default) 1 12))], [C.v (.bool (fldB (p.getD 4 default) 0 6))]] : List (List C)) = vR (bls (crQ p)) := rfl
      rw [hrows]
      clear hQ hrows hC f0 f1 f2 f3 f4
      generalize crQ p = q at hq5
      have hbl := bls_length q
      rw [hq5] at hbl
      refine Go_loop (α := {j : Nat // j ≤ 5 ∧ ∀ x, x < j → q.getD x false = true}) (fun j => ⟨tp 85 [(2, .x (.one (.pt (0, 128) [] 5 0 0))), (6, .x (.one (.pt (0, 384) [] 5 0 0))), (7, .x (.one (.rs (0, 1472) [] 1 0 5))), (8, int j.1)], 0,
        [((0, 4416), ⟨.sl, 1, vR (ints L4)⟩), ((0, 3776), ⟨.sl, 1, vR (ints L3)⟩), ((0, 3136), ⟨.sl, 1, vR (ints L2)⟩), ((0, 2496), ⟨.sl, 1, vR (ints L1)⟩), ((0, 1856), ⟨.sl, 1, vR (ints L0)⟩), ((0, 1472), ⟨.sl, 1, vR (bls q)⟩),
         ((0, 384), ⟨.box, 5, [[.rs (0, 1856) [] 1 0 L0.length, .rs (0, 2496) [] 1 0 L1.length, .rs (0, 3136) [] 1 0 L2.length, .rs (0, 3776) [] 1 0 L3.length, .rs (0, 4416) [] 1 0 L4.length]]⟩), ((0, 128), ⟨.box, 5, [[nilS, nilS, nilS, nilS, nilS]]⟩)], []⟩)
        (fun j => 5 - j.1) ⟨0, Nat.zero_le _, fun x h => absurd h (Nat.not_lt_zero _)⟩ ?_ ?_
      · unfold nilS
        exact Weak.drop (by simp only [push_cast, seval, Int.ofNat_zero, hL0, hL1, hL2, hL3, hL4, hbl]) (by simp only [push_cast, seval, Int.ofNat_zero, hL0, hL1, hL2, hL3, hL4, hbl]) (by simp only [push_cast, seval, Int.ofNat_zero, hL0, hL1, hL2, hL3, hL4, hbl])
      · rintro ⟨j, hj, hall⟩ X hX
        simp only
        by_cases hlt : (j : Int) < 5
        · have hj' : j < 5 := by omega
          have hgb := bls_getD q (i := j) (by omega)
          obtain ⟨j', hj1⟩ : ∃ j', j' = j + 1 := ⟨_, rfl⟩
          have wj : IntKind.i64.wrap ((j : Int) + 1) = (j' : Int) := wN (by omega) (by omega)
          cases hb5 : q.getD j false with
          | false =>
            have hf : q.all id = false := by
              rw [List.all_eq_false]
              exact ⟨q.getD j false, by rw [List.getD_eq_getElem?_getD, List.getElem?_eq_getElem (by omega)]; exact List.getElem_mem _, by rw [hb5]; exact Bool.false_ne_true⟩
            rw [hf]
            rw [hb5] at hgb
            simp only [Try.ntmps160, Try.results160, push_cast, seval, hlt, hbl, hj', vR_getD, hgb, nilS]
            refine ⟨_, Weak.refl _, ?_⟩
            simp only [Try.ntmps160, Try.results160, push_cast, seval, nilS]
          | true =>
            rw [hb5] at hgb
            simp only [Try.ntmps160, Try.results160, push_cast, seval, hlt, hbl, hj', vR_getD, hgb, wj]
            refine ⟨_, ?_, hX ⟨j', by omega, fun x hx => ?_⟩ (by simp only; omega)⟩
            · exact Weak.same (by simp only [push_cast, seval])
            · by_cases e : x = j
              · rw [e]; exact hb5
              · exact hall x (by omega)
        · have hje : j = 5 := by omega
          subst hje
          have ht : q.all id = true := by
            rw [List.all_eq_true]
            intro b hb
            obtain ⟨x, hx, rfl⟩ := List.mem_iff_getElem.1 hb
            have := hall x (by omega)
            rwa [List.getD_eq_getElem?_getD, List.getElem?_eq_getElem hx] at this
          rw [ht]
          simp only [Try.ntmps160, Try.results160, push_cast, seval, hlt, hL0, hL1, hL2, hL3, hL4, nilS]
          refine ⟨_, Weak.refl _, ?_⟩
          simp only [Try.ntmps160, Try.results160, push_cast, seval, hL0, hL1, hL2, hL3, hL4, crC, ownI]
    · have h5d : (decide ¬ ((ptL s).length : Int) = 5) = true := decide_eq_true (by omega)
      rw [bad (by simp only [crB, hb, decide_eq_false h5, Bool.true_and, Bool.false_and])]
      simp only [Try.ntmps160, Try.results160, push_cast, seval, h5d, hpl]
      refine ⟨_, Weak.refl _, ?_⟩
      simp only [Try.ntmps160, Try.results160, push_cast, seval, nilS]
end Go.Proofs.Ythhgmnpodgmlkaa
namespace Go.Proofs.Ythhgmnpodgmlkaa
open Go.RowKit Go.Rx
set_option linter.unusedSimpArgs false
set_option maxRecDepth 100000
theorem l10List_ok (l : List Int) (hl : l.length ≤ 140737488355328) (a b : Int) : PureFn Try.prog 175 [.one (.sh 1 (vR (ints l))), i64 a, i64 b] [bo (decide (rise l a b) && decide ((0 : Int) < (l.length : Int)))] := by
  refine PureFn_of_Go Try.func175 rfl (by decide) mo (by decide +kernel) ?_
  obtain ⟨r, hr⟩ : ∃ r, r = decide (rise l a b) := ⟨_, rfl⟩
  rw [← hr]
  simp only [Try.ntmps175, Try.results175, push_cast, seval, ints_length]
  refine Go_loop (α := {i : Nat // i ≤ l.length ∧ ∀ j, j < i → a ≤ at_ l j ∧ at_ l j ≤ b ∧ (0 < j → at_ l (j - 1) < at_ l j)})
    (fun i => ⟨tp 41 [(0, .x (.one (.sh 1 (vR (ints l))))), (1, .x (i64 a)), (2, .x (i64 b)), (7, int i.1)], 0, [], []⟩) (fun i => l.length - i.1) ⟨0, by omega, fun j h => absurd h (Nat.not_lt_zero _)⟩ ?_ ?_
  · exact Weak.same (by simp only [push_cast, seval, Int.ofNat_zero])
  · rintro ⟨i, hi, hall⟩ X hX
    by_cases hlt : (i : Int) < (l.length : Int)
    · have hi' : i < l.length := by omega
      have ws := wsucc hi' hl
      have hg := ints_getD l hi'
      rw [show l.getD i default = at_ l i from rfl] at hg
      have kn := l01In_ok (at_ l i) a b
      obtain ⟨x, hx⟩ : ∃ x, x = at_ l i := ⟨_, rfl⟩
      rw [← hx] at hg kn
      obtain ⟨i', hi1⟩ : ∃ i', i' = i + 1 := ⟨_, rfl⟩
      rw [← hi1] at ws
      simp only [push_cast, seval, ints_length, hlt, hi', vR_getD, hg]
      refine GoD_call rfl rfl kn rfl rfl ?_
      rw [show (decide (a ≤ x) && decide (x ≤ b)) = inR x a b from rfl]
      cases c1 : inR x a b with
      | false =>
        have hf : r = false := by
          rw [hr]; apply decide_eq_false
          intro h
          have := h i hi'
          have h2 : inR x a b = true := inR_spec.2 ⟨by rw [hx]; exact this.1, by rw [hx]; exact this.2.1⟩
          rw [h2] at c1; cases c1
        subst hf
        simp only [Try.ntmps175, Try.results175, push_cast, seval, Bool.false_and]
      | true =>
        have hin := inR_spec.1 c1
        by_cases c2 : (0 : Int) < (i : Int)
        · have hpi : i - 1 < l.length := by omega
          have hgp := ints_getD l hpi
          rw [show l.getD (i - 1) default = at_ l (i - 1) from rfl] at hgp
          have wp : IntKind.i64.wrap ((i : Int) - 1) = ((i - 1 : Nat) : Int) := wN (by omega) (by omega)
          obtain ⟨p, hp⟩ : ∃ p, p = i - 1 := ⟨_, rfl⟩
          rw [← hp] at hgp wp hpi
          obtain ⟨y, hy⟩ : ∃ y, y = at_ l p := ⟨_, rfl⟩
          rw [← hy] at hgp
          have hpl : (p : Int) < (l.length : Int) := by omega
          by_cases c3 : x ≤ y
          · have hf : r = false := by
              rw [hr]; apply decide_eq_false
              intro h
              have := (h i hi').2.2 (by omega)
              rw [← hp, ← hy, ← hx] at this; omega
            subst hf
            simp only [Try.ntmps175, Try.results175, push_cast, seval, Bool.false_and, ints_length, hlt, hi', hg, c2, wp, hpi, hpl, vR_getD, hgp, c3]
          · simp only [push_cast, seval, ints_length, hlt, hi', hg, c2, wp, hpi, hpl, vR_getD, hgp, c3, ws]
            refine ⟨_, ?_, hX ⟨i', by omega, fun j hj => ?_⟩ (by simp only; omega)⟩
            · exact Weak.same (by simp only [push_cast, seval])
            · by_cases e : j = i
              · subst e
                exact ⟨by rw [← hx]; exact hin.1, by rw [← hx]; exact hin.2, fun _ => by rw [← hp, ← hy, ← hx]; omega⟩
              · exact hall j (by omega)
        · simp only [push_cast, seval, ints_length, c2, ws]
          refine ⟨_, ?_, hX ⟨i', by omega, fun j hj => ?_⟩ (by simp only; omega)⟩
          · exact Weak.same (by simp only [push_cast, seval])
          · by_cases e : j = i
            · subst e
              exact ⟨by rw [← hx]; exact hin.1, by rw [← hx]; exact hin.2, fun h0 => by omega⟩
            · exact hall j (by omega)
    · have ht : r = true := by
        rw [hr]; apply decide_eq_true
        intro j hj; exact hall j (by omega)
      subst ht
      simp only [Try.ntmps175, Try.results175, push_cast, seval, hlt, ints_length]
def lstB (l : List Int) (a b : Int) : Bool := decide (rise l a b) && decide ((0 : Int) < (l.length : Int))
def crnOk (c : Crn) : Bool := lstB c.m 0 59 && (lstB c.h 0 23 && (lstB c.d 1 31 && (lstB c.mo 1 12 && lstB c.w 0 6)))
structure SmC (c : Crn) : Prop where
  m : c.m.length ≤ 1048576
  h : c.h.length ≤ 1048576
  d : c.d.length ≤ 1048576
  mo : c.mo.length ≤ 1048576
  w : c.w.length ≤ 1048576
theorem cronOk_ok (c : Crn) (hs : SmC c) : PureFn Try.prog 170 [.agg (crC shI c)] [bo (crnOk c)] := by
  refine PureFn_of_Go Try.func170 rfl (by decide) mo (by decide +kernel) ?_
  have k1 := l10List_ok c.m (by have := hs.m; omega) 0 59
  have k2 := l10List_ok c.h (by have := hs.h; omega) 0 23
  have k3 := l10List_ok c.d (by have := hs.d; omega) 1 31
  have k4 := l10List_ok c.mo (by have := hs.mo; omega) 1 12
  have k5 := l10List_ok c.w (by have := hs.w; omega) 0 6
  rw [show (decide (rise c.m 0 59) && decide ((0 : Int) < (c.m.length : Int))) = lstB c.m 0 59 from rfl] at k1
  rw [show (decide (rise c.h 0 23) && decide ((0 : Int) < (c.h.length : Int))) = lstB c.h 0 23 from rfl] at k2
  rw [show (decide (rise c.d 1 31) && decide ((0 : Int) < (c.d.length : Int))) = lstB c.d 1 31 from rfl] at k3
  rw [show (decide (rise c.mo 1 12) && decide ((0 : Int) < (c.mo.length : Int))) = lstB c.mo 1 12 from rfl] at k4
  rw [show (decide (rise c.w 0 6) && decide ((0 : Int) < (c.w.length : Int))) = lstB c.w 0 6 from rfl] at k5
  unfold crnOk
  simp only [Try.ntmps170, Try.results170, push_cast, seval, crC, shI]
  refine GoL_call rfl rfl k1 rfl rfl ?_
  cases lstB c.m 0 59 with
  | false => simp only [Try.ntmps170, Try.results170, push_cast, seval, Bool.false_and]
  | true =>
    simp only [Try.ntmps170, Try.results170, push_cast, seval, Bool.true_and]
    refine GoL_call rfl rfl k2 rfl rfl ?_
    cases lstB c.h 0 23 with
    | false => simp only [Try.ntmps170, Try.results170, push_cast, seval, Bool.false_and]
    | true =>
      simp only [Try.ntmps170, Try.results170, push_cast, seval, Bool.true_and]
      refine GoL_call rfl rfl k3 rfl rfl ?_
      cases lstB c.d 1 31 with
      | false => simp only [Try.ntmps170, Try.results170, push_cast, seval, Bool.false_and]
      | true =>
        simp only [Try.ntmps170, Try.results170, push_cast, seval, Bool.true_and]
        refine GoL_call rfl rfl k4 rfl rfl ?_
        cases lstB c.mo 1 12 with
        | false => simp only [Try.ntmps170, Try.results170, push_cast, seval, Bool.false_and]
        | true =>
          simp only [Try.ntmps170, Try.results170, push_cast, seval, Bool.true_and]
          refine GoL_call rfl rfl k5 rfl rfl ?_
          simp only [Try.ntmps170, Try.results170, push_cast, seval]
def jnA (l : List Int) : Nat → ByteArray
  | 0 => ⟨#[]⟩
  | i + 1 => (if 0 < i then jnA l i ++ ⟨#[44]⟩ else jnA l i) ++ decB (at_ l i).toNat
def shwB (l : List Int) (n : Nat) : ByteArray := if l.length = n then starB else jnA l l.length
theorem jnA_size {l : List Int} (h : ∀ i, i < l.length → 0 ≤ at_ l i ∧ at_ l i ≤ 1000) : ∀ i, i ≤ l.length → (jnA l i).size ≤ 11 * i
  | 0, _ => Nat.le_refl _
  | i + 1, hi => by
    have h1 := jnA_size h i (by omega)
    have h2 := h i (by omega)
    have h3 := decB_size (at_ l i).toNat (by omega)
    unfold jnA
    rw [ByteArray.size_append]
    split
    · rw [ByteArray.size_append]; simp only [show (⟨#[44]⟩ : ByteArray).size = 1 from rfl]; omega
    · omega
theorem show_ok (l : List Int) (n : Nat) (hl : l.length ≤ 1048576) (h : ∀ i, i < l.length → 0 ≤ at_ l i ∧ at_ l i ≤ 1000) : PureFn Try.prog 171 [.one (.sh 1 (vR (ints l))), i64 (n : Int)] [st (shwB l n)] := by
  refine PureFn_of_Go Try.func171 rfl (by decide) mo (by decide +kernel) ?_
  by_cases hn : l.length = n
  · have hd : decide ((l.length : Int) = (n : Int)) = true := decide_eq_true (by omega)
    rw [shwB, if_pos hn]
    simp only [Try.ntmps171, Try.results171, push_cast, seval, ints_length, hd, starB]
  · have hd : decide ((l.length : Int) = (n : Int)) = false := decide_eq_false (by omega)
    rw [shwB, if_neg hn]
    simp only [Try.ntmps171, Try.results171, push_cast, seval, ints_length, hd]
    refine Go_loop (α := {i : Nat // i ≤ l.length}) (fun i => ⟨tp 29 [(0, .x (.one (.sh 1 (vR (ints l))))), (5, .x (st (jnA l i.1))), (6, int i.1)], 0, [], []⟩) (fun i => l.length - i.1) ⟨0, Nat.zero_le _⟩ ?_ ?_
    · exact Weak.same (by simp only [push_cast, seval, Int.ofNat_zero, jnA])
    · rintro ⟨i, hi⟩ X hX
      simp only
      by_cases hlt : (i : Int) < (l.length : Int)
      · have hi' : i < l.length := by omega
        have ws := wsucc hi' (by omega)
        have hg := ints_getD l hi'
        rw [show l.getD i default = at_ l i from rfl] at hg
        obtain ⟨hx0, hx1⟩ := h i hi'
        obtain ⟨i', hi1⟩ : ∃ i', i' = i + 1 := ⟨_, rfl⟩
        rw [← hi1] at ws
        have hsz := jnA_size h i hi
        have hj : jnA l i' = (if 0 < i then jnA l i ++ ⟨#[44]⟩ else jnA l i) ++ decB (at_ l i).toNat := by rw [hi1, jnA]
        obtain ⟨x, hx⟩ := Int.eq_ofNat_of_zero_le hx0
        rw [hx] at hg hj hx1
        rw [Int.toNat_natCast] at hj
        have kd := decimalS_ok x (by omega)
        have hds := decB_size x (by omega)
        by_cases c0 : 0 < i
        · have c0i : (0 : Int) < (i : Int) := by omega
          rw [if_pos c0] at hj
          have z1 : (jnA l i).size + (⟨#[44]⟩ : ByteArray).size ≤ 9223372036854775807 := by rw [show (⟨#[44]⟩ : ByteArray).size = 1 from rfl]; omega
          have z2 : (jnA l i ++ (⟨#[44]⟩ : ByteArray)).size + (decB x).size ≤ 9223372036854775807 := by rw [ByteArray.size_append, show (⟨#[44]⟩ : ByteArray).size = 1 from rfl]; omega
          obtain ⟨q, hq⟩ : ∃ q, q = jnA l i ++ (⟨#[44]⟩ : ByteArray) := ⟨_, rfl⟩
          rw [← hq] at hj z2
          simp only [Try.ntmps171, Try.results171, push_cast, seval, ints_length, hlt, c0i, z1, hi', vR_getD, hg, ← hq]
          refine GoL_call rfl rfl kd rfl rfl ?_
          simp only [Try.ntmps171, Try.results171, push_cast, seval, z2, ws]
          refine ⟨_, ?_, hX ⟨i', by omega⟩ (by simp only; omega)⟩
          exact Weak.same (by simp only [push_cast, seval, hj])
        · have c0i : ¬ (0 : Int) < (i : Int) := by omega
          rw [if_neg c0] at hj
          have z2 : (jnA l i).size + (decB x).size ≤ 9223372036854775807 := by omega
          simp only [Try.ntmps171, Try.results171, push_cast, seval, ints_length, hlt, c0i, hi', vR_getD, hg]
          refine GoL_call rfl rfl kd rfl rfl ?_
          simp only [Try.ntmps171, Try.results171, push_cast, seval, z2, ws]
          refine ⟨_, ?_, hX ⟨i', by omega⟩ (by simp only; omega)⟩
          exact Weak.same (by simp only [push_cast, seval, hj])
      · have e : i = l.length := by omega
        subst e
        simp only [Try.ntmps171, Try.results171, push_cast, seval, hlt, ints_length]
end Go.Proofs.Ythhgmnpodgmlkaa
namespace Go.Proofs.Ythhgmnpodgmlkaa
open Go.RowKit Go.Rx
set_option linter.unusedSimpArgs false
set_option maxRecDepth 100000
def pl1B : ByteArray := ⟨#[111, 110, 101]⟩
def pl2B : ByteArray := ⟨#[116, 119, 111]⟩
def pl4B : ByteArray := ⟨#[119, 105, 100, 101]⟩
def poolN (s : ByteArray) : Int := if s = pl1B then 1 else if s = pl2B then 2 else if s = pl4B then 4 else 0
theorem poolS_ok (s : ByteArray) : PureFn Try.prog 164 [st s] [i64 (poolN s)] := by
  refine PureFn_of_Go Try.func164 rfl (by decide) mo (by decide +kernel) ?_
  unfold poolN pl1B pl2B pl4B
  by_cases h1 : s = ⟨#[111, 110, 101]⟩
  · have d1 := decide_eq_true h1
    rw [if_pos h1]
    simp only [Try.ntmps164, Try.results164, push_cast, seval, d1]
  · have d1 := decide_eq_false h1
    rw [if_neg h1]
    by_cases h2 : s = ⟨#[116, 119, 111]⟩
    · have d2 := decide_eq_true h2
      rw [if_pos h2]
      simp only [Try.ntmps164, Try.results164, push_cast, seval, d1, d2]
    · have d2 := decide_eq_false h2
      rw [if_neg h2]
      by_cases h3 : s = ⟨#[119, 105, 100, 101]⟩
      · have d3 := decide_eq_true h3
        rw [if_pos h3]
        simp only [Try.ntmps164, Try.results164, push_cast, seval, d1, d2, d3]
      · have d3 := decide_eq_false h3
        rw [if_neg h3]
        simp only [Try.ntmps164, Try.results164, push_cast, seval, d1, d2, d3]
def memI (l : List Int) (x : Int) : Bool := l.any fun y => decide (y = x)
theorem memI_false {l : List Int} {x : Int} (h : ∀ j, j < l.length → decide (at_ l j = x) = false) : memI l x = false := by
  rw [memI, List.any_eq_false]
  intro y hy
  obtain ⟨j, hj, rfl⟩ := List.mem_iff_getElem.1 hy
  have := h j hj
  rw [at_, List.getD_eq_getElem?_getD, List.getElem?_eq_getElem hj] at this
  simpa using this
theorem memI_true {l : List Int} {x : Int} {j : Nat} (hj : j < l.length) (h : decide (at_ l j = x) = true) : memI l x = true := by
  rw [memI, List.any_eq_true]
  rw [at_, List.getD_eq_getElem?_getD, List.getElem?_eq_getElem hj] at h
  exact ⟨l[j], List.getElem_mem hj, h⟩
theorem l10In_ok (l : List Int) (hl : l.length ≤ 140737488355328) (x : Int) : PureFn Try.prog 173 [.one (.sh 1 (vR (ints l))), i64 x] [bo (memI l x)] := by
  refine PureFn_of_Go Try.func173 rfl (by decide) mo (by decide +kernel) ?_
  obtain ⟨r, hr⟩ : ∃ r, r = memI l x := ⟨_, rfl⟩
  rw [← hr]
  simp only [Try.ntmps173, Try.results173, push_cast, seval, ints_length]
  refine Go_loop (α := {i : Nat // i ≤ l.length ∧ ∀ j, j < i → decide (at_ l j = x) = false})
    (fun i => ⟨tp 18 [(0, .x (.one (.sh 1 (vR (ints l))))), (1, .x (i64 x)), (5, int i.1)], 0, [], []⟩) (fun i => l.length - i.1) ⟨0, by omega, fun j h => absurd h (Nat.not_lt_zero _)⟩ ?_ ?_
  · exact Weak.same (by simp only [push_cast, seval, Int.ofNat_zero])
  · rintro ⟨i, hi, hall⟩ X hX
    by_cases hlt : (i : Int) < (l.length : Int)
    · have hi' : i < l.length := by omega
      have ws := wsucc hi' hl
      have hg := ints_getD l hi'
      rw [show l.getD i default = at_ l i from rfl] at hg
      obtain ⟨i', hi1⟩ : ∃ i', i' = i + 1 := ⟨_, rfl⟩
      rw [← hi1] at ws
      cases hd : decide (at_ l i = x) with
      | true =>
        have hf : r = true := by rw [hr]; exact memI_true hi' hd
        subst hf
        obtain ⟨y, hy⟩ : ∃ y, y = at_ l i := ⟨_, rfl⟩
        rw [← hy] at hg hd
        simp only [Try.ntmps173, Try.results173, push_cast, seval, ints_length, hlt, hi', vR_getD, hg, hd]
      | false =>
        obtain ⟨y, hy⟩ : ∃ y, y = at_ l i := ⟨_, rfl⟩
        have hd' := hd
        rw [← hy] at hg hd
        simp only [Try.ntmps173, Try.results173, push_cast, seval, ints_length, hlt, hi', vR_getD, hg, hd, ws]
        refine ⟨_, ?_, hX ⟨i', by omega, fun j hj => ?_⟩ (by simp only; omega)⟩
        · exact Weak.same (by simp only [push_cast, seval])
        · by_cases e : j = i
          · subst e; exact hd'
          · exact hall j (by omega)
    · have ht : r = false := by
        rw [hr]; exact memI_false fun j hj => hall j (by omega)
      subst ht
      simp only [Try.ntmps173, Try.results173, push_cast, seval, hlt, ints_length]
def spB : ByteArray := ⟨#[32]⟩
theorem spB_size : spB.size = 1 := rfl
def ct1 (c : Crn) : ByteArray := shwB c.m 60 ++ spB
def ct2 (c : Crn) : ByteArray := (ct1 c ++ shwB c.h 24) ++ spB
def ct3 (c : Crn) : ByteArray := (ct2 c ++ shwB c.d 31) ++ spB
def ct4 (c : Crn) : ByteArray := (ct3 c ++ shwB c.mo 12) ++ spB
def ctA (c : Crn) : ByteArray := ct4 c ++ shwB c.w 7
theorem e_ct1 (c : Crn) : shwB c.m 60 ++ spB = ct1 c := rfl
theorem e_ct2 (c : Crn) : (ct1 c ++ shwB c.h 24) ++ spB = ct2 c := rfl
theorem e_ct3 (c : Crn) : (ct2 c ++ shwB c.d 31) ++ spB = ct3 c := rfl
theorem e_ct4 (c : Crn) : (ct3 c ++ shwB c.mo 12) ++ spB = ct4 c := rfl
theorem e_ct5 (c : Crn) : ct4 c ++ shwB c.w 7 = ctA c := rfl
def ctT (c : Crn) : ByteArray := if crnOk c then ctA c else ⟨#[]⟩
theorem riseLen {l : List Int} {a b : Int} (ha : 0 ≤ a) (h : rise l a b) : ∀ i, i < l.length → a + (i : Int) ≤ at_ l i
  | 0, hi => by have := (h 0 hi).1; omega
  | i + 1, hi => by
    have h1 := riseLen ha h i (by omega)
    have h2 := (h (i + 1) hi).2.2 (by omega)
    rw [show i + 1 - 1 = i from rfl] at h2
    omega
theorem lstB_spec {l : List Int} {a b : Int} (h : lstB l a b = true) : rise l a b ∧ (0 : Int) < (l.length : Int) := by
  simp only [lstB, Bool.and_eq_true, decide_eq_true_eq] at h; exact h
theorem lst_len {l : List Int} {a b : Int} (ha : 0 ≤ a) (h : lstB l a b = true) : (l.length : Int) ≤ b - a + 1 := by
  obtain ⟨h1, h2⟩ := lstB_spec h
  have hl : l.length - 1 < l.length := by omega
  have h3 := riseLen ha h1 (l.length - 1) hl
  have h4 := (h1 (l.length - 1) hl).2.1
  omega
theorem shw_size {l : List Int} {n : Nat} {a b : Int} (ha : 0 ≤ a) (hb : b ≤ 60) (h : lstB l a b = true) : (shwB l n).size ≤ 1000 := by
  have h1 := lst_len ha h
  obtain ⟨h2, _⟩ := lstB_spec h
  unfold shwB
  split
  · rw [show starB.size = 1 from rfl]; omega
  · have := jnA_size (l := l) (fun i hi => by have := h2 i hi; omega) l.length (Nat.le_refl _)
    omega
theorem shw_ok {l : List Int} {n : Nat} {a b : Int} (ha : 0 ≤ a) (hb : b ≤ 60) (h : lstB l a b = true) : PureFn Try.prog 171 [.one (.sh 1 (vR (ints l))), i64 (n : Int)] [st (shwB l n)] := by
  have h1 := lst_len ha h
  obtain ⟨h2, _⟩ := lstB_spec h
  exact show_ok l n (by omega) (fun i hi => by have := h2 i hi; omega)
structure CtS (c : Crn) : Prop where
  m : (shwB c.m 60).size ≤ 1000
  h : (shwB c.h 24).size ≤ 1000
  d : (shwB c.d 31).size ≤ 1000
  mo : (shwB c.mo 12).size ≤ 1000
  w : (shwB c.w 7).size ≤ 1000
theorem ct1_size {c : Crn} (h : CtS c) : (ct1 c).size ≤ 1001 := by unfold ct1; rw [ByteArray.size_append, spB_size]; have := h.m; omega
theorem ct2_size {c : Crn} (h : CtS c) : (ct2 c).size ≤ 2002 := by unfold ct2; rw [ByteArray.size_append, ByteArray.size_append, spB_size]; have := h.h; have := ct1_size h; omega
theorem ct3_size {c : Crn} (h : CtS c) : (ct3 c).size ≤ 3003 := by unfold ct3; rw [ByteArray.size_append, ByteArray.size_append, spB_size]; have := h.d; have := ct2_size h; omega
theorem ct4_size {c : Crn} (h : CtS c) : (ct4 c).size ≤ 4004 := by unfold ct4; rw [ByteArray.size_append, ByteArray.size_append, spB_size]; have := h.mo; have := ct3_size h; omega
theorem cronText_ok (c : Crn) (hs : SmC c) : PureFn Try.prog 161 [.agg (crC shI c)] [st (ctT c), bo (crnOk c)] := by
  refine PureFn_of_Go Try.func161 rfl (by decide) mo (by decide +kernel) ?_
  have k0 := cronOk_ok c hs
  unfold ctT
  rw [show crC shI c = [shI c.m, shI c.h, shI c.d, shI c.mo, shI c.w] from rfl] at k0 ⊢
  simp only [Try.ntmps161, Try.results161, push_cast, seval, shI]
  refine GoL_call rfl rfl k0 (by simp only [push_cast, seval, shI]) rfl ?_
  cases hc : crnOk c with
  | false =>
    simp only [Try.ntmps161, Try.results161, push_cast, seval, Bool.false_eq_true, if_false]
  | true =>
    rw [if_pos rfl]
    simp only [crnOk, Bool.and_eq_true] at hc
    obtain ⟨c1, c2, c3, c4, c5⟩ := hc
    have k1 : PureFn Try.prog 171 [.one (.sh 1 (vR (ints c.m))), i64 60] [st (shwB c.m 60)] := shw_ok (n := 60) (by decide) (by decide) c1
    have k2 : PureFn Try.prog 171 [.one (.sh 1 (vR (ints c.h))), i64 24] [st (shwB c.h 24)] := shw_ok (n := 24) (by decide) (by decide) c2
    have k3 : PureFn Try.prog 171 [.one (.sh 1 (vR (ints c.d))), i64 31] [st (shwB c.d 31)] := shw_ok (n := 31) (by decide) (by decide) c3
    have k4 : PureFn Try.prog 171 [.one (.sh 1 (vR (ints c.mo))), i64 12] [st (shwB c.mo 12)] := shw_ok (n := 12) (by decide) (by decide) c4
    have k5 : PureFn Try.prog 171 [.one (.sh 1 (vR (ints c.w))), i64 7] [st (shwB c.w 7)] := shw_ok (n := 7) (by decide) (by decide) c5
    have hS : CtS c := ⟨shw_size (by decide) (by decide) c1, shw_size (by decide) (by decide) c2, shw_size (by decide) (by decide) c3, shw_size (by decide) (by decide) c4, shw_size (by decide) (by decide) c5⟩
    have s1 := ct1_size hS
    have s2 := ct2_size hS
    have s3 := ct3_size hS
    have s4 := ct4_size hS
    have z1 : (shwB c.m 60).size + spB.size ≤ 9223372036854775807 := by rw [spB_size]; have := hS.m; omega
    have z2 : (ct1 c).size + (shwB c.h 24).size ≤ 9223372036854775807 := by have := hS.h; omega
    have z3 : (ct1 c ++ shwB c.h 24).size + spB.size ≤ 9223372036854775807 := by rw [spB_size, ByteArray.size_append]; have := hS.h; omega
    have z4 : (ct2 c).size + (shwB c.d 31).size ≤ 9223372036854775807 := by have := hS.d; omega
    have z5 : (ct2 c ++ shwB c.d 31).size + spB.size ≤ 9223372036854775807 := by rw [spB_size, ByteArray.size_append]; have := hS.d; omega
    have z6 : (ct3 c).size + (shwB c.mo 12).size ≤ 9223372036854775807 := by have := hS.mo; omega
    have z7 : (ct3 c ++ shwB c.mo 12).size + spB.size ≤ 9223372036854775807 := by rw [spB_size, ByteArray.size_append]; have := hS.mo; omega
    have z8 : (ct4 c).size + (shwB c.w 7).size ≤ 9223372036854775807 := by have := hS.w; omega
    have hsp : (⟨#[32]⟩ : ByteArray) = spB := rfl
    simp only [Try.ntmps161, Try.results161, push_cast, seval, shI]
    refine GoD_call rfl rfl k1 rfl rfl ?_
    simp only [Try.ntmps161, Try.results161, push_cast, seval, hsp, z1, e_ct1]
    refine GoD_call rfl rfl k2 rfl rfl ?_
    simp only [Try.ntmps161, Try.results161, push_cast, seval, hsp, z2, z3, e_ct2]
    refine GoD_call rfl rfl k3 rfl rfl ?_
    simp only [Try.ntmps161, Try.results161, push_cast, seval, hsp, z4, z5, e_ct3]
    refine GoD_call rfl rfl k4 rfl rfl ?_
    simp only [Try.ntmps161, Try.results161, push_cast, seval, hsp, z6, z7, e_ct4]
    refine GoD_call rfl rfl k5 rfl rfl ?_
    simp only [Try.ntmps161, Try.results161, push_cast, seval, hsp, z8, e_ct5]
end Go.Proofs.Ythhgmnpodgmlkaa
namespace Go.Proofs.Ythhgmnpodgmlkaa
open Go.RowKit Go.Rx
set_option linter.unusedSimpArgs false
set_option maxRecDepth 100000
structure Tsk where
  nm : ByteArray
  pool : ByteArray
  re : Int
  past : Bool
  af : List ByteArray
deriving Inhabited
def shS (l : List ByteArray) : C := .sh 1 (vR (strs l))
def ownS (l : List ByteArray) : C := .own 1 (vR (strs l))
def tkC (f : List ByteArray → C) (t : Tsk) : List C := [.v (.string t.nm), .v (.string t.pool), .v (.int .i64 t.re), .v (.bool t.past), f t.af]
def tkR (f : List ByteArray → C) (l : List Tsk) : List (List C) := l.map (tkC f)
theorem tkR_length (f : List ByteArray → C) (l : List Tsk) : (tkR f l).length = l.length := by simp [tkR]
theorem tkR_getD (f : List ByteArray → C) (l : List Tsk) {i : Nat} (h : i < l.length) : (tkR f l).getD i [] = tkC f (l.getD i default) := by
  simp [tkR, List.getD_eq_getElem?_getD, List.getElem?_map, List.getElem?_eq_getElem h]
theorem tkC_eq (f : List ByteArray → C) (t : Tsk) : tkC f t = [.v (.string t.nm), .v (.string t.pool), .v (.int .i64 t.re), .v (.bool t.past), f t.af] := rfl
def nmA (l : List Tsk) (i : Nat) : ByteArray := (l.getD i default).nm
def atG : List Tsk → ByteArray → Nat → Int
  | [], _, _ => -1
  | t :: l, s, k => if t.nm = s then (k : Int) else atG l s (k + 1)
def atN (l : List Tsk) (s : ByteArray) : Int := atG l s 0
theorem atG_hit : ∀ (l : List Tsk) (s : ByteArray) (k i : Nat), i < l.length → (∀ j, j < i → decide (nmA l j = s) = false) → decide (nmA l i = s) = true → atG l s k = ((k + i : Nat) : Int)
  | [], _, _, _, h, _, _ => absurd h (Nat.not_lt_zero _)
  | t :: l, s, k, 0, _, _, h => by
    have : t.nm = s := of_decide_eq_true h
    rw [atG, if_pos this]; rfl
  | t :: l, s, k, i + 1, hi, hall, h => by
    have h0 : ¬ t.nm = s := of_decide_eq_false (hall 0 (by omega))
    rw [atG, if_neg h0, atG_hit l s (k + 1) i (by simpa using hi) (fun j hj => hall (j + 1) (by omega)) h]
    omega
theorem atG_none : ∀ (l : List Tsk) (s : ByteArray) (k : Nat), (∀ j, j < l.length → decide (nmA l j = s) = false) → atG l s k = -1
  | [], _, _, _ => rfl
  | t :: l, s, k, hall => by
    have h0 : ¬ t.nm = s := of_decide_eq_false (hall 0 (by simp))
    rw [atG, if_neg h0, atG_none l s (k + 1) (fun j hj => hall (j + 1) (by simpa using hj))]
theorem atN_hit {l : List Tsk} {s : ByteArray} {i : Nat} (hi : i < l.length) (hall : ∀ j, j < i → decide (nmA l j = s) = false) (h : decide (nmA l i = s) = true) : atN l s = (i : Int) := by
  rw [atN, atG_hit l s 0 i hi hall h, Nat.zero_add]
theorem atN_none {l : List Tsk} {s : ByteArray} (hall : ∀ j, j < l.length → decide (nmA l j = s) = false) : atN l s = -1 := atG_none l s 0 hall
theorem l12At_ok (l : List Tsk) (hl : l.length ≤ 140737488355328) (s : ByteArray) : PureFn Try.prog 163 [.one (.sh 5 (tkR shS l)), st s] [i64 (atN l s)] := by
  refine PureFn_of_Go Try.func163 rfl (by decide) mo (by decide +kernel) ?_
  obtain ⟨r, hr⟩ : ∃ r, r = atN l s := ⟨_, rfl⟩
  rw [← hr]
  simp only [Try.ntmps163, Try.results163, push_cast, seval, tkR_length]
  refine Go_loop (α := {i : Nat // i ≤ l.length ∧ ∀ j, j < i → decide (nmA l j = s) = false})
    (fun i => ⟨tp 20 [(0, .x (.one (.sh 5 (tkR shS l)))), (1, .x (st s)), (5, int i.1)], 0, [], []⟩) (fun i => l.length - i.1) ⟨0, by omega, fun j h => absurd h (Nat.not_lt_zero _)⟩ ?_ ?_
  · exact Weak.same (by simp only [push_cast, seval, Int.ofNat_zero])
  · rintro ⟨i, hi, hall⟩ X hX
    by_cases hlt : (i : Int) < (l.length : Int)
    · have hi' : i < l.length := by omega
      have ws := wsucc hi' hl
      have hg := tkR_getD shS l hi'
      rw [tkC_eq] at hg
      obtain ⟨i', hi1⟩ : ∃ i', i' = i + 1 := ⟨_, rfl⟩
      rw [← hi1] at ws
      cases hd : decide (nmA l i = s) with
      | true =>
        have hf : r = (i : Int) := by rw [hr]; exact atN_hit hi' hall hd
        subst hf
        rw [nmA] at hd
        obtain ⟨x, hx⟩ : ∃ x, x = l.getD i default := ⟨_, rfl⟩
        rw [← hx] at hg hd
        simp only [Try.ntmps163, Try.results163, push_cast, seval, tkR_length, hlt, hi', hg, hd]
      | false =>
        have hd' := hd
        rw [nmA] at hd
        obtain ⟨x, hx⟩ : ∃ x, x = l.getD i default := ⟨_, rfl⟩
        rw [← hx] at hg hd
        simp only [Try.ntmps163, Try.results163, push_cast, seval, tkR_length, hlt, hi', hg, hd, ws]
        refine ⟨_, ?_, hX ⟨i', by omega, fun j hj => ?_⟩ (by simp only; omega)⟩
        · exact Weak.same (by simp only [push_cast, seval])
        · by_cases e : j = i
          · subst e; exact hd'
          · exact hall j (by omega)
    · have ht : r = -1 := by
        rw [hr]; exact atN_none fun j hj => hall j (by omega)
      subst ht
      simp only [Try.ntmps163, Try.results163, push_cast, seval, hlt, tkR_length]
def afA (t : Tsk) (k : Nat) : ByteArray := t.af.getD k default
def afP (l : List Tsk) (t : Tsk) (k : Nat) : Bool := (!decide (atN l (afA t k) < 0) && !decide (afA t k = t.nm)) && !(decide (0 < k) && !ltB (afA t (k - 1)) (afA t k))
def tskH (l : List Tsk) (i : Nat) : Bool :=
  nameB (l.getD i default).nm && (decide (atN l (l.getD i default).nm = (i : Int)) && (!decide (poolN (l.getD i default).pool = 0) && inR (l.getD i default).re 0 3))
def afsP (l : List Tsk) (t : Tsk) : Prop := ∀ k, k < t.af.length → afP l t k = true
instance (l : List Tsk) (t : Tsk) : Decidable (afsP l t) := by unfold afsP; infer_instance
def tskB (l : List Tsk) (i : Nat) : Bool := tskH l i && decide (afsP l (l.getD i default))
structure SmT (t : Tsk) : Prop where
  nm : t.nm.size ≤ 140737488355328
  af : t.af.length ≤ 140737488355328
set_option maxHeartbeats 1000000 in
theorem l12Task_ok (l : List Tsk) (hl : l.length ≤ 140737488355328) (i : Nat) (hi : i < l.length) (hs : SmT (l.getD i default)) : PureFn Try.prog 166 [.one (.sh 5 (tkR shS l)), i64 (i : Int)] [bo (tskB l i)] := by
  refine PureFn_of_Go Try.func166 rfl (by decide) mo (by decide +kernel) ?_
  have hg := tkR_getD shS l hi
  rw [tkC_eq] at hg
  obtain ⟨r, hr⟩ : ∃ r, r = tskB l i := ⟨_, rfl⟩
  rw [← hr]
  unfold tskB tskH at hr
  generalize l.getD i default = x at hs hg hr
  have hil : (i : Int) < (l.length : Int) := by omega
  have k1 := nameS_ok x.nm hs.nm
  have k2 := l12At_ok l hl x.nm
  have k3 := poolS_ok x.pool
  have k4 := l01In_ok x.re 0 3
  rw [show (decide ((0 : Int) ≤ x.re) && decide (x.re ≤ 3)) = inR x.re 0 3 from rfl] at k4
  simp only [Try.ntmps166, Try.results166, push_cast, seval, tkR_length, hil, hi, hg, shS]
  refine GoL_call rfl rfl k1 rfl rfl ?_
  cases c1 : nameB x.nm with
  | false =>
    have hf : r = false := by rw [hr, c1]; rfl
    subst hf
    simp only [Try.ntmps166, Try.results166, push_cast, seval]
  | true =>
  simp only [Try.ntmps166, Try.results166, push_cast, seval, shS]
  refine GoL_call rfl rfl k2 rfl rfl ?_
  cases c2 : decide (atN l x.nm = (i : Int)) with
  | false =>
    have hf : r = false := by rw [hr, c1, c2]; rfl
    subst hf
    have c2' : (decide ¬ atN l x.nm = (i : Int)) = true := by rw [decide_not, c2]; rfl
    simp only [Try.ntmps166, Try.results166, push_cast, seval, c2']
  | true =>
  have c2' : (decide ¬ atN l x.nm = (i : Int)) = false := by rw [decide_not, c2]; rfl
  simp only [Try.ntmps166, Try.results166, push_cast, seval, c2']
  refine GoL_call rfl rfl k3 rfl rfl ?_
  cases c3 : decide (poolN x.pool = 0) with
  | true =>
    have hf : r = false := by rw [hr, c1, c2, c3]; rfl
    subst hf
    simp only [Try.ntmps166, Try.results166, push_cast, seval, c3]
  | false =>
  simp only [Try.ntmps166, Try.results166, push_cast, seval, c3]
  refine GoL_call rfl rfl k4 rfl rfl ?_
  cases c4 : inR x.re 0 3 with
  | false =>
    have hf : r = false := by rw [hr, c1, c2, c3, c4]; rfl
    subst hf
    simp only [Try.ntmps166, Try.results166, push_cast, seval]
  | true =>
  have hr' : r = decide (afsP l x) := by rw [hr, c1, c2, c3, c4]; rfl
  clear hr
  simp only [Try.ntmps166, Try.results166, push_cast, seval]
  refine Go_loop (α := {k : Nat // k ≤ x.af.length ∧ ∀ j, j < k → afP l x j = true})
    (fun k => ⟨tp 78 [(0, .x (.one (.sh 5 (tkR shS l)))), (5, .x (.one (.pt (0, 320) [] 5 0 0))), (6, int k.1)], 0, [((0, 320), ⟨.box, 5, [[.v (.string x.nm), .v (.string x.pool), .v (.int .i64 x.re), .v (.bool x.past), .sh 1 (vR (strs x.af))]]⟩)], []⟩) (fun k => x.af.length - k.1) ⟨0, by omega, fun j h => absurd h (Nat.not_lt_zero _)⟩ ?_ ?_
  · exact Weak.same (by simp only [push_cast, seval, Int.ofNat_zero])
  · rintro ⟨k, hk, hall⟩ X hX
    by_cases hlt : (k : Int) < (x.af.length : Int)
    · have hk' : k < x.af.length := by omega
      have ws := wsucc hk' hs.af
      have hgk := strs_getD x.af hk'
      rw [show x.af.getD k default = afA x k from rfl] at hgk
      have kA := l12At_ok l hl (afA x k)
      obtain ⟨k', hk1⟩ : ∃ k', k' = k + 1 := ⟨_, rfl⟩
      rw [← hk1] at ws
      have bad : afP l x k = false → r = false := fun h => by
        rw [hr']; apply decide_eq_false
        intro hp
        rw [hp k hk'] at h; cases h
      have next : afP l x k = true → ∀ j, j < k' → afP l x j = true := fun h j hj => by
        by_cases e : j = k
        · subst e; exact h
        · exact hall j (by omega)
      simp only [push_cast, seval, strs_length, hlt, hk', vR_getD, hgk]
      refine GoD_call rfl rfl kA rfl rfl ?_
      cases d1 : decide (atN l (afA x k) < 0) with
      | true =>
        have hf := bad (by rw [afP, d1]; rfl)
        subst hf
        simp only [Try.ntmps166, Try.results166, push_cast, seval, d1]
      | false =>
      cases d2 : decide (afA x k = x.nm) with
      | true =>
        have hf := bad (by rw [afP, d1, d2]; rfl)
        subst hf
        simp only [Try.ntmps166, Try.results166, push_cast, seval, d1, d2, strs_length, hlt, hk', vR_getD, hgk]
      | false =>
      by_cases c0 : (0 : Int) < (k : Int)
      · have c0n : decide (0 < k) = true := decide_eq_true (by omega)
        have haf := hs.af
        have hpk : k - 1 < x.af.length := by omega
        have hgp := strs_getD x.af hpk
        rw [show x.af.getD (k - 1) default = afA x (k - 1) from rfl] at hgp
        have wp : IntKind.i64.wrap ((k : Int) - 1) = ((k - 1 : Nat) : Int) := wN (by omega) (by omega)
        cases d3 : ltB (afA x (k - 1)) (afA x k) with
        | false =>
          have hf := bad (by rw [afP, d1, d2, c0n, d3]; rfl)
          subst hf
          obtain ⟨p, hp⟩ : ∃ p, p = k - 1 := ⟨_, rfl⟩
          rw [← hp] at hgp wp hpk d3
          have hpl : (p : Int) < (x.af.length : Int) := by omega
          simp only [Try.ntmps166, Try.results166, push_cast, seval, d1, d2, c0, strs_length, hlt, hk', vR_getD, hgk, hgp, wp, hpk, hpl, bin_ges, d3]
        | true =>
          have hn := next (by rw [afP, d1, d2, c0n, d3]; rfl)
          obtain ⟨p, hp⟩ : ∃ p, p = k - 1 := ⟨_, rfl⟩
          rw [← hp] at hgp wp hpk d3
          have hpl : (p : Int) < (x.af.length : Int) := by omega
          simp only [push_cast, seval, d1, d2, c0, strs_length, hlt, hk', vR_getD, hgk, hgp, wp, hpk, hpl, bin_ges, d3, ws]
          refine ⟨_, ?_, hX ⟨k', by omega, hn⟩ (by simp only; omega)⟩
          exact Weak.same (by simp only [push_cast, seval])
      · have c0n : decide (0 < k) = false := decide_eq_false (by omega)
        have hn := next (by rw [afP, d1, d2, c0n]; rfl)
        simp only [push_cast, seval, d1, d2, c0, strs_length, hlt, hk', vR_getD, hgk, ws]
        refine ⟨_, ?_, hX ⟨k', by omega, hn⟩ (by simp only; omega)⟩
        exact Weak.same (by simp only [push_cast, seval])
    · have ht : r = true := by
        rw [hr']; apply decide_eq_true
        intro j hj; exact hall j (by omega)
      subst ht
      simp only [Try.ntmps166, Try.results166, push_cast, seval, hlt, strs_length]
end Go.Proofs.Ythhgmnpodgmlkaa
