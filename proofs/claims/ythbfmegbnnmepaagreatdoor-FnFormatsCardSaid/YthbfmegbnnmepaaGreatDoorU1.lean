/- Texts W1 W2 W3 W4 W5 W6 W7 W8 W9 W10 W11 W13 W14 W15 W16 W17 W18 W19 W20 W21 W22 J1 J2 J3 J4 J5 J6 J7 X1 K1 D1 K2 K3 K4 D2, merged. -/
import Derived.Test.YthbfmegbnnmepaaGreatDoorTy
import Derived.Test.YthbfmegbnnmepaaGreatDoorRxIV
import Derived.Test.YthbfmegbnnmepaaGreatDoorSh
/- Words and sums: what these functions return, by their code. -/
namespace Go.Proofs.YthbfmegbnnmepaaGreatDoor
open Go.RowKit Go.Rx
set_option linter.unusedSimpArgs false
set_option maxRecDepth 100000
abbrev i64 (n : Int) : X := .one (.v (.int .i64 n))
abbrev bo (b : Bool) : X := .one (.v (.bool b))
abbrev st (s : ByteArray) : X := .one (.v (.string s))
abbrev u32 (n : Nat) : X := .one (.v (.int .u32 n))
theorem mo : Tryz.prog.follows .mixedOrders = true := by kernel_rfl

theorem inRange_ok (n a b : Int) : PureFn Tryz.prog 36 [i64 n, i64 a, i64 b] [bo (decide (a ≤ n) && decide (n ≤ b))] := by
  refine PureFn_of_Go Tryz.func36 rfl (by decide) mo (by decide +kernel) ?_
  simp only [Tryz.ntmps36, Tryz.results36, push_cast, seval]
  by_cases h : a ≤ n
  · simp [h, push_cast, resOk, Tryz.results36]
  · simp [h, push_cast, resOk, Tryz.results36]
theorem l01In_ok (n a b : Int) : PureFn Tryz.prog 21 [i64 n, i64 a, i64 b] [bo (decide (a ≤ n) && decide (n ≤ b))] := by
  refine PureFn_of_Go Tryz.func21 rfl (by decide) mo (by decide +kernel) ?_
  simp only [Tryz.ntmps21, Tryz.results21, push_cast, seval]
  by_cases h : a ≤ n
  · simp [h, push_cast, resOk, Tryz.results21]
  · simp [h, push_cast, resOk, Tryz.results21]

/-! ### sums -/
def crcBit (x : Nat) : Nat := if x % 2 = 1 then (x / 2) ^^^ 3558460437 else x / 2
def crcBits (x : Nat) : Nat → Nat
  | 0 => x
  | k + 1 => crcBit (crcBits x k)
def crcTo (s : ByteArray) (x : Nat) : Nat → Nat
  | 0 => x
  | i + 1 => crcBits (crcTo s x i ^^^ (bu s i).toNat) 8
theorem crcBit_lt {x : Nat} (h : x < 4294967296) : crcBit x < 4294967296 := by
  unfold crcBit
  split
  · exact Nat.xor_lt_two_pow (n := 32) (by omega) (by omega)
  · omega
theorem crcBits_lt {x : Nat} (h : x < 4294967296) (k : Nat) : crcBits x k < 4294967296 := by
  induction k with
  | zero => exact h
  | succ k ih => exact crcBit_lt ih
theorem u8_lt (b : UInt8) : b.toNat < 256 := by have := b.toNat_lt; omega
theorem crcTo_lt {s : ByteArray} {x : Nat} (h : x < 4294967296) (i : Nat) : crcTo s x i < 4294967296 := by
  induction i with
  | zero => exact h
  | succ i ih =>
    have := u8_lt (bu s i)
    exact crcBits_lt (Nat.xor_lt_two_pow (n := 32) (by omega) (by omega)) 8

theorem sumMoreI_ok (x : Nat) (hx : x < 4294967296) (s : ByteArray) (hs : s.size ≤ 140737488355328) : PureFn Tryz.prog 199 [u32 x, st s] [u32 (crcTo s x s.size)] := by
  refine PureFn_of_Go Tryz.func199 rfl (by decide) mo (by decide +kernel) ?_
  simp only [Tryz.ntmps199, Tryz.results199, push_cast, seval]
  refine Go_loop (α := {i : Nat // i ≤ s.size}) (fun i => ⟨tp 31 [(0, .x (u32 (crcTo s x i.1))), (1, .x (st s)), (5, int i.1)], 0, [], []⟩) (fun i => s.size - i.1) ⟨0, Nat.zero_le _⟩ ?_ ?_
  · exact Weak.same (by simp only [push_cast, seval, crcTo, Int.ofNat_zero])
  · rintro ⟨i, hi⟩ X hX
    by_cases hlt : (i : Int) < (s.size : Int)
    · have hi' : i < s.size := by omega
      have hb := bu_get hi'
      have hc := crcTo_lt (s := s) hx i
      have hu := u8_lt (bu s i)
      have hw : IntKind.u32.wrap ((bu s i).toNat : Int) = ((bu s i).toNat : Int) := w32 rfl (by omega)
      have hx1 := xor32 hc (show (bu s i).toNat < 4294967296 by omega)
      obtain ⟨y, hy⟩ : ∃ y, y = crcTo s x i ^^^ (bu s i).toNat := ⟨_, rfl⟩
      rw [← hy] at hx1
      have hyl : y < 4294967296 := by rw [hy]; exact Nat.xor_lt_two_pow (n := 32) (by omega) (by omega)
      simp only [push_cast, seval, hlt, hb, hw, hx1]
      refine Go_loop (α := {k : Nat // k ≤ 8}) (fun k => ⟨tp 31 [(0, .x (u32 (crcBits y k.1))), (1, .x (st s)), (5, int i), (19, int k.1)], 0, [], []⟩) (fun k => 8 - k.1) ⟨0, Nat.zero_le _⟩ ?_ ?_
      · exact Weak.same (by simp only [push_cast, seval, crcBits, Int.ofNat_zero])
      · rintro ⟨k, hk⟩ X2 hX2
        by_cases hk8 : (k : Int) < 8
        · have hz := crcBits_lt hyl k
          have hstep : crcBits y (k + 1) = crcBit (crcBits y k) := rfl
          obtain ⟨z, hz'⟩ : ∃ z, z = crcBits y k := ⟨_, rfl⟩
          rw [← hz'] at hz hstep ⊢
          have hand := and32 (b := 1) hz (by omega)
          have hand2 : ((z &&& 1 : Nat) : Int) = ((z % 2 : Nat) : Int) := by rw [show (1 : Nat) = 2 ^ 1 - 1 from rfl, Nat.and_two_pow_sub_one_eq_mod]
          rw [hand2, show ((1 : Nat) : Int) = 1 from rfl] at hand
          have hshr := shr32 z 1 (by omega)
          rw [show ((1 : Nat) : Int) = 1 from rfl, Nat.pow_one] at hshr
          have hwk : IntKind.i64.wrap ((k : Int) + 1) = ((k + 1 : Nat) : Int) := wN (by omega) (by omega)
          obtain ⟨k', hk'⟩ : ∃ k', k' = k + 1 := ⟨_, rfl⟩
          obtain ⟨h2, hh2⟩ : ∃ h2, h2 = z / 2 := ⟨_, rfl⟩
          rw [← hh2] at hshr
          rw [← hk'] at hwk hstep
          rcases Nat.mod_two_eq_zero_or_one z with e | e
          · rw [e, show ((0 : Nat) : Int) = 0 from rfl] at hand
            have hfin : crcBits y k' = h2 := by rw [hstep, crcBit, if_neg (by omega), hh2]
            simp only [push_cast, seval, hk8, hand, hshr, hwk]
            refine ⟨_, ?_, hX2 ⟨k', by omega⟩ (by simp only; omega)⟩
            exact Weak.same (by simp only [push_cast, seval, hfin])
          · rw [e, show ((1 : Nat) : Int) = 1 from rfl] at hand
            have hx2 := xor32 (a := h2) (b := 3558460437) (by omega) (by omega)
            rw [show ((3558460437 : Nat) : Int) = 3558460437 from rfl] at hx2
            have hfin : crcBits y k' = h2 ^^^ 3558460437 := by rw [hstep, crcBit, if_pos e, hh2]
            rw [← hfin] at hx2
            simp only [push_cast, seval, hk8, hand, hshr, hwk, hx2]
            refine ⟨_, ?_, hX2 ⟨k', by omega⟩ (by simp only; omega)⟩
            exact Weak.same (by simp only [push_cast, seval])
        · have hke : k = 8 := by omega
          have hwi : IntKind.i64.wrap ((i : Int) + 1) = ((i + 1 : Nat) : Int) := wN (by omega) (by omega)
          have hfin : crcTo s x (i + 1) = crcBits y k := by rw [hy, hke]; rfl
          obtain ⟨i', hi1⟩ : ∃ i', i' = i + 1 := ⟨_, rfl⟩
          rw [← hi1] at hwi hfin
          simp only [push_cast, seval, hk8, hwi]
          refine ⟨_, ?_, hX ⟨i', by omega⟩ (by simp only; omega)⟩
          exact Weak.same (by simp only [push_cast, seval, hfin])
    · obtain rfl : i = s.size := by omega
      simp only [Tryz.ntmps199, Tryz.results199, push_cast, seval, hlt]

def sumN (s : ByteArray) : Nat := crcTo s 4294967295 s.size
theorem sumOfI_ok (s : ByteArray) (hs : s.size ≤ 140737488355328) : PureFn Tryz.prog 154 [st s] [u32 (sumN s)] := by
  refine PureFn_of_Go Tryz.func154 rfl (by decide) mo (by decide +kernel) ?_
  simp only [Tryz.ntmps154, Tryz.results154, push_cast, seval]
  refine GoL_call rfl rfl (sumMoreI_ok 4294967295 (by omega) s hs) rfl rfl ?_
  simp only [Tryz.ntmps154, Tryz.results154, push_cast, seval, sumN]
def four (x : Nat) : ByteArray := ⟨[UInt8.ofNat (x / 2 ^ 24), UInt8.ofNat (x / 2 ^ 16), UInt8.ofNat (x / 2 ^ 8), UInt8.ofNat x].toArray⟩
theorem four_size (x : Nat) : (four x).size = 4 := rfl
theorem sumText_ok (s : ByteArray) (hs : s.size ≤ 140737488355328) : PureFn Tryz.prog 109 [st s] [st (four (sumN s))] := by
  refine PureFn_of_Go Tryz.func109 rfl (by decide) mo (by decide +kernel) ?_
  simp only [Tryz.ntmps109, Tryz.results109, push_cast, seval]
  refine GoL_call rfl rfl (sumOfI_ok s hs) rfl rfl ?_
  generalize sumN s = x
  have h1 := shr32 x 24 (by omega)
  have h2 := shr32 x 16 (by omega)
  have h3 := shr32 x 8 (by omega)
  rw [show ((24 : Nat) : Int) = 24 from rfl] at h1
  rw [show ((16 : Nat) : Int) = 16 from rfl] at h2
  rw [show ((8 : Nat) : Int) = 8 from rfl] at h3
  have w0 := wu8 (n := x)
  have w1 := wu8 (n := x / 2 ^ 24)
  have w2 := wu8 (n := x / 2 ^ 16)
  have w3 := wu8 (n := x / 2 ^ 8)
  have hf := str_natsOf [UInt8.ofNat (x / 2 ^ 24), UInt8.ofNat (x / 2 ^ 16), UInt8.ofNat (x / 2 ^ 8), UInt8.ofNat x]
  change _ = four x at hf
  generalize x / 2 ^ 24 = a1 at h1 w1 hf
  generalize x / 2 ^ 16 = a2 at h2 w2 hf
  generalize x / 2 ^ 8 = a3 at h3 w3 hf
  generalize UInt8.ofNat a1 = b1 at w1 hf
  generalize UInt8.ofNat a2 = b2 at w2 hf
  generalize UInt8.ofNat a3 = b3 at w3 hf
  generalize UInt8.ofNat x = b0 at w0 hf
  simp only [natsOf, List.map_cons, List.map_nil] at hf
  simp only [Tryz.ntmps109, Tryz.results109, push_cast, seval, h1, h2, h3, w0, w1, w2, w3, hf]

/-! ### numbers in bytes -/
def varL (n : Nat) : List UInt8 := if n ≤ 127 then [UInt8.ofNat n] else UInt8.ofNat (128 + n % 128) :: varL (n / 128)
termination_by n
decreasing_by omega
def varB (n : Nat) : ByteArray := ⟨(varL n).toArray⟩
theorem varL_small {n : Nat} (h : n ≤ 127) : varL n = [UInt8.ofNat n] := by rw [varL, if_pos h]
theorem varL_big {n : Nat} (h : ¬ n ≤ 127) : varL n = UInt8.ofNat (128 + n % 128) :: varL (n / 128) := by rw [varL, if_neg h]

theorem varText_ok (n : Nat) (hn : n ≤ 4294967290) : PureFn Tryz.prog 47 [i64 n] [st (varB n)] := by
  refine PureFn_of_Go Tryz.func47 rfl (by decide) mo (by decide +kernel) ?_
  simp only [Tryz.ntmps47, Tryz.results47, push_cast, seval]
  refine Go_loop (α := {p : List UInt8 × Nat // p.1 ++ varL p.2 = varL n ∧ p.1.length + p.2 ≤ n}) (fun p => ⟨tp 21 [(0, int p.1.2), (3, .x (.one (.rs (0, 768) [] 1 0 p.1.1.length)))], 0, [((0, 768), ⟨.sl, 1, byR p.1.1⟩)], []⟩) (fun p => p.1.2) ⟨([], n), by simp, by simp⟩ ?_ ?_
  · refine Weak.trans (Weak.nilRoot (0, 768) 1 3 rfl rfl rfl) ?_
    simp only [push_cast, seval, byR_nil]
    exact Weak.same (by simp only [push_cast, seval, byR_nil])
  · rintro ⟨⟨l, m⟩, hp, hm⟩ X hX
    simp only at hp hm
    have a0 : l.length + 1 ≤ 4294967296 := by omega
    have a1 := max_len a0
    have a2 := room_le (b := 1) a0 (by decide)
    have hfl := byR_length l
    by_cases hlt : (127 : Int) < (m : Int)
    · have hrem := tmodN m 128
      rw [show ((128 : Nat) : Int) = 128 from rfl] at hrem
      obtain ⟨q, hq⟩ : ∃ q, q = m % 128 := ⟨_, rfl⟩
      rw [← hq] at hrem
      have hw1 : IntKind.i64.wrap (128 + (q : Int)) = ((128 + q : Nat) : Int) := wN (by omega) (by omega)
      have hw2 := wu8 (n := 128 + q)
      have hb : UInt8.ofNat (128 + q) = UInt8.ofNat (128 + m % 128) := by rw [hq]
      obtain ⟨z, hz⟩ : ∃ z, z = 128 + q := ⟨_, rfl⟩
      rw [← hz] at hw1 hw2 hb
      obtain ⟨c, hc⟩ : ∃ c, c = UInt8.ofNat z := ⟨_, rfl⟩
      rw [← hc] at hw2 hb
      have hdiv := tdivN m 128
      rw [show ((128 : Nat) : Int) = 128 from rfl] at hdiv
      have hw3 : IntKind.i64.wrap ((m : Int).tdiv 128) = ((m / 128 : Nat) : Int) := wN hdiv (by omega)
      obtain ⟨m', hm'⟩ : ∃ m', m' = m / 128 := ⟨_, rfl⟩
      rw [← hm'] at hw3
      have hsn := byR_snoc l c
      obtain ⟨l', hl'⟩ : ∃ l', l' = l ++ [c] := ⟨_, rfl⟩
      rw [← hl'] at hsn
      have hll : l'.length = l.length + 1 := by rw [hl']; simp
      have hinv : l' ++ varL m' = varL n := by
        have hv := varL_big (n := m) (by omega)
        rw [hl', hb, hm', ← hp, hv, List.append_assoc]; rfl
      have hml : l'.length + m' ≤ n := by rw [hll]; omega
      simp only [push_cast, seval, hlt, hrem, hw1, hw2, hw3, a1, a2, hsn, hfl]
      refine ⟨_, ?_, hX ⟨(l', m'), hinv, hml⟩ (by simp only; omega)⟩
      exact Weak.drop (by simp only [push_cast, seval, hll]) (by simp only [push_cast, seval, hll]) (by simp only [push_cast, seval, hll])
    · have hw2 := wu8 (n := m)
      obtain ⟨c, hc⟩ : ∃ c, c = UInt8.ofNat m := ⟨_, rfl⟩
      rw [← hc] at hw2
      have hsn := byR_snoc l c
      obtain ⟨l', hl'⟩ : ∃ l', l' = l ++ [c] := ⟨_, rfl⟩
      rw [← hl'] at hsn
      have hll : l'.length = l.length + 1 := by rw [hl']; simp
      have ht := byR_take l'
      rw [hll] at ht
      have hfin : (⟨l'.toArray⟩ : ByteArray) = varB n := by rw [hl', hc, varB, ← hp, varL_small (by omega)]
      simp only [Tryz.ntmps47, Tryz.results47, push_cast, seval, hlt, hw2, a1, a2, hsn, hfl, ht, hfin]
end Go.Proofs.YthbfmegbnnmepaaGreatDoor

/- Reading numbers: what these functions return, by their code. -/
namespace Go.Proofs.YthbfmegbnnmepaaGreatDoor
open Go.RowKit Go.Rx
set_option linter.unusedSimpArgs false
set_option maxRecDepth 100000

def rvL (s : ByteArray) (a : Nat) : Nat → Nat → Nat → Nat → Option (Nat × Nat)
  | 0, _, _, _ => none
  | k + 1, i, n, u => if a + i < s.size then
      if 128 ≤ (bu s (a + i)).toNat then rvL s a k (i + 1) (n + (bu s (a + i)).toNat % 128 * u) (u * 128)
      else if ((bu s (a + i)).toNat = 0 ∧ 0 < i) ∨ 1000000000 < n + (bu s (a + i)).toNat % 128 * u then none
      else some (n + (bu s (a + i)).toNat % 128 * u, a + i + 1)
    else none
def rvO (s : ByteArray) (at_ : Int) : Option (Nat × Nat) := if 0 ≤ at_ ∧ at_ ≤ s.size then rvL s at_.toNat 5 0 0 1 else none
def rvX : Option (Nat × Nat) → List X
  | none => [i64 0, i64 0, bo false]
  | some (n, x) => [i64 n, i64 x, bo true]
theorem rvL_out {s : ByteArray} {a k i n u : Nat} (h : ¬ a + i < s.size) : rvL s a k i n u = none := by
  cases k with
  | zero => rfl
  | succ k => rw [rvL, if_neg h]
theorem rvL_go {s : ByteArray} {a k i n u : Nat} (h : a + i < s.size) (hb : 128 ≤ (bu s (a + i)).toNat) : rvL s a (k + 1) i n u = rvL s a k (i + 1) (n + (bu s (a + i)).toNat % 128 * u) (u * 128) := by
  rw [rvL, if_pos h, if_pos hb]
theorem rvL_no {s : ByteArray} {a k i n u : Nat} (h : a + i < s.size) (hb : ¬ 128 ≤ (bu s (a + i)).toNat) (hc : ((bu s (a + i)).toNat = 0 ∧ 0 < i) ∨ 1000000000 < n + (bu s (a + i)).toNat % 128 * u) : rvL s a (k + 1) i n u = none := by
  rw [rvL, if_pos h, if_neg hb, if_pos hc]
theorem rvL_yes {s : ByteArray} {a k i n u : Nat} (h : a + i < s.size) (hb : ¬ 128 ≤ (bu s (a + i)).toNat) (hc : ¬ (((bu s (a + i)).toNat = 0 ∧ 0 < i) ∨ 1000000000 < n + (bu s (a + i)).toNat % 128 * u)) : rvL s a (k + 1) i n u = some (n + (bu s (a + i)).toNat % 128 * u, a + i + 1) := by
  rw [rvL, if_pos h, if_neg hb, if_neg hc]
theorem rvL_bound {s : ByteArray} {a : Nat} : ∀ {k i n u m x : Nat}, rvL s a k i n u = some (m, x) → m ≤ 1000000000 ∧ a < x ∧ x ≤ s.size
  | 0, i, n, u, m, x, h => by cases h
  | k + 1, i, n, u, m, x, h => by
    by_cases h1 : a + i < s.size
    · by_cases h2 : 128 ≤ (bu s (a + i)).toNat
      · rw [rvL_go h1 h2] at h; exact rvL_bound h
      · by_cases h3 : ((bu s (a + i)).toNat = 0 ∧ 0 < i) ∨ 1000000000 < n + (bu s (a + i)).toNat % 128 * u
        · rw [rvL_no h1 h2 h3] at h; cases h
        · rw [rvL_yes h1 h2 h3] at h
          obtain ⟨rfl, rfl⟩ := Prod.mk.inj (Option.some.inj h)
          exact ⟨by omega, by omega, by omega⟩
    · rw [rvL_out h1] at h; cases h
theorem rvO_bound {s : ByteArray} {at_ : Int} {m x : Nat} (h : rvO s at_ = some (m, x)) : m ≤ 1000000000 ∧ 0 ≤ at_ ∧ at_ < x ∧ x ≤ s.size := by
  unfold rvO at h
  split at h
  · rename_i hc
    have := rvL_bound h
    omega
  · cases h
theorem pow128 {i : Nat} (h : i < 5) : 128 ^ i ≤ 268435456 := Nat.le_trans (Nat.pow_le_pow_right (by decide) (show i ≤ 4 by omega)) (by decide)

theorem readVarI_ok (s : ByteArray) (hs : s.size ≤ 140737488355328) (at_ : Int) : PureFn Tryz.prog 119 [st s, i64 at_] (rvX (rvO s at_)) := by
  refine PureFn_of_Go Tryz.func119 rfl (by decide) mo (by decide +kernel) ?_
  by_cases h0 : at_ < 0
  · have hr : rvO s at_ = none := if_neg (by omega)
    simp only [Tryz.ntmps119, Tryz.results119, push_cast, seval, h0, hr, rvX]
  by_cases h1 : (s.size : Int) < at_
  · have hr : rvO s at_ = none := if_neg (by omega)
    simp only [Tryz.ntmps119, Tryz.results119, push_cast, seval, h0, h1, hr, rvX]
  obtain ⟨a, rfl⟩ := Int.eq_ofNat_of_zero_le (show 0 ≤ at_ by omega)
  have hrv : rvO s a = rvL s a 5 0 0 1 := if_pos (by omega)
  obtain ⟨r, hr⟩ : ∃ r, r = rvO s a := ⟨_, rfl⟩
  rw [← hr] at hrv ⊢
  simp only [Tryz.ntmps119, Tryz.results119, push_cast, seval, h0, h1]
  refine Go_loop (α := {p : Nat × Nat × Nat // p.2.2 = 128 ^ p.1 ∧ p.2.1 < p.2.2 ∧ p.1 ≤ 5 ∧ r = rvL s a (5 - p.1) p.1 p.2.1 p.2.2})
    (fun p => ⟨tp 62 [(0, .x (st s)), (1, int a), (7, int p.1.2.1), (8, int p.1.2.2), (9, int p.1.1)], 0, [], []⟩) (fun p => 5 - p.1.1) ⟨(0, 0, 1), rfl, by simp, by simp, hrv⟩ ?_ ?_
  · exact Weak.same (by simp only [push_cast, seval, Int.ofNat_zero, Int.ofNat_one])
  · rintro ⟨⟨i, n, u⟩, hu, hnu, hi, hri⟩ X hX
    simp only at hu hnu hi hri
    by_cases c5 : (i : Int) < 5
    · have hu4 : u ≤ 268435456 := by rw [hu]; exact pow128 (by omega)
      obtain ⟨k, hk⟩ : ∃ k, 5 - i = k + 1 := ⟨4 - i, by omega⟩
      rw [hk] at hri
      obtain ⟨j, hj⟩ : ∃ j, j = a + i := ⟨_, rfl⟩
      have wa : IntKind.i64.wrap ((a : Int) + (i : Int)) = (j : Int) := wN (by omega) (by omega)
      by_cases c1 : (j : Int) < (s.size : Int)
      · have hjs : j < s.size := by omega
        have hb := bu_get hjs
        have hb256 := u8_lt (bu s j)
        obtain ⟨b, hbb⟩ : ∃ b, b = (bu s j).toNat := ⟨_, rfl⟩
        rw [← hbb] at hb256
        have hcv : IntKind.i64.wrap ((bu s j).toNat : Int) = (b : Int) := wN (by omega) (by omega)
        have hrem := tmodN b 128
        rw [show ((128 : Nat) : Int) = 128 from rfl] at hrem
        obtain ⟨q, hq⟩ : ∃ q, q = b % 128 := ⟨_, rfl⟩
        rw [← hq] at hrem
        have hqu : q * u ≤ 127 * u := Nat.mul_le_mul_right _ (by omega)
        have hw1 : IntKind.i64.wrap ((q : Int) * (u : Int)) = ((q * u : Nat) : Int) := wN (by rw [Int.natCast_mul]) (by omega)
        obtain ⟨m, hm⟩ : ∃ m, m = q * u := ⟨_, rfl⟩
        rw [← hm] at hw1 hqu
        have hw2 : IntKind.i64.wrap ((n : Int) + (m : Int)) = ((n + m : Nat) : Int) := wN (by rw [Int.natCast_add]) (by omega)
        obtain ⟨n', hn'⟩ : ∃ n', n' = n + m := ⟨_, rfl⟩
        rw [← hn'] at hw2
        have hw3 : IntKind.i64.wrap ((u : Int) * 128) = ((u * 128 : Nat) : Int) := wN (by rw [Int.natCast_mul]; rfl) (by omega)
        obtain ⟨u', hu'⟩ : ∃ u', u' = u * 128 := ⟨_, rfl⟩
        rw [← hu'] at hw3
        have hw4 : IntKind.i64.wrap ((i : Int) + 1) = ((i + 1 : Nat) : Int) := wN (by omega) (by omega)
        obtain ⟨i', hi'⟩ : ∃ i', i' = i + 1 := ⟨_, rfl⟩
        rw [← hi'] at hw4
        have hw5 : IntKind.i64.wrap ((j : Int) + 1) = ((j + 1 : Nat) : Int) := wN (by omega) (by omega)
        obtain ⟨j', hj'⟩ : ∃ j', j' = j + 1 := ⟨_, rfl⟩
        rw [← hj'] at hw5
        have hnn : n + (bu s (a + i)).toNat % 128 * u = n' := by rw [hn', hm, hq, hbb, hj]
        have hbe : (bu s (a + i)).toNat = b := by rw [hbb, hj]
        by_cases c2 : (128 : Int) ≤ (b : Int)
        · have hgo := rvL_go (k := k) (n := n) (u := u) (show a + i < s.size by omega) (by rw [hbe]; omega)
          rw [← hri, hnn, ← hu', ← hi', show k = 5 - i' by omega] at hgo
          simp only [push_cast, seval, c5, wa, c1, hb, hcv, hrem, hw1, hw2, hw3, c2, hw4]
          refine ⟨_, ?_, hX ⟨(i', n', u'), ?_, ?_, ?_, hgo⟩ (by simp only; omega)⟩
          · exact Weak.same (by simp only [push_cast, seval])
          · show u' = 128 ^ i'; rw [hi', Nat.pow_succ, hu', hu]
          · show n' < u'; omega
          · show i' ≤ 5; omega
        · have hbl : ¬ 128 ≤ (bu s (a + i)).toNat := by rw [hbe]; omega
          cases c3 : decide ((b : Int) = 0) with
          | true =>
            have e3 := of_decide_eq_true c3
            by_cases c4 : (0 : Int) < (i : Int)
            · have hno := rvL_no (k := k) (n := n) (u := u) (show a + i < s.size by omega) hbl (.inl ⟨by omega, by omega⟩)
              rw [← hri] at hno
              simp only [Tryz.ntmps119, Tryz.results119, push_cast, seval, c5, wa, c1, hb, hcv, hrem, hw1, hw2, hw3, c2, c3, c4, hno, rvX]
            · by_cases c6 : (1000000000 : Int) < (n' : Int)
              · have hno := rvL_no (k := k) (n := n) (u := u) (show a + i < s.size by omega) hbl (.inr (by rw [hnn]; omega))
                rw [← hri] at hno
                simp only [Tryz.ntmps119, Tryz.results119, push_cast, seval, c5, wa, c1, hb, hcv, hrem, hw1, hw2, hw3, c2, c3, c4, c6, hno, rvX]
              · have hyes := rvL_yes (k := k) (n := n) (u := u) (show a + i < s.size by omega) hbl (by rw [hnn]; omega)
                rw [← hri, hnn, ← hj, ← hj'] at hyes
                simp only [Tryz.ntmps119, Tryz.results119, push_cast, seval, c5, wa, c1, hb, hcv, hrem, hw1, hw2, hw3, c2, c3, c4, c6, hw5, hyes, rvX]
          | false =>
            have e3 := of_decide_eq_false c3
            by_cases c6 : (1000000000 : Int) < (n' : Int)
            · have hno := rvL_no (k := k) (n := n) (u := u) (show a + i < s.size by omega) hbl (.inr (by rw [hnn]; omega))
              rw [← hri] at hno
              simp only [Tryz.ntmps119, Tryz.results119, push_cast, seval, c5, wa, c1, hb, hcv, hrem, hw1, hw2, hw3, c2, c3, c6, hno, rvX]
            · have hyes := rvL_yes (k := k) (n := n) (u := u) (show a + i < s.size by omega) hbl (by rw [hnn]; omega)
              rw [← hri, hnn, ← hj, ← hj'] at hyes
              simp only [Tryz.ntmps119, Tryz.results119, push_cast, seval, c5, wa, c1, hb, hcv, hrem, hw1, hw2, hw3, c2, c3, c6, hw5, hyes, rvX]
      · have hno := rvL_out (k := k + 1) (n := n) (u := u) (show ¬ a + i < s.size by omega)
        rw [← hri] at hno
        simp only [Tryz.ntmps119, Tryz.results119, push_cast, seval, c5, wa, c1, hno, rvX]
    · have hno : r = none := by rw [hri, show 5 - i = 0 by omega]; rfl
      simp only [Tryz.ntmps119, Tryz.results119, push_cast, seval, c5, hno, rvX]
end Go.Proofs.YthbfmegbnnmepaaGreatDoor

/- Reading numbers, the reference's way: the same. -/
namespace Go.Proofs.YthbfmegbnnmepaaGreatDoor
open Go.RowKit Go.Rx
set_option linter.unusedSimpArgs false
set_option maxRecDepth 100000

def seg (s : ByteArray) (a k : Nat) : List UInt8 := (s.data.toList.drop a).take k
theorem seg_zero (s : ByteArray) (a : Nat) : seg s a 0 = [] := by simp [seg]
theorem seg_succ {s : ByteArray} {a k : Nat} (h : a + k < s.size) : seg s a (k + 1) = seg s a k ++ [bu s (a + k)] := by
  unfold seg
  have h2 : a + k < s.data.toList.length := by rw [Array.length_toList]; exact h
  rw [List.take_add_one, List.getElem?_drop, List.getElem?_eq_getElem h2]
  simp only [bu, List.getD_eq_getElem?_getD, List.getElem?_eq_getElem h2, Option.getD_some, Option.toList_some]
theorem extract_list (s : ByteArray) (a b : Nat) : (s.extract a b).data.toList = seg s a (b - a) := by
  rw [ByteArray.data_extract, Array.toList_extract, List.extract_eq_take_drop]; rfl
theorem bytes_ext {x y : ByteArray} (h : x.data.toList = y.data.toList) : x = y := by
  cases x; cases y; simp only at h; congr; exact Array.toList_inj.1 h
theorem varB_list (n : Nat) : (varB n).data.toList = varL n := rfl
def val (l : List UInt8) : Nat := l.foldr (fun b v => b.toNat % 128 + 128 * v) 0
theorem val_snoc (l : List UInt8) (b : UInt8) : val (l ++ [b]) = val l + b.toNat % 128 * 128 ^ l.length := by
  induction l with
  | nil => simp [val]
  | cons c l ih =>
    simp only [val, List.cons_append, List.foldr_cons, List.length_cons] at ih ⊢
    rw [ih, Nat.pow_succ, Nat.mul_add, Nat.add_assoc]
    congr 2
    rw [Nat.mul_left_comm, Nat.mul_comm 128]
theorem varL_last : ∀ (n : Nat) (l : List UInt8) (b : UInt8), l ≠ [] → varL n = l ++ [b] → b.toNat ≠ 0 := by
  intro n
  induction n using Nat.strongRecOn with
  | ind n ih =>
    intro l b hl h
    by_cases hn : n ≤ 127
    · rw [varL_small hn] at h
      cases l with
      | nil => exact absurd rfl hl
      | cons c l => simp at h
    · rw [varL_big hn] at h
      cases l with
      | nil => exact absurd rfl hl
      | cons c l =>
        simp only [List.cons_append, List.cons.injEq] at h
        cases l with
        | cons d l => exact ih (n / 128) (by omega) (d :: l) b (by simp) h.2
        | nil =>
          by_cases hn2 : n / 128 ≤ 127
          · rw [varL_small hn2] at h
            have := h.2
            simp only [List.nil_append, List.cons.injEq, and_true] at this
            rw [← this, UInt8.toNat_ofNat']
            omega
          · rw [varL_big hn2] at h
            have := congrArg List.length h.2
            simp only [List.length_cons, List.nil_append, List.length_nil] at this
            rw [varL] at this
            split at this <;> simp at this
theorem canon_yes : ∀ (l : List UInt8) (b : UInt8), (∀ p ∈ l, 128 ≤ p.toNat) → b.toNat < 128 → ¬ (b.toNat = 0 ∧ 0 < l.length) → varL (val (l ++ [b])) = l ++ [b]
  | [], b, _, hb, _ => by
    have e : val ([] ++ [b]) = b.toNat := by simp [val]; omega
    rw [e, varL_small (by omega)]; simp
  | p :: l, b, hp, hb, hn => by
    have hb0 : b.toNat ≠ 0 := fun e => hn ⟨e, by simp⟩
    have ih := canon_yes l b (fun q hq => hp q (List.mem_cons_of_mem _ hq)) hb (fun h => hb0 h.1)
    have h1 := hp p (List.mem_cons_self ..)
    have e : val (p :: l ++ [b]) = p.toNat % 128 + 128 * val (l ++ [b]) := rfl
    have hv : 0 < val (l ++ [b]) := by
      rw [val_snoc]
      have h2 : 0 < b.toNat % 128 * 128 ^ l.length := Nat.mul_pos (by omega) (Nat.pow_pos (by decide))
      omega
    have hlt := u8_lt p
    rw [e, varL_big (by omega), show (p.toNat % 128 + 128 * val (l ++ [b])) / 128 = val (l ++ [b]) by omega, ih,
      show 128 + (p.toNat % 128 + 128 * val (l ++ [b])) % 128 = p.toNat by omega]
    simp
theorem canon {l : List UInt8} {b : UInt8} (hp : ∀ p ∈ l, 128 ≤ p.toNat) (hb : b.toNat < 128) : varL (val (l ++ [b])) = l ++ [b] ↔ ¬ (b.toNat = 0 ∧ 0 < l.length) := by
  refine ⟨fun h hc => ?_, canon_yes l b hp hb⟩
  exact varL_last _ l b (fun e => by rw [e] at hc; exact absurd hc.2 (by simp)) h hc.1

end Go.Proofs.YthbfmegbnnmepaaGreatDoor

/- The scanner: what its methods do, by their code. -/
namespace Go.Proofs.YthbfmegbnnmepaaGreatDoor
open Go.RowKit Go.Rx
set_option linter.unusedSimpArgs false
set_option maxRecDepth 100000

def sc (s : ByteArray) (a : Nat) (b : Bool) : List Value := [.string s, .int .i64 a, .bool b]
def numN (s : ByteArray) (a : Nat) (b : Bool) : Nat := if b then 0 else match rvO s a with | some (n, _) => n | none => 0
def numA (s : ByteArray) (a : Nat) (b : Bool) : Nat := if b then a else match rvO s a with | some (_, x) => x | none => a
def numB (s : ByteArray) (a : Nat) (b : Bool) : Bool := if b then true else match rvO s a with | some _ => false | none => true
theorem number_ok (s : ByteArray) (hs : s.size ≤ 140737488355328) (a : Nat) (b : Bool) : IoFn Tryz.prog 67 .box 3 [sc s a b] [] [sc s (numA s a b) (numB s a b)] [i64 (numN s a b)] := by
  refine IoFn_of_Go Tryz.func67 rfl (by decide) mo (by decide +kernel) (ioOk_box rfl) (ioOk_box rfl) rfl rfl ?_
  have k := readVarI_ok s hs a
  cases b with
  | true =>
    cases hr : rvO s a with
    | none =>
      rw [hr] at k
      simp only [Tryz.ntmps67, Tryz.results67, push_cast, seval, sc, numA, numB, numN, hr]
      refine GoD_call rfl rfl k rfl rfl ?_
      simp only [Tryz.ntmps67, Tryz.results67, push_cast, seval, rvX, sc, numA, numB, numN, hr]
    | some p =>
      obtain ⟨n, x⟩ := p
      rw [hr] at k
      simp only [Tryz.ntmps67, Tryz.results67, push_cast, seval, sc, numA, numB, numN, hr]
      refine GoD_call rfl rfl k rfl rfl ?_
      simp only [Tryz.ntmps67, Tryz.results67, push_cast, seval, rvX, sc, numA, numB, numN, hr]
  | false =>
    cases hr : rvO s a with
    | none =>
      rw [hr] at k
      simp only [Tryz.ntmps67, Tryz.results67, push_cast, seval, sc, numA, numB, numN, hr]
      refine GoD_call rfl rfl k rfl rfl ?_
      simp only [Tryz.ntmps67, Tryz.results67, push_cast, seval, rvX, sc, numA, numB, numN, hr]
    | some p =>
      obtain ⟨n, x⟩ := p
      rw [hr] at k
      simp only [Tryz.ntmps67, Tryz.results67, push_cast, seval, sc, numA, numB, numN, hr]
      refine GoD_call rfl rfl k rfl rfl ?_
      simp only [Tryz.ntmps67, Tryz.results67, push_cast, seval, rvX, sc, numA, numB, numN, hr]

def takeOk (s : ByteArray) (a : Nat) (b : Bool) (n : Nat) : Bool := !b && decide (a + n ≤ s.size)
def takeT (s : ByteArray) (a : Nat) (b : Bool) (n : Nat) : ByteArray := if takeOk s a b n then s.extract a (a + n) else ⟨#[]⟩
def takeA (s : ByteArray) (a : Nat) (b : Bool) (n : Nat) : Nat := if takeOk s a b n then a + n else a
def takeB (s : ByteArray) (a : Nat) (b : Bool) (n : Nat) : Bool := !takeOk s a b n
theorem take_ok (s : ByteArray) (hs : s.size ≤ 140737488355328) (a : Nat) (ha : a ≤ s.size) (b : Bool) (n : Nat) (hn : n ≤ 140737488355328) : IoFn Tryz.prog 120 .box 3 [sc s a b] [i64 n] [sc s (takeA s a b n) (takeB s a b n)] [st (takeT s a b n)] := by
  refine IoFn_of_Go Tryz.func120 rfl (by decide) mo (by decide +kernel) (ioOk_box rfl) (ioOk_box rfl) rfl rfl ?_
  have w1 : IntKind.i64.wrap ((s.size : Int) - (a : Int)) = ((s.size - a : Nat) : Int) := wN (by omega) (by omega)
  obtain ⟨r, hr⟩ : ∃ r, r = s.size - a := ⟨_, rfl⟩
  rw [← hr] at w1
  have w2 : IntKind.i64.wrap ((a : Int) + (n : Int)) = ((a + n : Nat) : Int) := wN (by omega) (by omega)
  obtain ⟨x, hx⟩ : ∃ x, x = a + n := ⟨_, rfl⟩
  rw [← hx] at w2
  have w3 : IntKind.i64.wrap ((x : Int) - (n : Int)) = (a : Int) := wN (by omega) (by omega)
  cases b with
  | true =>
    have ho : takeOk s a true n = false := rfl
    simp only [Tryz.ntmps120, Tryz.results120, push_cast, seval, sc, takeT, takeA, takeB, ho]
  | false =>
    by_cases c : (r : Int) < (n : Int)
    · have ho : takeOk s a false n = false := by simp [takeOk]; omega
      simp only [Tryz.ntmps120, Tryz.results120, push_cast, seval, sc, takeT, takeA, takeB, ho, w1, c]
    · have ho : takeOk s a false n = true := by simp [takeOk]; omega
      have h1 : a ≤ x := by omega
      have h2 : x ≤ s.size := by omega
      simp only [Tryz.ntmps120, Tryz.results120, push_cast, seval, sc, takeT, takeA, takeB, ho, w1, c, w2, w3, h1, h2, ← hx]

/-! ### frames -/
def frO (s : ByteArray) (a : Nat) : Option (ByteArray × Nat) := match rvO s a with
  | some (n, x) => if x + 4 + n ≤ s.size ∧ 1 ≤ n ∧ n ≤ 9000 ∧ four (sumN (s.extract (x + 4) (x + 4 + n))) = s.extract x (x + 4) then some (s.extract (x + 4) (x + 4 + n), x + 4 + n) else none
  | none => none
def frX : Option (ByteArray × Nat) → List X
  | none => [st ⟨#[]⟩, i64 0, bo false]
  | some (t, x) => [st t, i64 x, bo true]
theorem extract_size (s : ByteArray) (a b : Nat) : (s.extract a b).size ≤ s.size := by
  rw [ByteArray.size_extract]; omega
theorem frameAt_ok (s : ByteArray) (hs : s.size ≤ 140737488355328) (a : Nat) (ha : a ≤ s.size) : PureFn Tryz.prog 163 [st s, i64 a] (frX (frO s a)) := by
  refine PureFn_of_Go Tryz.func163 rfl (by decide) mo (by decide +kernel) ?_
  simp only [Tryz.ntmps163, Tryz.results163, push_cast, seval]
  refine GoL_io (0, 448) .box 3 [sc s a false] rfl rfl rfl rfl (.inl rfl) rfl (number_ok s hs a false) rfl rfl ?_
  cases hr : rvO s a with
  | none =>
    have hn : numN s a false = 0 := by simp [numN, hr]
    have hA : numA s a false = a := by simp [numA, hr]
    have hB : numB s a false = true := by simp [numB, hr]
    have ho : ∀ n, takeOk s a true n = false := fun n => rfl
    have hf : frO s a = none := by simp [frO, hr]
    rw [hn, hA, hB, hf]
    simp only [Tryz.ntmps163, Tryz.results163, push_cast, seval, sc]
    refine GoL_io (0, 448) .box 3 [sc s a true] rfl rfl rfl rfl (.inl rfl) rfl (take_ok s hs a ha true 4 (by omega)) rfl rfl ?_
    simp only [takeA, takeB, takeT, ho, Bool.false_eq_true, if_false, Bool.not_false]
    simp only [Tryz.ntmps163, Tryz.results163, push_cast, seval, sc]
    refine GoL_io (0, 448) .box 3 [sc s a true] rfl rfl rfl rfl (.inl rfl) rfl (take_ok s hs a ha true 0 (by omega)) rfl rfl ?_
    simp only [takeA, takeB, takeT, ho, Bool.false_eq_true, if_false, Bool.not_false]
    simp only [Tryz.ntmps163, Tryz.results163, push_cast, seval, sc, frX]
  | some p =>
    obtain ⟨n, x⟩ := p
    obtain ⟨hn1, _, hx1, hx2⟩ := rvO_bound hr
    have hn : numN s a false = n := by simp [numN, hr]
    have hA : numA s a false = x := by simp [numA, hr]
    have hB : numB s a false = false := by simp [numB, hr]
    have hf : frO s a = if x + 4 + n ≤ s.size ∧ 1 ≤ n ∧ n ≤ 9000 ∧ four (sumN (s.extract (x + 4) (x + 4 + n))) = s.extract x (x + 4) then some (s.extract (x + 4) (x + 4 + n), x + 4 + n) else none := by simp [frO, hr]
    rw [hn, hA, hB]
    simp only [Tryz.ntmps163, Tryz.results163, push_cast, seval, sc]
    refine GoL_io (0, 448) .box 3 [sc s x false] rfl rfl rfl rfl (.inl rfl) rfl (take_ok s hs x hx2 false 4 (by omega)) rfl rfl ?_
    by_cases c1 : x + 4 ≤ s.size
    · have o1 : takeOk s x false 4 = true := by simp [takeOk]; omega
      simp only [takeA, takeB, takeT, o1, if_true, Bool.not_true]
      obtain ⟨y, hy⟩ : ∃ y, y = x + 4 := ⟨_, rfl⟩
      rw [← hy] at hf c1 ⊢
      simp only [Tryz.ntmps163, Tryz.results163, push_cast, seval, sc]
      refine GoL_io (0, 448) .box 3 [sc s y false] rfl rfl rfl rfl (.inl rfl) rfl (take_ok s hs y c1 false n (by omega)) rfl rfl ?_
      by_cases c2 : y + n ≤ s.size
      · have o2 : takeOk s y false n = true := by simp [takeOk]; omega
        simp only [takeA, takeB, takeT, o2, if_true, Bool.not_true]
        obtain ⟨z, hz⟩ : ∃ z, z = y + n := ⟨_, rfl⟩
        rw [← hz] at hf c2 ⊢
        have k1 := inRange_ok n 1 9000
        simp only [Tryz.ntmps163, Tryz.results163, push_cast, seval, sc]
        refine GoL_call rfl rfl k1 rfl rfl ?_
        cases c3 : (decide ((1 : Int) ≤ (n : Int)) && decide ((n : Int) ≤ 9000)) with
        | false =>
          have hff : frO s a = none := by
            rw [hf, if_neg]
            intro hc
            simp at c3
            omega
          rw [hff]
          simp only [Tryz.ntmps163, Tryz.results163, push_cast, seval, sc, frX, c3]
        | true =>
          have hc3 : 1 ≤ n ∧ n ≤ 9000 := by simp at c3; omega
          have k2 := sumText_ok (s.extract y z) (Nat.le_trans (extract_size s y z) hs)
          simp only [Tryz.ntmps163, Tryz.results163, push_cast, seval, sc, c3]
          refine GoL_call rfl rfl k2 rfl rfl ?_
          cases c4 : decide (four (sumN (s.extract y z)) = s.extract x y) with
          | true =>
            have hff : frO s a = some (s.extract y z, z) := by rw [hf, if_pos ⟨c2, hc3.1, hc3.2, of_decide_eq_true c4⟩]
            rw [hff]
            simp only [Tryz.ntmps163, Tryz.results163, push_cast, seval, sc, frX, c3, c4]
          | false =>
            have hff : frO s a = none := by rw [hf, if_neg fun h => of_decide_eq_false c4 h.2.2.2]
            rw [hff]
            simp only [Tryz.ntmps163, Tryz.results163, push_cast, seval, sc, frX, c3, c4]
      · have o2 : takeOk s y false n = false := by simp [takeOk]; omega
        simp only [takeA, takeB, takeT, o2, if_false, Bool.not_false, Bool.false_eq_true]
        have hff : frO s a = none := by rw [hf, if_neg fun h => c2 h.1]
        rw [hff]
        simp only [Tryz.ntmps163, Tryz.results163, push_cast, seval, sc, frX]
    · have o1 : takeOk s x false 4 = false := by simp [takeOk]; omega
      have o2 : takeOk s x true n = false := rfl
      simp only [takeA, takeB, takeT, o1, if_false, Bool.not_false, Bool.false_eq_true]
      have hff : frO s a = none := by rw [hf, if_neg fun h => c1 (by omega)]
      rw [hff]
      simp only [Tryz.ntmps163, Tryz.results163, push_cast, seval, sc]
      refine GoL_io (0, 448) .box 3 [sc s x true] rfl rfl rfl rfl (.inl rfl) rfl (take_ok s hs x hx2 true n (by omega)) rfl rfl ?_
      simp only [takeA, takeB, takeT, o2, if_false, Bool.not_false, Bool.false_eq_true]
      simp only [Tryz.ntmps163, Tryz.results163, push_cast, seval, sc, frX]
end Go.Proofs.YthbfmegbnnmepaaGreatDoor

/- Lists of texts: equality, marks; frames. -/
namespace Go.Proofs.YthbfmegbnnmepaaGreatDoor
open Go.RowKit Go.Rx
set_option linter.unusedSimpArgs false
set_option maxRecDepth 100000

def strs (xs : List ByteArray) : List (List Value) := xs.map fun x => [.string x]
def ints (xs : List Int) : List (List Value) := xs.map fun x => [.int .i64 x]
theorem strs_length (xs : List ByteArray) : (strs xs).length = xs.length := by simp [strs]
theorem ints_length (xs : List Int) : (ints xs).length = xs.length := by simp [ints]
theorem ints_getD (xs : List Int) {i : Nat} (h : i < xs.length) : (ints xs).getD i [] = [.int .i64 (xs.getD i default)] := by
  simp [ints, List.getD_eq_getElem?_getD, List.getElem?_map, List.getElem?_eq_getElem h]
theorem wsucc {i n : Nat} (h : i < n) (hn : n ≤ 140737488355328) : IntKind.i64.wrap ((i : Int) + 1) = ((i + 1 : Nat) : Int) := by rw [IntKind.wrap_i64]; omega

/-! ### marks -/
end Go.Proofs.YthbfmegbnnmepaaGreatDoor

/- Frames of a file: both ways come to the same. -/
namespace Go.Proofs.YthbfmegbnnmepaaGreatDoor
open Go.RowKit Go.Rx
set_option linter.unusedSimpArgs false
set_option maxRecDepth 100000

theorem frO_bound {s : ByteArray} {a x : Nat} {t : ByteArray} (h : frO s a = some (t, x)) : a < x ∧ x ≤ s.size := by
  unfold frO at h
  split at h
  · rename_i n y hr
    have hb := rvO_bound hr
    split at h
    · rename_i hc
      obtain ⟨_, rfl⟩ := Prod.mk.inj (Option.some.inj h)
      omega
    · cases h
  · cases h
def frL (s : ByteArray) : Nat → Nat → List (ByteArray × Nat)
  | 0, _ => []
  | k + 1, a => match frO s a with
    | some (t, x) => (t, x) :: frL s k x
    | none => []
def frs (s : ByteArray) : List (ByteArray × Nat) := if s.size ≤ 20000 then frL s (s.size + 1) 0 else []
theorem frL_len (s : ByteArray) : ∀ (k a : Nat), (frL s k a).length ≤ s.size - a
  | 0, a => by simp [frL]
  | k + 1, a => by
    rw [frL]
    cases h : frO s a with
    | none => simp
    | some p =>
      obtain ⟨t, x⟩ := p
      have hb := frO_bound h
      have := frL_len s k x
      simp only [List.length_cons]; omega
theorem frs_len (s : ByteArray) : (frs s).length ≤ 20000 := by
  unfold frs
  split
  · have := frL_len s (s.size + 1) 0; omega
  · simp
/-- More fuel changes nothing. -/
theorem frL_fuel (s : ByteArray) : ∀ (k k' a : Nat), s.size < k + a → s.size < k' + a → frL s k a = frL s k' a
  | 0, 0, _, _, _ => rfl
  | 0, k' + 1, a, h, _ => by
    rw [frL, frL]
    cases hf : frO s a with
    | none => rfl
    | some p => obtain ⟨t, x⟩ := p; have := frO_bound hf; omega
  | k + 1, 0, a, _, h => by
    rw [frL, frL]
    cases hf : frO s a with
    | none => rfl
    | some p => obtain ⟨t, x⟩ := p; have := frO_bound hf; omega
  | k + 1, k' + 1, a, h, h' => by
    rw [frL, frL]
    cases hf : frO s a with
    | none => rfl
    | some p =>
      obtain ⟨t, x⟩ := p
      have := frO_bound hf
      simp only
      rw [frL_fuel s k k' x (by omega) (by omega)]
def frTs (l : List (ByteArray × Nat)) : List ByteArray := l.map (·.1)
def frEs (l : List (ByteArray × Nat)) : List Int := l.map fun p => (p.2 : Int)

theorem framesOf_ok (s : ByteArray) (hs : s.size ≤ 140737488355328) : PureFn Tryz.prog 125 [st s] [.one (.own 1 (vR (strs (frTs (frs s))))), .one (.own 1 (vR (ints (frEs (frs s)))))] := by
  refine PureFn_of_Go Tryz.func125 rfl (by decide) mo (by decide +kernel) ?_
  obtain ⟨F, hF⟩ : ∃ F, F = frs s := ⟨_, rfl⟩
  rw [← hF]
  simp only [Tryz.ntmps125, Tryz.results125, push_cast, seval]
  refine Go_loop (α := {p : List (ByteArray × Nat) × Nat // p.2 ≤ s.size ∧ p.1.length ≤ p.2 ∧ (s.size ≤ 20000 → p.1 ++ frL s (s.size + 1 - p.2) p.2 = F) ∧ (¬ s.size ≤ 20000 → p.1 = [])})
    (fun p => ⟨tp 33 [(0, .x (st s)), (4, .x (.one (.rs (0, 1600) [] 1 0 p.1.1.length))), (5, .x (.one (.rs (0, 1856) [] 1 0 p.1.1.length))), (6, int p.1.2)], 0, [((0, 1600), ⟨.sl, 1, vR (strs (frTs p.1.1))⟩), ((0, 1856), ⟨.sl, 1, vR (ints (frEs p.1.1))⟩)], []⟩)
    (fun p => s.size - p.1.2) ⟨([], 0), by simp, by simp, fun h => by rw [hF, frs, if_pos h]; rfl, fun _ => rfl⟩ ?_ ?_
  · refine Weak.trans (Weak.nilRoot (0, 1856) 1 5 rfl rfl rfl) (Weak.trans (Weak.nilRoot (0, 1600) 1 4 rfl rfl rfl) ?_)
    simp only [push_cast, seval, frTs, frEs, strs, ints, List.map_nil]
    exact Weak.same (by simp only [push_cast, seval])
  · rintro ⟨⟨l, a⟩, ha, hla, hinv, hno⟩ X hX
    simp only at ha hla hinv hno
    have l1 : (strs (frTs l)).length = l.length := by simp [strs, frTs]
    have l2 : (ints (frEs l)).length = l.length := by simp [ints, frEs]
    by_cases c0 : (s.size : Int) ≤ 20000
    · have hinv := hinv (by omega)
      cases hf : frO s a with
      | none =>
        have k := frameAt_ok s hs a ha
        rw [hf] at k
        rw [show s.size + 1 - a = (s.size - a) + 1 by omega, frL, hf, List.append_nil] at hinv
        subst hinv
        simp only [Tryz.ntmps125, Tryz.results125, push_cast, seval, c0]
        refine GoL_call rfl rfl k rfl rfl ?_
        simp only [Tryz.ntmps125, Tryz.results125, push_cast, seval, frX, l1, l2, nrRR_map]
      | some p =>
        obtain ⟨t, x⟩ := p
        have hb := frO_bound hf
        have k := frameAt_ok s hs a ha
        rw [hf] at k
        rw [show s.size + 1 - a = (s.size - a) + 1 by omega, frL, hf] at hinv
        simp only at hinv
        rw [frL_fuel s (s.size - a) (s.size + 1 - x) x (by omega) (by omega)] at hinv
        have a0 : l.length + 1 ≤ 4294967296 := by omega
        have a1 := max_len a0
        have a2 := room_le (b := 16) a0 (by decide)
        have a3 := room_le (b := 8) a0 (by decide)
        have s1 := vR_snoc (strs (frTs l)) [.string t]
        have s2 := vR_snoc (ints (frEs l)) [.int .i64 x]
        have e1 : strs (frTs l) ++ [[Value.string t]] = strs (frTs (l ++ [(t, x)])) := by simp [strs, frTs]
        have e2 : ints (frEs l) ++ [[Value.int .i64 x]] = ints (frEs (l ++ [(t, x)])) := by simp [ints, frEs]
        rw [e1] at s1
        rw [e2] at s2
        simp only [List.map_cons, List.map_nil] at s1 s2
        obtain ⟨l', hl'⟩ : ∃ l', l' = l ++ [(t, x)] := ⟨_, rfl⟩
        rw [← hl'] at s1 s2
        have hll : l'.length = l.length + 1 := by rw [hl']; simp
        simp only [push_cast, seval, c0]
        refine GoL_call rfl rfl k rfl rfl ?_
        simp only [push_cast, seval, frX, l1, l2, a1, a2, a3, s1, s2, flatRows, flatRow]
        refine ⟨_, ?_, hX ⟨(l', x), hb.2, by simp only; omega, fun _ => by simp only; rw [hl', List.append_assoc]; exact hinv, fun h => absurd (by omega) h⟩ (by simp only; omega)⟩
        exact Weak.drop (by simp only [push_cast, seval, hll]) (by simp only [push_cast, seval, hll]) (by simp only [push_cast, seval, hll])
    · have e0 : F = [] := by rw [hF]; exact if_neg (by omega)
      have e1 := hno (by omega)
      subst e1
      subst e0
      simp only [Tryz.ntmps125, Tryz.results125, push_cast, seval, c0, l1, l2]
end Go.Proofs.YthbfmegbnnmepaaGreatDoor

/- The reference's frames of a file; Frame. -/
namespace Go.Proofs.YthbfmegbnnmepaaGreatDoor
open Go.RowKit Go.Rx
set_option linter.unusedSimpArgs false
set_option maxRecDepth 100000

theorem seg_append (s : ByteArray) (a i j : Nat) : seg s a (i + j) = seg s a i ++ seg s (a + i) j := by
  unfold seg
  rw [List.take_add, List.drop_drop]
theorem seg_len {s : ByteArray} {a k : Nat} (h : a + k ≤ s.size) : (seg s a k).length = k := by
  unfold seg
  have : s.data.toList.length = s.size := by rw [Array.length_toList]; rfl
  rw [List.length_take, List.length_drop, this]; omega
theorem rvL_canon {s : ByteArray} {a m x : Nat} : ∀ (k i n u : Nat), u = 128 ^ i → n = val (seg s a i) → a + i ≤ s.size → (∀ q ∈ seg s a i, 128 ≤ q.toNat) → rvL s a k i n u = some (m, x) → varL m = seg s a (x - a)
  | 0, _, _, _, _, _, _, _, h => by cases h
  | k + 1, i, n, u, hu, hn, hi, hall, h => by
    by_cases h1 : a + i < s.size
    · have hsg := seg_succ h1
      have hl := seg_len hi
      have hval : n + (bu s (a + i)).toNat % 128 * u = val (seg s a (i + 1)) := by rw [hsg, val_snoc, ← hn, hl, ← hu]
      by_cases h2 : 128 ≤ (bu s (a + i)).toNat
      · rw [rvL_go h1 h2] at h
        refine rvL_canon k (i + 1) _ _ (by rw [Nat.pow_succ, hu]) hval (by omega) (fun q hq => ?_) h
        rw [hsg, List.mem_append] at hq
        rcases hq with hq | hq
        · exact hall q hq
        · rw [List.mem_singleton.1 hq]; exact h2
      · by_cases h3 : ((bu s (a + i)).toNat = 0 ∧ 0 < i) ∨ 1000000000 < n + (bu s (a + i)).toNat % 128 * u
        · rw [rvL_no h1 h2 h3] at h; cases h
        · rw [rvL_yes h1 h2 h3] at h
          obtain ⟨rfl, rfl⟩ := Prod.mk.inj (Option.some.inj h)
          have hcan := (canon (b := bu s (a + i)) hall (by omega)).2 (by rw [hl]; exact fun hc => h3 (.inl hc))
          rw [← hsg] at hcan
          rw [hval, hcan]
          congr 1; omega
    · rw [rvL_out h1] at h; cases h
theorem rvO_canon {s : ByteArray} {a n x : Nat} (h : rvO s a = some (n, x)) : varL n = seg s a (x - a) := by
  unfold rvO at h
  split at h
  · rename_i hc
    exact rvL_canon 5 0 0 1 rfl (by simp [seg, val]) (by omega) (by simp [seg]) h
  · cases h
theorem varL_len (n : Nat) : (varL n).length ≤ n + 1 := by
  induction n using Nat.strongRecOn with
  | ind n ih =>
    by_cases h : n ≤ 127
    · rw [varL_small h]; simp
    · rw [varL_big h, List.length_cons]
      have := ih (n / 128) (by omega)
      omega
theorem varB_size (n : Nat) : (varB n).size ≤ n + 1 := by
  have := varL_len n
  show (varL n).toArray.size ≤ _
  simpa using this
def frameB (t : ByteArray) : ByteArray := varB t.size ++ four (sumN t) ++ t
theorem app_list (x y : ByteArray) : (x ++ y).data.toList = x.data.toList ++ y.data.toList := by rw [ByteArray.data_append, Array.toList_append]
theorem frame_iff {s : ByteArray} {a n x : Nat} (h : rvO s a = some (n, x)) (hz : x + 4 + n ≤ s.size) :
    frameB (s.extract (x + 4) (x + 4 + n)) = s.extract a (x + 4 + n) ↔ four (sumN (s.extract (x + 4) (x + 4 + n))) = s.extract x (x + 4) := by
  obtain ⟨_, ha0, hax, hxs⟩ := rvO_bound h
  have hc := rvO_canon h
  have hsz : (s.extract (x + 4) (x + 4 + n)).size = n := by rw [ByteArray.size_extract]; omega
  have e1 : (frameB (s.extract (x + 4) (x + 4 + n))).data.toList = seg s a (x - a) ++ ((four (sumN (s.extract (x + 4) (x + 4 + n)))).data.toList ++ seg s (x + 4) n) := by
    unfold frameB
    rw [app_list, app_list, hsz, varB_list, hc, extract_list, show x + 4 + n - (x + 4) = n by omega, List.append_assoc]
  have e2 : (s.extract a (x + 4 + n)).data.toList = seg s a (x - a) ++ (seg s x 4 ++ seg s (x + 4) n) := by
    rw [extract_list, show x + 4 + n - a = (x - a) + (4 + n) by omega, seg_append, show a + (x - a) = x by omega, seg_append]
  have e3 : (s.extract x (x + 4)).data.toList = seg s x 4 := by rw [extract_list, show x + 4 - x = 4 by omega]
  constructor
  · intro hh
    have : (frameB (s.extract (x + 4) (x + 4 + n))).data.toList = (s.extract a (x + 4 + n)).data.toList := by rw [hh]
    rw [e1, e2] at this
    refine bytes_ext ?_
    rw [e3]
    exact List.append_cancel_right (List.append_cancel_left this)
  · intro hh
    refine bytes_ext ?_
    rw [e1, e2, hh, e3]

theorem frame_ok (t : ByteArray) (ht : t.size ≤ 4000000000) : PureFn Tryz.prog 57 [st t] [st (frameB t)] := by
  refine PureFn_of_Go Tryz.func57 rfl (by decide) mo (by decide +kernel) ?_
  simp only [Tryz.ntmps57, Tryz.results57, push_cast, seval]
  refine GoL_call rfl rfl (varText_ok t.size (by omega)) rfl rfl ?_
  simp only [Tryz.ntmps57, Tryz.results57, push_cast, seval]
  refine GoL_call rfl rfl (sumText_ok t (by omega)) rfl rfl ?_
  have h1 := varB_size t.size
  have h2 := four_size (sumN t)
  have h3 : (varB t.size).size + (four (sumN t)).size ≤ 9223372036854775807 := by omega
  have h4 : (varB t.size ++ four (sumN t)).size + t.size ≤ 9223372036854775807 := by rw [ByteArray.size_append]; omega
  simp only [Tryz.ntmps57, Tryz.results57, push_cast, seval, h3, h4, frameB]
def okLen (t : ByteArray) : Bool := decide ((1 : Int) ≤ (t.size : Int)) && decide ((t.size : Int) ≤ 9000)
end Go.Proofs.YthbfmegbnnmepaaGreatDoor

/- The scanner's other methods, and the reference's cursor. -/
namespace Go.Proofs.YthbfmegbnnmepaaGreatDoor
open Go.RowKit Go.Rx
set_option linter.unusedSimpArgs false
set_option maxRecDepth 100000

theorem numA_le {s : ByteArray} {a : Nat} {b : Bool} (ha : a ≤ s.size) : numA s a b ≤ s.size := by
  unfold numA
  split
  · exact ha
  · cases h : rvO s a with
    | none => exact ha
    | some p => obtain ⟨n, x⟩ := p; exact (rvO_bound h).2.2.2
theorem numN_le (s : ByteArray) (a : Nat) (b : Bool) : numN s a b ≤ 1000000000 := by
  unfold numN
  split
  · exact Nat.zero_le _
  · cases h : rvO s a with
    | none => exact Nat.zero_le _
    | some p => obtain ⟨n, x⟩ := p; exact (rvO_bound h).1
theorem takeA_le {s : ByteArray} {a : Nat} {b : Bool} {n : Nat} (ha : a ≤ s.size) : takeA s a b n ≤ s.size := by
  unfold takeA
  cases h : takeOk s a b n with
  | false => simpa using ha
  | true =>
    simp [takeOk] at h
    simp; exact h.2

def octN (s : ByteArray) (a : Nat) (b : Bool) : Nat := if takeOk s a b 1 then (bu s a).toNat else 0
theorem extract_one {s : ByteArray} {a : Nat} (h : a + 1 ≤ s.size) : s.extract a (a + 1) = ⟨[bu s a].toArray⟩ := by
  refine bytes_ext ?_
  rw [extract_list, show a + 1 - a = 0 + 1 by omega, seg_succ (by omega), seg_zero]; rfl
theorem octet_ok (s : ByteArray) (hs : s.size ≤ 140737488355328) (a : Nat) (ha : a ≤ s.size) (b : Bool) : IoFn Tryz.prog 124 .box 3 [sc s a b] [] [sc s (takeA s a b 1) (takeB s a b 1)] [i64 (octN s a b)] := by
  refine IoFn_of_Go Tryz.func124 rfl (by decide) mo (by decide +kernel) (ioOk_box rfl) (ioOk_box rfl) rfl rfl ?_
  have k := take_ok s hs a ha b 1 (by omega)
  simp only [Tryz.ntmps124, Tryz.results124, push_cast, seval, sc]
  refine GoL_io (0, 1) .box 3 [sc s a b] rfl rfl rfl rfl (.inl rfl) rfl k rfl rfl ?_
  obtain ⟨x, hx⟩ : ∃ x, x = takeA s a b 1 := ⟨_, rfl⟩
  obtain ⟨y, hy⟩ : ∃ y, y = takeB s a b 1 := ⟨_, rfl⟩
  rw [← hx, ← hy]
  cases ho : takeOk s a b 1 with
  | false =>
    have ht : takeT s a b 1 = ⟨#[]⟩ := by simp [takeT, ho]
    rw [ht]
    simp only [Tryz.ntmps124, Tryz.results124, push_cast, seval, sc, octN, ho, Bool.false_eq_true, Int.ofNat_zero]
  | true =>
    have hle : a + 1 ≤ s.size := by simp [takeOk] at ho; exact ho.2
    have ht : takeT s a b 1 = ⟨[bu s a].toArray⟩ := by simp only [takeT, ho, if_true]; exact extract_one hle
    rw [ht]
    obtain ⟨t, htt⟩ : ∃ t : ByteArray, t = ⟨[bu s a].toArray⟩ := ⟨_, rfl⟩
    rw [← htt]
    have hne : decide (t = ⟨#[]⟩) = false := by
      rw [htt]; apply decide_eq_false; intro h
      have := congrArg ByteArray.size h
      have h2 : (1 : Nat) = 0 := this
      omega
    have h0 : t[0]? = some (bu s a) := by rw [htt]; rfl
    have hw : IntKind.i64.wrap ((bu s a).toNat : Int) = ((bu s a).toNat : Int) := wN rfl (by have := u8_lt (bu s a); omega)
    have hi := index_str (P := Tryz.prog) (t := 9) t 0 .i64
    rw [show ((0 : Nat) : Int) = 0 from rfl, h0] at hi
    simp only [Tryz.ntmps124, Tryz.results124, push_cast, seval, sc, octN, ho, hne, hi, hw]

def shB (s : ByteArray) (a : Nat) (b : Bool) : Bool := if 20000 < numN s a b then true else numB s a b
def shT (s : ByteArray) (a : Nat) (b : Bool) : ByteArray := takeT s (numA s a b) (shB s a b) (numN s a b)
def shA (s : ByteArray) (a : Nat) (b : Bool) : Nat := takeA s (numA s a b) (shB s a b) (numN s a b)
def shBB (s : ByteArray) (a : Nat) (b : Bool) : Bool := takeB s (numA s a b) (shB s a b) (numN s a b)
theorem short_ok (s : ByteArray) (hs : s.size ≤ 140737488355328) (a : Nat) (ha : a ≤ s.size) (b : Bool) : IoFn Tryz.prog 68 .box 3 [sc s a b] [] [sc s (shA s a b) (shBB s a b)] [st (shT s a b)] := by
  refine IoFn_of_Go Tryz.func68 rfl (by decide) mo (by decide +kernel) (ioOk_box rfl) (ioOk_box rfl) rfl rfl ?_
  have k := number_ok s hs a b
  have hle := numA_le (b := b) ha
  have hnl := numN_le s a b
  simp only [Tryz.ntmps68, Tryz.results68, push_cast, seval, sc]
  refine GoL_io (0, 1) .box 3 [sc s a b] rfl rfl rfl rfl (.inl rfl) rfl k rfl rfl ?_
  unfold shA shBB shT shB
  generalize numA s a b = x at hle ⊢
  generalize numB s a b = y
  generalize numN s a b = n at hnl ⊢
  by_cases c : (20000 : Int) < (n : Int)
  · have c' : 20000 < n := by omega
    have k2 := take_ok s hs x hle true n (by omega)
    simp only [c', if_true]
    simp only [Tryz.ntmps68, Tryz.results68, push_cast, seval, sc, c]
    refine GoL_io (0, 1) .box 3 [sc s x true] rfl rfl rfl rfl (.inl rfl) rfl k2 rfl rfl ?_
    simp only [Tryz.ntmps68, Tryz.results68, push_cast, seval, sc]
  · have c' : ¬ 20000 < n := by omega
    have k2 := take_ok s hs x hle y n (by omega)
    simp only [c', if_false]
    simp only [Tryz.ntmps68, Tryz.results68, push_cast, seval, sc, c]
    refine GoL_io (0, 1) .box 3 [sc s x y] rfl rfl rfl rfl (.inl rfl) rfl k2 rfl rfl ?_
    simp only [Tryz.ntmps68, Tryz.results68, push_cast, seval, sc]
def l5A (s : ByteArray) (a : Nat) (b : Bool) : Nat := takeA s (numA s a b) (numB s a b) (numN s a b)
def l5B (s : ByteArray) (a : Nat) (b : Bool) : Bool := takeB s (numA s a b) (numB s a b) (numN s a b)
def l5T (s : ByteArray) (a : Nat) (b : Bool) : ByteArray := takeT s (numA s a b) (numB s a b) (numN s a b)
theorem done_ok (s : ByteArray) (a : Nat) (b : Bool) : IoFn Tryz.prog 71 .box 3 [sc s a b] [] [sc s a b] [bo (!b && decide ((a : Int) = (s.size : Int)))] := by
  refine IoFn_of_Go Tryz.func71 rfl (by decide) mo (by decide +kernel) (ioOk_box rfl) (ioOk_box rfl) rfl rfl ?_
  cases b with
  | true => simp only [Tryz.ntmps71, Tryz.results71, push_cast, seval, sc]
  | false => simp only [Tryz.ntmps71, Tryz.results71, push_cast, seval, sc]
end Go.Proofs.YthbfmegbnnmepaaGreatDoor

/- Nodes, confs, entries: what these functions return, by their code. -/
namespace Go.Proofs.YthbfmegbnnmepaaGreatDoor
open Go.RowKit Go.Rx
set_option linter.unusedSimpArgs false
set_option maxRecDepth 100000

def inR (n a b : Int) : Bool := decide (a ≤ n) && decide (n ≤ b)
theorem inR_spec {n a b : Int} : inR n a b = true ↔ a ≤ n ∧ n ≤ b := by simp [inR]

theorem isTerm_ok (n : Int) : PureFn Tryz.prog 38 [i64 n] [bo (inR n 0 100000)] := by
  refine PureFn_of_Go Tryz.func38 rfl (by decide) mo (by decide +kernel) ?_
  simp only [Tryz.ntmps38, Tryz.results38, push_cast, seval]
  refine GoL_call rfl rfl (inRange_ok n 0 100000) rfl rfl ?_
  simp only [Tryz.ntmps38, Tryz.results38, push_cast, seval, inR]
theorem isIndex_ok (n : Int) : PureFn Tryz.prog 37 [i64 n] [bo (inR n 0 1000000)] := by
  refine PureFn_of_Go Tryz.func37 rfl (by decide) mo (by decide +kernel) ?_
  simp only [Tryz.ntmps37, Tryz.results37, push_cast, seval]
  refine GoL_call rfl rfl (inRange_ok n 0 1000000) rfl rfl ?_
  simp only [Tryz.ntmps37, Tryz.results37, push_cast, seval, inR]
theorem isNode_ok (n : Int) : PureFn Tryz.prog 84 [i64 n] [bo (inR n 1 4)] := by
  refine PureFn_of_Go Tryz.func84 rfl (by decide) mo (by decide +kernel) ?_
  simp only [Tryz.ntmps84, Tryz.results84, push_cast, seval]
  refine GoL_call rfl rfl (inRange_ok n 1 4) rfl rfl ?_
  simp only [Tryz.ntmps84, Tryz.results84, push_cast, seval, inR]

/-! ### numbers that rise -/
def at_ (l : List Int) (i : Nat) : Int := l.getD i default
def rise (l : List Int) (a b : Int) : Prop := ∀ i, i < l.length → a ≤ at_ l i ∧ at_ l i ≤ b ∧ (0 < i → at_ l (i - 1) < at_ l i)
instance (l : List Int) (a b : Int) : Decidable (rise l a b) := by unfold rise; infer_instance
theorem areNodes_ok (l : List Int) (hl : l.length ≤ 140737488355328) : PureFn Tryz.prog 86 [.one (.sh 1 (vR (ints l)))] [bo (decide (rise l 1 4))] := by
  refine PureFn_of_Go Tryz.func86 rfl (by decide) mo (by decide +kernel) ?_
  obtain ⟨r, hr⟩ : ∃ r, r = decide (rise l 1 4) := ⟨_, rfl⟩
  rw [← hr]
  simp only [Tryz.ntmps86, Tryz.results86, push_cast, seval, ints_length]
  refine Go_loop (α := {i : Nat // i ≤ l.length ∧ ∀ j, j < i → 1 ≤ at_ l j ∧ at_ l j ≤ 4 ∧ (0 < j → at_ l (j - 1) < at_ l j)})
    (fun i => ⟨tp 29 [(0, .x (.one (.sh 1 (vR (ints l))))), (5, .x (.one (.sh 1 (vR (ints l))))), (6, int l.length), (7, int i.1)], 0, [], []⟩) (fun i => l.length - i.1) ⟨0, by omega, fun j h => absurd h (Nat.not_lt_zero _)⟩ ?_ ?_
  · exact Weak.same (by simp only [push_cast, seval, Int.ofNat_zero])
  · rintro ⟨i, hi, hall⟩ X hX
    by_cases hlt : (i : Int) < (l.length : Int)
    · have hi' : i < l.length := by omega
      have ws := wsucc hi' hl
      have hg := ints_getD l hi'
      rw [show l.getD i default = at_ l i from rfl] at hg
      have kn := isNode_ok (at_ l i)
      obtain ⟨x, hx⟩ : ∃ x, x = at_ l i := ⟨_, rfl⟩
      rw [← hx] at hg kn
      obtain ⟨i', hi1⟩ : ∃ i', i' = i + 1 := ⟨_, rfl⟩
      rw [← hi1] at ws
      simp only [push_cast, seval, ints_length, hlt, hi', vR_getD, hg]
      refine GoL_call rfl rfl kn rfl rfl ?_
      cases c1 : inR x 1 4 with
      | false =>
        have hf : r = false := by
          rw [hr]; apply decide_eq_false
          intro h
          have := h i hi'
          have h2 : inR x 1 4 = true := inR_spec.2 ⟨by rw [hx]; exact this.1, by rw [hx]; exact this.2.1⟩
          rw [h2] at c1; cases c1
        subst hf
        simp only [Tryz.ntmps86, Tryz.results86, push_cast, seval]
      | true =>
        have hin := inR_spec.1 c1
        by_cases c2 : (0 : Int) < (i : Int)
        · have hpi : i - 1 < l.length := by omega
          have hgp := ints_getD l hpi
          rw [show l.getD (i - 1) default = at_ l (i - 1) from rfl] at hgp
          have wp : IntKind.i64.wrap ((i : Int) - 1) = ((i - 1 : Nat) : Int) := wN (by omega) (by omega)
          obtain ⟨p, hp⟩ : ∃ p, p = i - 1 := ⟨_, rfl⟩
          rw [← hp] at hgp wp hpi
          obtain ⟨y, hy⟩ : ∃ y, y = at_ l p := ⟨_, rfl⟩
          rw [← hy] at hgp
          have hpl : (p : Int) < (l.length : Int) := by omega
          by_cases c3 : x ≤ y
          · have hf : r = false := by
              rw [hr]; apply decide_eq_false
              intro h
              have := (h i hi').2.2 (by omega)
              rw [← hp, ← hy, ← hx] at this; omega
            subst hf
            simp only [Tryz.ntmps86, Tryz.results86, push_cast, seval, ints_length, c2, wp, hpi, hpl, vR_getD, hgp, c3]
          · simp only [push_cast, seval, ints_length, c2, wp, hpi, hpl, vR_getD, hgp, c3, ws]
            refine ⟨_, ?_, hX ⟨i', by omega, fun j hj => ?_⟩ (by simp only; omega)⟩
            · exact Weak.same (by simp only [push_cast, seval])
            · by_cases e : j = i
              · subst e
                exact ⟨by rw [← hx]; exact hin.1, by rw [← hx]; exact hin.2, fun _ => by rw [← hp, ← hy, ← hx]; omega⟩
              · exact hall j (by omega)
        · simp only [push_cast, seval, ints_length, c2, ws]
          refine ⟨_, ?_, hX ⟨i', by omega, fun j hj => ?_⟩ (by simp only; omega)⟩
          · exact Weak.same (by simp only [push_cast, seval])
          · by_cases e : j = i
            · subst e
              exact ⟨by rw [← hx]; exact hin.1, by rw [← hx]; exact hin.2, fun h0 => by omega⟩
            · exact hall j (by omega)
    · have ht : r = true := by
        rw [hr]; apply decide_eq_true
        intro j hj; exact hall j (by omega)
      subst ht
      simp only [Tryz.ntmps86, Tryz.results86, push_cast, seval, hlt]
theorem l05Rise_ok (l : List Int) (hl : l.length ≤ 140737488355328) (a b : Int) : PureFn Tryz.prog 22 [.one (.sh 1 (vR (ints l))), i64 a, i64 b] [bo (decide (rise l a b))] := by
  refine PureFn_of_Go Tryz.func22 rfl (by decide) mo (by decide +kernel) ?_
  obtain ⟨r, hr⟩ : ∃ r, r = decide (rise l a b) := ⟨_, rfl⟩
  rw [← hr]
  simp only [Tryz.ntmps22, Tryz.results22, push_cast, seval, ints_length]
  refine Go_loop (α := {i : Nat // i ≤ l.length ∧ ∀ j, j < i → a ≤ at_ l j ∧ at_ l j ≤ b ∧ (0 < j → at_ l (j - 1) < at_ l j)})
    (fun i => ⟨tp 38 [(0, .x (.one (.sh 1 (vR (ints l))))), (1, .x (i64 a)), (2, .x (i64 b)), (7, int i.1)], 0, [], []⟩) (fun i => l.length - i.1) ⟨0, by omega, fun j h => absurd h (Nat.not_lt_zero _)⟩ ?_ ?_
  · exact Weak.same (by simp only [push_cast, seval, Int.ofNat_zero])
  · rintro ⟨i, hi, hall⟩ X hX
    by_cases hlt : (i : Int) < (l.length : Int)
    · have hi' : i < l.length := by omega
      have ws := wsucc hi' hl
      have hg := ints_getD l hi'
      rw [show l.getD i default = at_ l i from rfl] at hg
      have kn := l01In_ok (at_ l i) a b
      obtain ⟨x, hx⟩ : ∃ x, x = at_ l i := ⟨_, rfl⟩
      rw [← hx] at hg kn
      obtain ⟨i', hi1⟩ : ∃ i', i' = i + 1 := ⟨_, rfl⟩
      rw [← hi1] at ws
      simp only [push_cast, seval, ints_length, hlt, hi', vR_getD, hg]
      refine GoD_call rfl rfl kn rfl rfl ?_
      rw [show (decide (a ≤ x) && decide (x ≤ b)) = inR x a b from rfl]
      cases c1 : inR x a b with
      | false =>
        have hf : r = false := by
          rw [hr]; apply decide_eq_false
          intro h
          have := h i hi'
          have h2 : inR x a b = true := inR_spec.2 ⟨by rw [hx]; exact this.1, by rw [hx]; exact this.2.1⟩
          rw [h2] at c1; cases c1
        subst hf
        simp only [Tryz.ntmps22, Tryz.results22, push_cast, seval]
      | true =>
        have hin := inR_spec.1 c1
        by_cases c2 : (0 : Int) < (i : Int)
        · have hpi : i - 1 < l.length := by omega
          have hgp := ints_getD l hpi
          rw [show l.getD (i - 1) default = at_ l (i - 1) from rfl] at hgp
          have wp : IntKind.i64.wrap ((i : Int) - 1) = ((i - 1 : Nat) : Int) := wN (by omega) (by omega)
          obtain ⟨p, hp⟩ : ∃ p, p = i - 1 := ⟨_, rfl⟩
          rw [← hp] at hgp wp hpi
          obtain ⟨y, hy⟩ : ∃ y, y = at_ l p := ⟨_, rfl⟩
          rw [← hy] at hgp
          have hpl : (p : Int) < (l.length : Int) := by omega
          by_cases c3 : x ≤ y
          · have hf : r = false := by
              rw [hr]; apply decide_eq_false
              intro h
              have := (h i hi').2.2 (by omega)
              rw [← hp, ← hy, ← hx] at this; omega
            subst hf
            simp only [Tryz.ntmps22, Tryz.results22, push_cast, seval, ints_length, hlt, hi', hg, c2, wp, hpi, hpl, vR_getD, hgp, c3]
          · simp only [push_cast, seval, ints_length, hlt, hi', hg, c2, wp, hpi, hpl, vR_getD, hgp, c3, ws]
            refine ⟨_, ?_, hX ⟨i', by omega, fun j hj => ?_⟩ (by simp only; omega)⟩
            · exact Weak.same (by simp only [push_cast, seval])
            · by_cases e : j = i
              · subst e
                exact ⟨by rw [← hx]; exact hin.1, by rw [← hx]; exact hin.2, fun _ => by rw [← hp, ← hy, ← hx]; omega⟩
              · exact hall j (by omega)
        · simp only [push_cast, seval, ints_length, c2, ws]
          refine ⟨_, ?_, hX ⟨i', by omega, fun j hj => ?_⟩ (by simp only; omega)⟩
          · exact Weak.same (by simp only [push_cast, seval])
          · by_cases e : j = i
            · subst e
              exact ⟨by rw [← hx]; exact hin.1, by rw [← hx]; exact hin.2, fun h0 => by omega⟩
            · exact hall j (by omega)
    · have ht : r = true := by
        rw [hr]; apply decide_eq_true
        intro j hj; exact hall j (by omega)
      subst ht
      simp only [Tryz.ntmps22, Tryz.results22, push_cast, seval, hlt, ints_length]

def confB (l : List Int) : Bool := decide ((0 : Int) < (l.length : Int)) && decide (rise l 1 4)
theorem rise_len {l : List Int} (h : rise l 1 4) : l.length ≤ 4 := by
  have key : ∀ i, i < l.length → (i : Int) + 1 ≤ at_ l i := by
    intro i
    induction i with
    | zero => intro hi; have := (h 0 hi).1; omega
    | succ i ih =>
      intro hi
      have h1 := ih (by omega)
      have h2 := (h (i + 1) hi).2.2 (by omega)
      rw [Nat.add_sub_cancel] at h2
      omega
  rcases Nat.lt_or_ge 4 l.length with h4 | h4
  · have h1 := key 4 h4
    have h2 := (h 4 h4).2.1
    omega
  · exact h4
theorem confOkI_ok (l : List Int) (hl : l.length ≤ 140737488355328) : PureFn Tryz.prog 54 [.one (.sh 1 (vR (ints l)))] [bo (confB l)] := by
  refine PureFn_of_Go Tryz.func54 rfl (by decide) mo (by decide +kernel) ?_
  have k := areNodes_ok l hl
  unfold confB
  by_cases c : (0 : Int) < (l.length : Int)
  · simp only [Tryz.ntmps54, Tryz.results54, push_cast, seval, ints_length, c]
    refine GoL_call rfl rfl k rfl rfl ?_
    simp only [Tryz.ntmps54, Tryz.results54, push_cast, seval, ints_length, c]
  · simp only [Tryz.ntmps54, Tryz.results54, push_cast, seval, ints_length, c]
theorem confOkS_ok (l : List Int) (hl : l.length ≤ 140737488355328) : PureFn Tryz.prog 7 [.one (.sh 1 (vR (ints l)))] [bo (confB l)] := by
  refine PureFn_of_Go Tryz.func7 rfl (by decide) mo (by decide +kernel) ?_
  have k1 := l01In_ok l.length 1 4
  have k2 := l05Rise_ok l hl 1 4
  simp only [Tryz.ntmps7, Tryz.results7, push_cast, seval, ints_length]
  refine GoL_call rfl rfl k1 rfl rfl ?_
  rw [show (decide ((1 : Int) ≤ (l.length : Int)) && decide ((l.length : Int) ≤ 4)) = inR l.length 1 4 from rfl]
  cases c : inR l.length 1 4 with
  | true =>
    have hc := inR_spec.1 c
    have h0 : (0 : Int) < (l.length : Int) := by omega
    simp only [Tryz.ntmps7, Tryz.results7, push_cast, seval, confB, h0]
    refine GoL_call rfl rfl k2 rfl rfl ?_
    simp only [Tryz.ntmps7, Tryz.results7, push_cast, seval, confB, h0]
  | false =>
    have hb : confB l = false := by
      cases hb : confB l with
      | false => rfl
      | true =>
        simp only [confB, Bool.and_eq_true, decide_eq_true_eq] at hb
        have := rise_len hb.2
        have h2 : inR l.length 1 4 = true := inR_spec.2 ⟨by omega, by omega⟩
        rw [h2] at c; cases c
    simp only [Tryz.ntmps7, Tryz.results7, push_cast, seval, hb]

/-! ### a text as numbers -/
def natsL (s : ByteArray) : List Int := s.data.toList.map fun b => (b.toNat : Int)
theorem natsL_length (s : ByteArray) : (natsL s).length = s.size := by simp [natsL]
theorem natsL_take (s : ByteArray) {i : Nat} (h : i < s.size) : (natsL s).take (i + 1) = (natsL s).take i ++ [((bu s i).toNat : Int)] := by
  have h2 : i < s.data.toList.length := by rw [Array.length_toList]; exact h
  have h3 : i < (natsL s).length := by rw [natsL_length]; exact h
  rw [List.take_add_one, List.getElem?_eq_getElem h3]
  simp [natsL, bu, List.getD_eq_getElem?_getD, List.getElem?_eq_getElem h2]
theorem byR_getD (s : ByteArray) {i : Nat} (h : i < s.size) : (byR s.data.toList).getD i [] = [.v (.int .u8 ((bu s i).toNat : Int))] := by
  have h2 : i < s.data.toList.length := by rw [Array.length_toList]; exact h
  simp [byR, bu, List.getD_eq_getElem?_getD, List.getElem?_map, List.getElem?_eq_getElem h2]
theorem numbers_ok (s : ByteArray) (hs : s.size ≤ 1000000) : PureFn Tryz.prog 118 [st s] [.one (.own 1 (vR (ints (natsL s))))] := by
  refine PureFn_of_Go Tryz.func118 rfl (by decide) mo (by decide +kernel) ?_
  have h1 : s.size ≤ 281474976710656 := by omega
  have hbl : (byR s.data.toList).length = s.size := by rw [byR_length, Array.length_toList]; rfl
  obtain ⟨F, hF⟩ : ∃ F, F = natsL s := ⟨_, rfl⟩
  rw [← hF]
  simp only [Tryz.ntmps118, Tryz.results118, push_cast, seval, h1, byteRows_byR]
  refine Go_loop (α := {i : Nat // i ≤ s.size})
    (fun i => ⟨tp 20 [(3, .x (.one (.rs (0, 1088) [] 1 0 i.1))), (7, .x (.one (.rs (0, 448) [] 1 0 s.size))), (8, int s.size), (9, int i.1)], 0, [((0, 1088), ⟨.sl, 1, vR (ints (F.take i.1))⟩), ((0, 448), ⟨.sl, 1, byR s.data.toList⟩)], []⟩) (fun i => s.size - i.1) ⟨0, Nat.zero_le _⟩ ?_ ?_
  · refine Weak.trans (Weak.nilRoot (0, 1088) 1 3 rfl rfl rfl) ?_
    simp only [push_cast, seval, ints, List.map_nil, List.take_zero]
    exact Weak.same (by simp only [push_cast, seval, Int.ofNat_zero])
  · rintro ⟨i, hi⟩ X hX
    have hll : (ints (F.take i)).length = i := by rw [ints_length, List.length_take, hF, natsL_length]; omega
    by_cases hlt : (i : Int) < (s.size : Int)
    · have hi' : i < s.size := by omega
      have ws := wsucc hi' (by omega)
      have hg := byR_getD s hi'
      have hw : IntKind.i64.wrap ((bu s i).toNat : Int) = ((bu s i).toNat : Int) := wN rfl (by have := u8_lt (bu s i); omega)
      have a0 : i + 1 ≤ 4294967296 := by omega
      have a1 := max_len a0
      have a2 := room_le (b := 8) a0 (by decide)
      have s1 := vR_snoc (ints (F.take i)) [.int .i64 ((bu s i).toNat : Int)]
      have e1 : ints (F.take i) ++ [[Value.int .i64 ((bu s i).toNat : Int)]] = ints (F.take (i + 1)) := by rw [hF, natsL_take s hi']; simp [ints]
      rw [e1] at s1
      simp only [List.map_cons, List.map_nil] at s1
      obtain ⟨i', hi1⟩ : ∃ i', i' = i + 1 := ⟨_, rfl⟩
      rw [← hi1] at ws s1
      simp only [push_cast, seval, hlt, hi', hbl, hg, hw, hll, a1, a2, s1, ws, flatRows, flatRow]
      refine ⟨_, ?_, hX ⟨i', by omega⟩ (by simp only; omega)⟩
      exact Weak.drop (by simp only [push_cast, seval, hi1]) (by simp only [push_cast, seval, hi1]) (by simp only [push_cast, seval, hi1])
    · have hie : i = s.size := by omega
      have hfin : F.take i = F := List.take_of_length_le (by rw [hF, natsL_length, hie]; exact Nat.le_refl _)
      rw [hfin] at hll
      simp only [hfin]
      simp only [Tryz.ntmps118, Tryz.results118, push_cast, seval, hlt, hll]
end Go.Proofs.YthbfmegbnnmepaaGreatDoor

/- Entries read and told: by their code. -/
namespace Go.Proofs.YthbfmegbnnmepaaGreatDoor
open Go.RowKit Go.Rx
set_option linter.unusedSimpArgs false
set_option maxRecDepth 100000

def rcB (s : ByteArray) : Bool := decide ((s.size : Int) ≤ 4) && confB (natsL s)
def rcX (s : ByteArray) : List X := if rcB s then [.one (.own 1 (vR (ints (natsL s)))), bo true] else [.one (.own 1 []), bo false]
theorem readConfI_ok (s : ByteArray) (hs : s.size ≤ 140737488355328) : PureFn Tryz.prog 168 [st s] (rcX s) := by
  refine PureFn_of_GoW Tryz.func168 rfl (by decide) mo (by decide +kernel) ?_
  by_cases c : (4 : Int) < (s.size : Int)
  · have hb : rcB s = false := by
      simp only [rcB]; rw [decide_eq_false (by omega), Bool.false_and]
    simp only [rcX, hb, Bool.false_eq_true, if_false]
    simp only [Tryz.ntmps168, Tryz.results168, push_cast, seval, c]
    refine ⟨_, Weak.nilRoot (0, 1) 1 2 rfl rfl rfl, ?_⟩
    simp only [Tryz.ntmps168, Tryz.results168, push_cast, seval]
  · have h4 : (s.size : Int) ≤ 4 := by omega
    have k := numbers_ok s (by omega)
    have k2 := confOkI_ok (natsL s) (by rw [natsL_length]; omega)
    have hl : (ints (natsL s)).length = s.size := by rw [ints_length, natsL_length]
    have ht : (vR (ints (natsL s))).take s.size = vR (ints (natsL s)) := List.take_of_length_le (by rw [vR_length, hl]; exact Nat.le_refl _)
    have hb : rcB s = confB (natsL s) := by simp only [rcB]; rw [decide_eq_true h4, Bool.true_and]
    simp only [Tryz.ntmps168, Tryz.results168, push_cast, seval, c]
    refine GoL_call rfl rfl k (by simp only [push_cast, seval]) rfl ?_
    simp only [Tryz.ntmps168, Tryz.results168, push_cast, seval, hl]
    refine GoL_call rfl (by simp only [push_cast, seval, ht]) k2 rfl rfl ?_
    cases c2 : confB (natsL s) with
    | true =>
      have hb2 := hb.trans c2
      simp only [rcX, hb2, if_true]
      simp only [Tryz.ntmps168, Tryz.results168, push_cast, seval]
      refine ⟨_, Weak.refl _, ?_⟩
      simp only [Tryz.ntmps168, Tryz.results168, push_cast, seval, hl]
    | false =>
      have hb2 := hb.trans c2
      simp only [rcX, hb2, Bool.false_eq_true, if_false]
      simp only [Tryz.ntmps168, Tryz.results168, push_cast, seval]
      refine ⟨_, Weak.nilRoot (0, 1) 1 2 rfl rfl rfl, ?_⟩
      simp only [Tryz.ntmps168, Tryz.results168, push_cast, seval]
/-! ### entries -/
def entC (term kind : Int) (data : ByteArray) : List C := [.v (.int .i64 term), .v (.int .i64 kind), .v (.string data)]
def eoB (term kind : Int) (data : ByteArray) : Bool := inR term 0 100000 &&
  (if decide (kind = 1) then decide (data = ⟨#[]⟩) else if decide (kind = 2) then rcB data else if decide (kind = 3) then decide ((data.size : Int) ≤ 640) else false)
theorem rcX_true {s : ByteArray} (h : rcB s = true) : rcX s = [.one (.own 1 (vR (ints (natsL s)))), bo true] := by simp only [rcX, h, if_true]
theorem rcX_false {s : ByteArray} (h : rcB s = false) : rcX s = [.one (.own 1 []), bo false] := by simp only [rcX, h, Bool.false_eq_true, if_false]
theorem entryOkI_ok (term kind : Int) (data : ByteArray) (hd : data.size ≤ 140737488355328) : PureFn Tryz.prog 130 [.agg (entC term kind data)] [bo (eoB term kind data)] := by
  refine PureFn_of_Go Tryz.func130 rfl (by decide) mo (by decide +kernel) ?_
  have k1 := isTerm_ok term
  have k2 := readConfI_ok data hd
  simp only [Tryz.ntmps130, Tryz.results130, push_cast, seval, entC]
  refine GoL_call rfl rfl k1 rfl rfl ?_
  unfold eoB
  cases c0 : inR term 0 100000 with
  | false => simp only [Tryz.ntmps130, Tryz.results130, push_cast, seval]
  | true =>
    cases c1 : decide (kind = 1) with
    | true => simp only [Tryz.ntmps130, Tryz.results130, push_cast, seval, c1]
    | false =>
      cases c2 : decide (kind = 2) with
      | true =>
        simp only [Tryz.ntmps130, Tryz.results130, push_cast, seval, c1, c2]
        cases c3 : rcB data with
        | true =>
          rw [rcX_true c3] at k2
          refine GoL_call rfl rfl k2 (by simp only [push_cast, seval]) rfl ?_
          simp only [Tryz.ntmps130, Tryz.results130, push_cast, seval]
        | false =>
          rw [rcX_false c3] at k2
          refine GoL_call rfl rfl k2 rfl rfl ?_
          simp only [Tryz.ntmps130, Tryz.results130, push_cast, seval]
      | false =>
        cases c4 : decide (kind = 3) with
        | true => simp only [Tryz.ntmps130, Tryz.results130, push_cast, seval, c1, c2, c4]
        | false => simp only [Tryz.ntmps130, Tryz.results130, push_cast, seval, c1, c2, c4]
def etB (index term kind : Nat) (data : ByteArray) : ByteArray := (((⟨#[69]⟩ ++ varB index) ++ varB term) ++ ⟨[UInt8.ofNat kind].toArray⟩) ++ data
end Go.Proofs.YthbfmegbnnmepaaGreatDoor

/- ReadEntry: both ways come to the same. -/
namespace Go.Proofs.YthbfmegbnnmepaaGreatDoor
open Go.RowKit Go.Rx
set_option linter.unusedSimpArgs false
set_option maxRecDepth 100000

theorem numB_false {s : ByteArray} {a : Nat} {b : Bool} (h : numB s a b = false) : b = false ∧ ∃ n x, rvO s a = some (n, x) ∧ numN s a b = n ∧ numA s a b = x := by
  cases b with
  | true => simp [numB] at h
  | false =>
    cases hr : rvO s a with
    | none => simp [numB, hr] at h
    | some p =>
      obtain ⟨n, x⟩ := p
      exact ⟨rfl, n, x, rfl, by simp [numN, hr], by simp [numA, hr]⟩
theorem takeB_false {s : ByteArray} {a n : Nat} {b : Bool} (h : takeB s a b n = false) : b = false ∧ a + n ≤ s.size ∧ takeA s a b n = a + n ∧ takeT s a b n = s.extract a (a + n) := by
  have ho : takeOk s a b n = true := by simpa [takeB] using h
  refine ⟨?_, ?_, by simp only [takeA, ho, if_true], by simp only [takeT, ho, if_true]⟩
  · simp [takeOk] at ho; exact ho.1
  · simp [takeOk] at ho; exact ho.2
theorem seg_all (s : ByteArray) : seg s 0 s.size = s.data.toList := by
  unfold seg
  have : s.data.toList.length = s.size := by rw [Array.length_toList]; rfl
  rw [List.drop_zero, ← this, List.take_length]
/-! ### where the parts stand -/
def eA1 (s : ByteArray) : Nat := takeA s 0 false 1
def eB1 (s : ByteArray) : Bool := takeB s 0 false 1
def eN1 (s : ByteArray) : Nat := numN s (eA1 s) (eB1 s)
def eA2 (s : ByteArray) : Nat := numA s (eA1 s) (eB1 s)
def eB2 (s : ByteArray) : Bool := numB s (eA1 s) (eB1 s)
def eN2 (s : ByteArray) : Nat := numN s (eA2 s) (eB2 s)
def eA3 (s : ByteArray) : Nat := numA s (eA2 s) (eB2 s)
def eB3 (s : ByteArray) : Bool := numB s (eA2 s) (eB2 s)
def eK (s : ByteArray) : Nat := octN s (eA3 s) (eB3 s)
def eA4 (s : ByteArray) : Nat := takeA s (eA3 s) (eB3 s) 1
def eB4 (s : ByteArray) : Bool := takeB s (eA3 s) (eB3 s) 1
def eD (s : ByteArray) : ByteArray := s.extract (eA4 s) s.size
def eOk (s : ByteArray) : Bool := (!eB4 s && decide (takeT s 0 false 1 = ⟨#[69]⟩)) && (inR (eN1 s) 1 1000000 && eoB (eN2 s) (eK s) (eD s))
def eX (s : ByteArray) : List X := if eOk s then [i64 (eN1 s), .agg (entC (eN2 s) (eK s) (eD s)), bo true] else [i64 0, .agg (entC 0 0 ⟨#[]⟩), bo false]
theorem eX_true {s : ByteArray} (h : eOk s = true) : eX s = [i64 (eN1 s), .agg (entC (eN2 s) (eK s) (eD s)), bo true] := by simp only [eX, h, if_true]
theorem eX_false {s : ByteArray} (h : eOk s = false) : eX s = [i64 0, .agg (entC 0 0 ⟨#[]⟩), bo false] := by simp only [eX, h, Bool.false_eq_true, if_false]
theorem eA1_le (s : ByteArray) : eA1 s ≤ s.size := takeA_le (Nat.zero_le _)
theorem eA2_le (s : ByteArray) : eA2 s ≤ s.size := numA_le (eA1_le s)
theorem eA3_le (s : ByteArray) : eA3 s ≤ s.size := numA_le (eA2_le s)
theorem eA4_le (s : ByteArray) : eA4 s ≤ s.size := takeA_le (eA3_le s)
theorem readEntryI_ok (s : ByteArray) (hs : s.size ≤ 140737488355328) : PureFn Tryz.prog 164 [st s] (eX s) := by
  refine PureFn_of_Go Tryz.func164 rfl (by decide) mo (by decide +kernel) ?_
  have k1 := take_ok s hs 0 (Nat.zero_le _) false 1 (by omega)
  have k2 := number_ok s hs (eA1 s) (eB1 s)
  have k3 := number_ok s hs (eA2 s) (eB2 s)
  have k4 := octet_ok s hs (eA3 s) (eA3_le s) (eB3 s)
  have k5 := inRange_ok (eN1 s) 1 1000000
  have k6 := entryOkI_ok (eN2 s) (eK s) (eD s) (by unfold eD; exact Nat.le_trans (by rw [ByteArray.size_extract]; omega) hs)
  rw [show (decide ((1 : Int) ≤ (eN1 s : Int)) && decide ((eN1 s : Int) ≤ 1000000)) = inR (eN1 s) 1 1000000 from rfl] at k5
  simp only [entC] at k6
  have hle := eA4_le s
  simp only [Tryz.ntmps164, Tryz.results164, push_cast, seval]
  refine GoL_io (0, 320) .box 3 [sc s 0 false] rfl rfl rfl rfl (.inl rfl) rfl k1 rfl rfl ?_
  rw [show takeA s 0 false 1 = eA1 s from rfl, show takeB s 0 false 1 = eB1 s from rfl]
  simp only [Tryz.ntmps164, Tryz.results164, push_cast, seval, sc]
  refine GoL_io (0, 320) .box 3 [sc s (eA1 s) (eB1 s)] rfl rfl rfl rfl (.inl rfl) rfl k2 rfl rfl ?_
  rw [show numA s (eA1 s) (eB1 s) = eA2 s from rfl, show numB s (eA1 s) (eB1 s) = eB2 s from rfl, show numN s (eA1 s) (eB1 s) = eN1 s from rfl]
  simp only [Tryz.ntmps164, Tryz.results164, push_cast, seval, sc]
  refine GoL_io (0, 320) .box 3 [sc s (eA2 s) (eB2 s)] rfl rfl rfl rfl (.inl rfl) rfl k3 rfl rfl ?_
  rw [show numA s (eA2 s) (eB2 s) = eA3 s from rfl, show numB s (eA2 s) (eB2 s) = eB3 s from rfl, show numN s (eA2 s) (eB2 s) = eN2 s from rfl]
  simp only [Tryz.ntmps164, Tryz.results164, push_cast, seval, sc]
  refine GoL_io (0, 320) .box 3 [sc s (eA3 s) (eB3 s)] rfl rfl rfl rfl (.inl rfl) rfl k4 rfl rfl ?_
  rw [show takeA s (eA3 s) (eB3 s) 1 = eA4 s from rfl, show takeB s (eA3 s) (eB3 s) 1 = eB4 s from rfl, show octN s (eA3 s) (eB3 s) = eK s from rfl]
  cases c1 : eB4 s with
  | true =>
    rw [eX_false (by simp only [eOk, c1, Bool.not_true, Bool.false_and])]
    simp only [Tryz.ntmps164, Tryz.results164, push_cast, seval, sc, entC]
  | false =>
    cases c2 : decide (takeT s 0 false 1 = ⟨#[69]⟩) with
    | false =>
      rw [eX_false (by simp only [eOk, c1, c2, Bool.and_false, Bool.false_and])]
      simp only [Tryz.ntmps164, Tryz.results164, push_cast, seval, sc, entC, c2]
    | true =>
      have hc : eOk s = (inR (eN1 s) 1 1000000 && eoB (eN2 s) (eK s) (eD s)) := by simp only [eOk, c1, c2, Bool.not_false, Bool.true_and]
      have hd : s.extract (eA4 s) s.size = eD s := rfl
      simp only [Tryz.ntmps164, Tryz.results164, push_cast, seval, sc, entC, c2, hle, hd, Nat.le_refl]
      refine GoL_call rfl rfl k5 rfl rfl ?_
      cases c3 : inR (eN1 s) 1 1000000 with
      | false =>
        rw [eX_false (by rw [hc, c3]; rfl)]
        simp only [Tryz.ntmps164, Tryz.results164, push_cast, seval, entC]
      | true =>
        simp only [Tryz.ntmps164, Tryz.results164, push_cast, seval, entC]
        refine GoL_call rfl rfl k6 rfl rfl ?_
        cases c4 : eoB (eN2 s) (eK s) (eD s) with
        | false =>
          rw [eX_false (by rw [hc, c3, c4]; rfl)]
          simp only [Tryz.ntmps164, Tryz.results164, push_cast, seval, entC]
        | true =>
          rw [eX_true (by rw [hc, c3, c4]; rfl)]
          simp only [Tryz.ntmps164, Tryz.results164, push_cast, seval, entC]
end Go.Proofs.YthbfmegbnnmepaaGreatDoor

/- Names and commands: what these functions return, by their code. -/
namespace Go.Proofs.YthbfmegbnnmepaaGreatDoor
open Go.RowKit Go.Rx
set_option linter.unusedSimpArgs false
set_option maxRecDepth 100000

/-! ### names -/
def letP (s : ByteArray) (i : Nat) : Prop := (97 ≤ (bu s i).toNat ∧ (bu s i).toNat ≤ 122) ∨ (i ≠ 0 ∧ 48 ≤ (bu s i).toNat ∧ (bu s i).toNat ≤ 57)
def nameP (s : ByteArray) : Prop := ∀ i, i < s.size → letP s i
instance (s : ByteArray) (i : Nat) : Decidable (letP s i) := by unfold letP; infer_instance
instance (s : ByteArray) : Decidable (nameP s) := by unfold nameP; infer_instance
/-! ### commands -/
structure Cmd where
  op : Int
  tok : Int
  seq : Int
  text : ByteArray
  task : ByteArray
  num : Int
  to_ : Int
  yes : Bool
end Go.Proofs.YthbfmegbnnmepaaGreatDoor

/- Commands: right ones. -/

namespace Go.Proofs.YthbfmegbnnmepaaGreatDoor
open Go.RowKit Go.Rx
set_option linter.unusedSimpArgs false
set_option maxRecDepth 100000

end Go.Proofs.YthbfmegbnnmepaaGreatDoor

/- Commands told and read: by their code. -/
namespace Go.Proofs.YthbfmegbnnmepaaGreatDoor
open Go.RowKit Go.Rx
set_option linter.unusedSimpArgs false
set_option maxRecDepth 100000

def shortB (t : ByteArray) : ByteArray := varB t.size ++ t
end Go.Proofs.YthbfmegbnnmepaaGreatDoor

/- ReadCommand: both ways come to the same. -/
namespace Go.Proofs.YthbfmegbnnmepaaGreatDoor
open Go.RowKit Go.Rx
set_option linter.unusedSimpArgs false
set_option maxRecDepth 100000

/-! ### where the parts stand, the reference's way -/
theorem takeT_size (s : ByteArray) (a : Nat) (b : Bool) (n : Nat) : (takeT s a b n).size ≤ s.size := by
  unfold takeT
  split
  · rw [ByteArray.size_extract]; omega
  · exact Nat.zero_le _

/-- A number that was read well. -/
theorem num_good {s : ByteArray} {a : Nat} {b : Bool} (h : numB s a b = false) : b = false ∧ a < numA s a b ∧ numA s a b ≤ s.size ∧ varL (numN s a b) = seg s a (numA s a b - a) := by
  obtain ⟨h1, n, x, hr, e1, e2⟩ := numB_false h
  obtain ⟨_, _, h2, h3⟩ := rvO_bound hr
  rw [e1, e2]
  exact ⟨h1, by omega, h3, rvO_canon hr⟩
theorem short_good {s : ByteArray} {a : Nat} {b : Bool} (h : l5B s a b = false) : b = false ∧ a < l5A s a b ∧ l5A s a b ≤ s.size ∧ (shortB (l5T s a b)).data.toList = seg s a (l5A s a b - a) ∧ (l5T s a b).size = numN s a b := by
  obtain ⟨h1, h2, h3, h4⟩ := takeB_false (show takeB s (numA s a b) (numB s a b) (numN s a b) = false from h)
  obtain ⟨k1, k2, k3, k4⟩ := num_good h1
  have e : l5A s a b = numA s a b + numN s a b := h3
  have et : l5T s a b = s.extract (numA s a b) (numA s a b + numN s a b) := h4
  have hsz : (l5T s a b).size = numN s a b := by rw [et, ByteArray.size_extract]; omega
  refine ⟨k1, by omega, by omega, ?_, hsz⟩
  unfold shortB
  rw [app_list, hsz, varB_list, k4, et, extract_list, e, show numA s a b + numN s a b - a = (numA s a b - a) + numN s a b by omega, seg_append,
    show a + (numA s a b - a) = numA s a b by omega, show numA s a b + numN s a b - numA s a b = numN s a b by omega]
end Go.Proofs.YthbfmegbnnmepaaGreatDoor

/- ReadCommand, the program's way; its law. -/
namespace Go.Proofs.YthbfmegbnnmepaaGreatDoor
open Go.RowKit Go.Rx
set_option linter.unusedSimpArgs false
set_option maxRecDepth 100000

theorem shA_le {s : ByteArray} {a : Nat} {b : Bool} (ha : a ≤ s.size) : shA s a b ≤ s.size := takeA_le (numA_le ha)
/-! ### the two ways are one -/
theorem sh_bad {s : ByteArray} {a : Nat} {b : Bool} (h : shB s a b = true) : shBB s a b = true := by unfold shBB; rw [h]; rfl
theorem shB_true (s : ByteArray) (a : Nat) : shB s a true = true := by unfold shB; split <;> rfl
theorem sh_small {s : ByteArray} {a : Nat} {b : Bool} (h : numN s a b ≤ 20000) : shT s a b = l5T s a b ∧ shA s a b = l5A s a b ∧ shBB s a b = l5B s a b := by
  have e : shB s a b = numB s a b := if_neg (by omega)
  unfold shT shA shBB l5T l5A l5B
  rw [e]; exact ⟨rfl, rfl, rfl⟩
end Go.Proofs.YthbfmegbnnmepaaGreatDoor

/- HappenOk: what its functions return, by their code; its law. -/
namespace Go.Proofs.YthbfmegbnnmepaaGreatDoor
open Go.RowKit Go.Rx
set_option linter.unusedSimpArgs false
set_option maxRecDepth 100000

/-! ### lists of numbers -/
theorem ints_take (l : List Int) : List.take l.length (vR (ints l)) = vR (ints l) := List.take_of_length_le (by rw [vR_length, ints_length]; exact Nat.le_refl _)
/-! ### what happens -/
structure Hap where
  kind : Int
  node : Int
  at_ : Int
  limit : Int
  c : Cmd
  conf : List Int
  cut : Bool
  whole : Int
  left : List Int
end Go.Proofs.YthbfmegbnnmepaaGreatDoor

/- Sealed texts; octets; snapshots' texts: by their code. -/
namespace Go.Proofs.YthbfmegbnnmepaaGreatDoor
open Go.RowKit Go.Rx
set_option linter.unusedSimpArgs false
set_option maxRecDepth 100000

/-! ### sealed texts -/
def seB (s : ByteArray) : ByteArray := s ++ four (sumN s)
theorem seB_size (s : ByteArray) : (seB s).size = s.size + 4 := by unfold seB; rw [ByteArray.size_append, four_size]
def seX (s : ByteArray) : List X := if decide ((20000 : Int) < (s.size : Int)) then [st ⟨#[]⟩, bo false] else [st (seB s), bo true]
theorem sealedI_ok (s : ByteArray) (hs : s.size ≤ 140737488355328) : PureFn Tryz.prog 55 [st s] (seX s) := by
  refine PureFn_of_Go Tryz.func55 rfl (by decide) mo (by decide +kernel) ?_
  have k := sumText_ok s hs
  have hf : s.size + (four (sumN s)).size ≤ 9223372036854775807 := by rw [four_size]; omega
  unfold seX seB
  cases c : decide ((20000 : Int) < (s.size : Int)) with
  | true => simp only [Tryz.ntmps55, Tryz.results55, push_cast, seval, c]
  | false =>
    simp only [Tryz.ntmps55, Tryz.results55, push_cast, seval, c]
    refine GoL_call rfl rfl k rfl rfl ?_
    simp only [Tryz.ntmps55, Tryz.results55, push_cast, seval, hf, Bool.false_eq_true]
def uIn (s : ByteArray) : ByteArray := s.extract 0 (s.size - 4)
def uB (s : ByteArray) : Bool := (!decide ((s.size : Int) - 4 < 0) && !decide ((20000 : Int) < (s.size : Int) - 4)) && decide (four (sumN (uIn s)) = s.extract (s.size - 4) s.size)
def uX (s : ByteArray) : List X := if uB s then [st (uIn s), bo true] else [st ⟨#[]⟩, bo false]
theorem uX_true {s : ByteArray} (h : uB s = true) : uX s = [st (uIn s), bo true] := by simp only [uX, h, if_true]
theorem uX_false {s : ByteArray} (h : uB s = false) : uX s = [st ⟨#[]⟩, bo false] := by simp only [uX, h, Bool.false_eq_true, if_false]
theorem uIn_size (s : ByteArray) : (uIn s).size = s.size - 4 := by unfold uIn; rw [ByteArray.size_extract]; omega
/-- What is unsealed, sealed again. -/
theorem uB_spec {s : ByteArray} (h : uB s = true) : s = seB (uIn s) ∧ (uIn s).size ≤ 20000 ∧ s.size = (uIn s).size + 4 := by
  simp only [uB, Bool.and_eq_true, Bool.not_eq_true', decide_eq_false_iff_not, decide_eq_true_eq] at h
  obtain ⟨⟨h1, h2⟩, h3⟩ := h
  have e := uIn_size s
  refine ⟨?_, by omega, by omega⟩
  unfold seB
  rw [h3]
  apply bytes_ext
  rw [app_list, uIn, extract_list, extract_list, Nat.sub_zero, ← seg_all s]
  conv => lhs; rw [show s.size = (s.size - 4) + 4 by omega]
  rw [seg_append, Nat.zero_add]
  congr 2; omega
theorem unsealedI_ok (s : ByteArray) (hs : s.size ≤ 140737488355328) : PureFn Tryz.prog 117 [st s] (uX s) := by
  refine PureFn_of_Go Tryz.func117 rfl (by decide) mo (by decide +kernel) ?_
  have w0 := w64 (n := (s.size : Int) - 4) (by omega) (by omega)
  cases c1 : decide ((s.size : Int) - 4 < 0) with
  | true =>
    rw [uX_false (by rw [uB, c1]; rfl)]
    simp only [Tryz.ntmps117, Tryz.results117, push_cast, seval, w0, c1]
  | false =>
    cases c2 : decide ((20000 : Int) < (s.size : Int) - 4) with
    | true =>
      rw [uX_false (by rw [uB, c1, c2]; rfl)]
      simp only [Tryz.ntmps117, Tryz.results117, push_cast, seval, w0, c1, c2]
    | false =>
      have h4 : 4 ≤ s.size := by simp only [decide_eq_false_iff_not] at c1; omega
      have k := sumText_ok (uIn s) (by rw [uIn_size]; omega)
      have hb : uB s = decide (four (sumN (uIn s)) = s.extract (s.size - 4) s.size) := by rw [uB, c1, c2]; rfl
      have w1 : IntKind.i64.wrap ((s.size : Int) - 4) = ((s.size - 4 : Nat) : Int) := wN (by omega) (by omega)
      rw [show (s.size : Int) - 4 = ((s.size - 4 : Nat) : Int) by omega] at c1 c2
      unfold uIn at k
      have hu : uIn s = s.extract 0 (s.size - 4) := rfl
      have l1 : s.size - 4 ≤ s.size := by omega
      obtain ⟨n, hn⟩ : ∃ n, n = s.size - 4 := ⟨_, rfl⟩
      rw [← hn] at w1 c1 c2 k hb l1 hu
      cases c3 : decide (four (sumN (uIn s)) = s.extract n s.size) with
      | true =>
        rw [uX_true (hb.trans c3)]
        rw [hu] at c3 ⊢
        simp only [Tryz.ntmps117, Tryz.results117, push_cast, seval, w1, c1, c2, l1, Nat.zero_le]
        refine GoD_call rfl rfl k rfl rfl ?_
        simp only [Tryz.ntmps117, Tryz.results117, push_cast, seval, w1, c1, c2, l1, Nat.zero_le, decide_not, c3]
      | false =>
        rw [uX_false (hb.trans c3)]
        rw [hu] at c3
        simp only [Tryz.ntmps117, Tryz.results117, push_cast, seval, w1, c1, c2, l1, Nat.zero_le]
        refine GoD_call rfl rfl k rfl rfl ?_
        simp only [Tryz.ntmps117, Tryz.results117, push_cast, seval, w1, c1, c2, l1, Nat.zero_le, decide_not, c3]
/-! ### octets -/
def oct8 (n : Int) : UInt8 := UInt8.ofNat (n % 256).toNat
theorem oct8_wrap (n : Int) : IntKind.u8.wrap n = ((oct8 n).toNat : Int) := by
  rw [IntKind.wrap_u8]; unfold oct8; simp; omega
theorem oct8_nat (b : UInt8) : oct8 (b.toNat : Int) = b := by
  apply UInt8.toNat_inj.1
  have := u8_lt b
  unfold oct8; simp; omega
def octB (l : List Int) : ByteArray := ⟨(l.map oct8).toArray⟩
theorem octB_list (l : List Int) : (octB l).data.toList = l.map oct8 := by simp [octB]
theorem octB_size (l : List Int) : (octB l).size = l.length := by simp [octB, ByteArray.size]
theorem octB_nats (s : ByteArray) : octB (natsL s) = s := by
  apply bytes_ext
  rw [octB_list, natsL, List.map_map]
  have : (oct8 ∘ fun b : UInt8 => (b.toNat : Int)) = id := funext fun b => oct8_nat b
  rw [this, List.map_id]
theorem oct_take (l : List Int) {i : Nat} (h : i < l.length) : (l.map oct8).take (i + 1) = (l.map oct8).take i ++ [oct8 (at_ l i)] := by
  rw [List.take_add_one, List.getElem?_map, List.getElem?_eq_getElem h]
  simp [at_, List.getD_eq_getElem?_getD, List.getElem?_eq_getElem h]
theorem octets_ok (l : List Int) (hl : l.length ≤ 1000000) : PureFn Tryz.prog 51 [.one (.sh 1 (vR (ints l)))] [st (octB l)] := by
  refine PureFn_of_Go Tryz.func51 rfl (by decide) mo (by decide +kernel) ?_
  obtain ⟨F, hF⟩ : ∃ F, F = l.map oct8 := ⟨_, rfl⟩
  have hFl : F.length = l.length := by rw [hF, List.length_map]
  have hfin : (⟨F.toArray⟩ : ByteArray) = octB l := by rw [hF]; rfl
  simp only [Tryz.ntmps51, Tryz.results51, push_cast, seval, ints_length]
  refine Go_loop (α := {i : Nat // i ≤ l.length})
    (fun i => ⟨tp 20 [(0, .x (.one (.sh 1 (vR (ints l))))), (3, .x (.one (.rs (0, 1024) [] 1 0 i.1))), (6, .x (.one (.sh 1 (vR (ints l))))), (7, int l.length), (8, int i.1)], 0, [((0, 1024), ⟨.sl, 1, byR (F.take i.1)⟩)], []⟩) (fun i => l.length - i.1) ⟨0, by omega⟩ ?_ ?_
  · refine Weak.trans (Weak.nilRoot (0, 1024) 1 3 rfl rfl rfl) ?_
    simp only [push_cast, seval, List.take_zero, byR_nil]
    exact Weak.same (by simp only [push_cast, seval, Int.ofNat_zero])
  · rintro ⟨i, hi⟩ X hX
    have hll : (byR (F.take i)).length = i := by rw [byR_length, List.length_take, hFl]; omega
    by_cases hlt : (i : Int) < (l.length : Int)
    · have hi' : i < l.length := by omega
      have ws := wsucc hi' (by omega)
      have hg := ints_getD l hi'
      rw [show l.getD i default = at_ l i from rfl] at hg
      have hw := oct8_wrap (at_ l i)
      have a0 : i + 1 ≤ 4294967296 := by omega
      have a1 := max_len a0
      have a2 := room_le (b := 1) a0 (by decide)
      have s1 := byR_snoc (F.take i) (oct8 (at_ l i))
      have e1 : F.take i ++ [oct8 (at_ l i)] = F.take (i + 1) := by rw [hF, oct_take l hi']
      rw [e1] at s1
      obtain ⟨y, hy⟩ : ∃ y, y = oct8 (at_ l i) := ⟨_, rfl⟩
      rw [← hy] at hw s1
      obtain ⟨x, hx⟩ : ∃ x, x = at_ l i := ⟨_, rfl⟩
      rw [← hx] at hg hw
      obtain ⟨i', hi1⟩ : ∃ i', i' = i + 1 := ⟨_, rfl⟩
      rw [← hi1] at ws s1
      simp only [push_cast, seval, ints_length, hlt, hi', vR_getD, hg, hw, hll, a1, a2, s1, ws]
      refine ⟨_, ?_, hX ⟨i', by omega⟩ (by simp only; omega)⟩
      exact Weak.drop (by simp only [push_cast, seval, hi1]) (by simp only [push_cast, seval, hi1]) (by simp only [push_cast, seval, hi1])
    · have hie : i = l.length := by omega
      have hft : F.take i = F := List.take_of_length_le (by rw [hFl, hie]; exact Nat.le_refl _)
      rw [hft] at hll
      have ht := byR_take F
      rw [byR_length] at hll
      rw [hll] at ht
      simp only [hft]
      simp only [Tryz.ntmps51, Tryz.results51, push_cast, seval, hlt, hll, ht, byR_length, hfin]
end Go.Proofs.YthbfmegbnnmepaaGreatDoor

/- Snapshots' texts: by their code. -/
namespace Go.Proofs.YthbfmegbnnmepaaGreatDoor
open Go.RowKit Go.Rx
set_option linter.unusedSimpArgs false
set_option maxRecDepth 100000

theorem shortB_le (t : ByteArray) : (shortB t).size ≤ 2 * t.size + 1 := by
  unfold shortB; rw [ByteArray.size_append]; have := varB_size t.size; omega
theorem shortText_ok (t : ByteArray) (ht : t.size ≤ 4000000000) : PureFn Tryz.prog 48 [st t] [st (shortB t)] := by
  refine PureFn_of_Go Tryz.func48 rfl (by decide) mo (by decide +kernel) ?_
  simp only [Tryz.ntmps48, Tryz.results48, push_cast, seval]
  refine GoL_call rfl rfl (varText_ok t.size (by omega)) rfl rfl ?_
  have h1 := varB_size t.size
  have h2 : (varB t.size).size + t.size ≤ 9223372036854775807 := by omega
  simp only [Tryz.ntmps48, Tryz.results48, push_cast, seval, h2, shortB]
theorem confB_len {l : List Int} (h : confB l = true) : l.length ≤ 4 := by
  simp only [confB, Bool.and_eq_true, decide_eq_true_eq] at h; exact rise_len h.2
/-! ### snapshots -/
structure Snp where
  idx : Int
  term : Int
  conf : List Int
  body : ByteArray
def Snp.enc (f : List (List C) → C) (x : Snp) : List C := [.v (.int .i64 x.idx), .v (.int .i64 x.term), f (vR (ints x.conf)), .v (.string x.body)]
def snB (x : Snp) : Bool := ((inR x.idx 0 1000000 && inR x.term 0 100000) && confB x.conf) && !decide ((20000 : Int) < (x.body.size : Int))
def snI (x : Snp) : ByteArray := ((varB x.idx.toNat ++ varB x.term.toNat) ++ shortB (octB x.conf)) ++ shortB x.body
def snF (x : Snp) : Bool := snB x && !decide ((20000 : Int) < ((snI x).size : Int) + 4)
def snX (x : Snp) : List X := if snF x then [st (seB (snI x)), bo true] else [st ⟨#[]⟩, bo false]
theorem snX_true {x : Snp} (h : snF x = true) : snX x = [st (seB (snI x)), bo true] := by simp only [snX, h, if_true]
theorem snX_false {x : Snp} (h : snF x = false) : snX x = [st ⟨#[]⟩, bo false] := by simp only [snX, h, Bool.false_eq_true, if_false]
theorem inR_nat {n b : Int} (h : inR n 0 b = true) : ∃ m : Nat, n = (m : Int) ∧ (m : Int) ≤ b := by
  obtain ⟨h1, h2⟩ := inR_spec.1 h
  obtain ⟨m, rfl⟩ := Int.eq_ofNat_of_zero_le h1
  exact ⟨m, rfl, h2⟩
theorem snapTextI_ok (x : Snp) (hc : x.conf.length ≤ 140737488355328) : PureFn Tryz.prog 16 [.agg (x.enc (.sh 1))] (snX x) := by
  refine PureFn_of_Go Tryz.func16 rfl (by decide) mo (by decide +kernel) ?_
  obtain ⟨idx, term, conf, body⟩ := x
  have k1 := isIndex_ok idx
  have k2 := isTerm_ok term
  have k3 := confOkI_ok conf hc
  simp only [Tryz.ntmps16, Tryz.results16, push_cast, seval, Snp.enc]
  refine GoL_call rfl rfl k1 rfl rfl ?_
  cases c1 : inR idx 0 1000000 with
  | false => rw [snX_false (by rw [snF, snB, c1]; rfl)]; simp only [Tryz.ntmps16, Tryz.results16, push_cast, seval]
  | true =>
  simp only [Tryz.ntmps16, Tryz.results16, push_cast, seval]
  refine GoL_call rfl rfl k2 rfl rfl ?_
  cases c2 : inR term 0 100000 with
  | false => rw [snX_false (by rw [snF, snB, c1, c2]; rfl)]; simp only [Tryz.ntmps16, Tryz.results16, push_cast, seval]
  | true =>
  simp only [Tryz.ntmps16, Tryz.results16, push_cast, seval]
  refine GoL_call rfl rfl k3 rfl rfl ?_
  cases c3 : confB conf with
  | false => rw [snX_false (by rw [snF, snB, c1, c2, c3]; rfl)]; simp only [Tryz.ntmps16, Tryz.results16, push_cast, seval]
  | true =>
  cases c4 : decide ((20000 : Int) < (body.size : Int)) with
  | true => rw [snX_false (by rw [snF, snB, c1, c2, c3, c4]; rfl)]; simp only [Tryz.ntmps16, Tryz.results16, push_cast, seval, c4]
  | false =>
  obtain ⟨i, rfl, hi⟩ := inR_nat c1
  obtain ⟨t, rfl, ht⟩ := inR_nat c2
  have hl4 := confB_len c3
  have hb : body.size ≤ 20000 := by simp only [decide_eq_false_iff_not] at c4; omega
  have ho := octB_size conf
  have s1 := varB_size i
  have s2 := varB_size t
  have s3 := shortB_le (octB conf)
  have s4 := shortB_le body
  have r1 : (varB i).size + (varB t).size ≤ 9223372036854775807 := by omega
  have r2 : (varB i ++ varB t).size + (shortB (octB conf)).size ≤ 9223372036854775807 := by simp only [ByteArray.size_append]; omega
  have r3 : ((varB i ++ varB t) ++ shortB (octB conf)).size + (shortB body).size ≤ 9223372036854775807 := by simp only [ByteArray.size_append]; omega
  have kS := sealedI_ok (((varB i ++ varB t) ++ shortB (octB conf)) ++ shortB body) (by simp only [ByteArray.size_append]; omega)
  have hF : snF ⟨(i : Int), (t : Int), conf, body⟩ = !decide ((20000 : Int) < ((((varB i ++ varB t) ++ shortB (octB conf)) ++ shortB body).size : Int) + 4) := by
    rw [snF, snB, c1, c2, c3, c4]; rfl
  have hI : snI ⟨(i : Int), (t : Int), conf, body⟩ = ((varB i ++ varB t) ++ shortB (octB conf)) ++ shortB body := rfl
  simp only [Tryz.ntmps16, Tryz.results16, push_cast, seval, c4]
  refine GoD_call rfl rfl (varText_ok i (by omega)) rfl rfl ?_
  simp only [Tryz.ntmps16, Tryz.results16, push_cast, seval]
  refine GoD_call rfl rfl (varText_ok t (by omega)) rfl rfl ?_
  simp only [Tryz.ntmps16, Tryz.results16, push_cast, seval, r1]
  refine GoD_call rfl rfl (octets_ok conf (by omega)) rfl rfl ?_
  simp only [Tryz.ntmps16, Tryz.results16, push_cast, seval]
  refine GoD_call rfl rfl (shortText_ok (octB conf) (by omega)) rfl rfl ?_
  simp only [Tryz.ntmps16, Tryz.results16, push_cast, seval, r2]
  refine GoD_call rfl rfl (shortText_ok body (by omega)) rfl rfl ?_
  simp only [Tryz.ntmps16, Tryz.results16, push_cast, seval, r3]
  obtain ⟨T, hT⟩ : ∃ T, T = ((varB i ++ varB t) ++ shortB (octB conf)) ++ shortB body := ⟨_, rfl⟩
  rw [← hT] at kS hF hI ⊢
  have hsz := seB_size T
  unfold seX at kS
  cases d : decide ((20000 : Int) < (T.size : Int)) with
  | true =>
    have d2 : decide ((20000 : Int) < (T.size : Int) + 4) = true := by simp only [decide_eq_true_eq] at d ⊢; omega
    rw [snX_false (by rw [hF, d2]; rfl)]
    simp only [d, if_true] at kS
    refine GoD_call rfl rfl kS rfl rfl ?_
    simp only [Tryz.ntmps16, Tryz.results16, push_cast, seval]
  | false =>
    simp only [d, Bool.false_eq_true, if_false] at kS
    refine GoD_call rfl rfl kS rfl rfl ?_
    cases d2 : decide ((20000 : Int) < (T.size : Int) + 4) with
    | true =>
      have d3 : decide ((20000 : Int) < ((seB T).size : Int)) = true := by simp only [decide_eq_true_eq] at d2 ⊢; omega
      rw [snX_false (by rw [hF, d2]; rfl)]
      simp only [Tryz.ntmps16, Tryz.results16, push_cast, seval, d3]
    | false =>
      have d3 : decide ((20000 : Int) < ((seB T).size : Int)) = false := by simp only [decide_eq_false_iff_not] at d2 ⊢; omega
      rw [snX_true (by rw [hF, d2]; rfl), hI]
      simp only [Tryz.ntmps16, Tryz.results16, push_cast, seval, d3]
end Go.Proofs.YthbfmegbnnmepaaGreatDoor

/- ReadSnap: by its code; both ways come to the same. -/
namespace Go.Proofs.YthbfmegbnnmepaaGreatDoor
open Go.RowKit Go.Rx
set_option linter.unusedSimpArgs false
set_option maxRecDepth 100000

/-! ### where the parts stand -/
def zI (t : ByteArray) (b : Bool) : Nat := numN t 0 b
def zA1 (t : ByteArray) (b : Bool) : Nat := numA t 0 b
def zB1 (t : ByteArray) (b : Bool) : Bool := numB t 0 b
def zT (t : ByteArray) (b : Bool) : Nat := numN t (zA1 t b) (zB1 t b)
def zA2 (t : ByteArray) (b : Bool) : Nat := numA t (zA1 t b) (zB1 t b)
def zB2 (t : ByteArray) (b : Bool) : Bool := numB t (zA1 t b) (zB1 t b)
def zC (t : ByteArray) (b : Bool) : ByteArray := l5T t (zA2 t b) (zB2 t b)
def zA3 (t : ByteArray) (b : Bool) : Nat := l5A t (zA2 t b) (zB2 t b)
def zB3 (t : ByteArray) (b : Bool) : Bool := l5B t (zA2 t b) (zB2 t b)
def zD (t : ByteArray) (b : Bool) : ByteArray := l5T t (zA3 t b) (zB3 t b)
def zA4 (t : ByteArray) (b : Bool) : Nat := l5A t (zA3 t b) (zB3 t b)
def zB4 (t : ByteArray) (b : Bool) : Bool := l5B t (zA3 t b) (zB3 t b)
def yC (t : ByteArray) (b : Bool) : ByteArray := shT t (zA2 t b) (zB2 t b)
def yA3 (t : ByteArray) (b : Bool) : Nat := shA t (zA2 t b) (zB2 t b)
def yB3 (t : ByteArray) (b : Bool) : Bool := shBB t (zA2 t b) (zB2 t b)
def yD (t : ByteArray) (b : Bool) : ByteArray := shT t (yA3 t b) (yB3 t b)
def yA4 (t : ByteArray) (b : Bool) : Nat := shA t (yA3 t b) (yB3 t b)
def yB4 (t : ByteArray) (b : Bool) : Bool := shBB t (yA3 t b) (yB3 t b)
theorem zA1_le (t : ByteArray) (b : Bool) : zA1 t b ≤ t.size := numA_le (Nat.zero_le _)
theorem zA2_le (t : ByteArray) (b : Bool) : zA2 t b ≤ t.size := numA_le (zA1_le t b)
theorem yA3_le (t : ByteArray) (b : Bool) : yA3 t b ≤ t.size := shA_le (zA2_le t b)
def zConf (c : ByteArray) : List Int := if rcB c then natsL c else []
def zX (t : ByteArray) (b : Bool) : Snp := ⟨zI t b, zT t b, zConf (zC t b), zD t b⟩
def yX (t : ByteArray) (b : Bool) : Snp := ⟨zI t b, zT t b, natsL (yC t b), yD t b⟩
def uT (s : ByteArray) : ByteArray := if uB s then uIn s else ⟨#[]⟩
def sOk (s : ByteArray) : Bool := (!zB4 (uT s) (!uB s) && snF (zX (uT s) (!uB s))) && decide (seB (snI (zX (uT s) (!uB s))) = s)
def iOk (s : ByteArray) : Bool := (uB s && !decide ((20000 : Int) < (s.size : Int))) && (((!yB4 (uIn s) false && decide ((yA4 (uIn s) false : Int) = ((uIn s).size : Int))) && !decide ((4 : Int) < ((yC (uIn s) false).size : Int))) && snF (yX (uIn s) false))
def snZ : List X := [.agg [.v (.int .i64 0), .v (.int .i64 0), .v (.slice none 0 0), .v (.string ⟨#[]⟩)], bo false]
def sR (s : ByteArray) : List X := if sOk s then [.agg ((zX (uT s) (!uB s)).enc (.own 1)), bo true] else snZ
def iR (s : ByteArray) : List X := if iOk s then [.agg ((yX (uIn s) false).enc (.own 1)), bo true] else snZ

/-! ### both ways are one -/
theorem zB4_up {t : ByteArray} {b : Bool} (h : zB4 t b = false) : b = false ∧ zB3 t b = false ∧ zB2 t b = false ∧ zB1 t b = false := by
  have h3 := (short_good (show l5B t (zA3 t b) (zB3 t b) = false from h)).1
  have h2 := (short_good (show l5B t (zA2 t b) (zB2 t b) = false from h3)).1
  have h1 := (num_good (show numB t (zA1 t b) (zB1 t b) = false from h2)).1
  exact ⟨(num_good (show numB t 0 b = false from h1)).1, h3, h2, h1⟩
theorem z_text {t : ByteArray} {b : Bool} (h : zB4 t b = false) (hc : rcB (zC t b) = true) : (snI (zX t b)).data.toList = seg t 0 (zA4 t b) ∧ zA4 t b ≤ t.size := by
  obtain ⟨h3, p4, q4, v4, _⟩ := short_good (show l5B t (zA3 t b) (zB3 t b) = false from h)
  obtain ⟨h2, p3, q3, v3, _⟩ := short_good (show l5B t (zA2 t b) (zB2 t b) = false from h3)
  obtain ⟨h1, p2, q2, v2⟩ := num_good (show numB t (zA1 t b) (zB1 t b) = false from h2)
  obtain ⟨_, p1, q1, v1⟩ := num_good (show numB t 0 b = false from h1)
  change zA3 t b < zA4 t b at p4
  change zA2 t b < zA3 t b at p3
  change zA1 t b < zA2 t b at p2
  change 0 < zA1 t b at p1
  change varL (zI t b) = seg t 0 (zA1 t b - 0) at v1
  change varL (zT t b) = seg t (zA1 t b) (zA2 t b - zA1 t b) at v2
  change (shortB (zC t b)).data.toList = seg t (zA2 t b) (zA3 t b - zA2 t b) at v3
  change (shortB (zD t b)).data.toList = seg t (zA3 t b) (zA4 t b - zA3 t b) at v4
  refine ⟨?_, q4⟩
  unfold snI zX zConf
  simp only [hc, if_true, octB_nats, Int.toNat_natCast]
  rw [app_list, app_list, app_list, varB_list, varB_list, v1, v2, v3, v4, Nat.sub_zero]
  have hs : zA4 t b = ((zA1 t b + (zA2 t b - zA1 t b)) + (zA3 t b - zA2 t b)) + (zA4 t b - zA3 t b) := by omega
  conv => rhs; rw [hs]
  rw [seg_append, seg_append, seg_append, show 0 + zA1 t b = zA1 t b by omega, show 0 + (zA1 t b + (zA2 t b - zA1 t b)) = zA2 t b by omega,
    show 0 + (zA1 t b + (zA2 t b - zA1 t b) + (zA3 t b - zA2 t b)) = zA3 t b by omega]
theorem sOk_conf {x : Snp} (h : snF x = true) : confB x.conf = true ∧ x.body.size ≤ 20000 ∧ (snI x).size + 4 ≤ 20000 := by
  simp only [snF, snB, Bool.and_eq_true, Bool.not_eq_true', decide_eq_false_iff_not] at h
  exact ⟨h.1.1.2, by have := h.1.2; omega, by have := h.2; omega⟩
theorem zConf_false {c : ByteArray} (h : rcB c = false) : confB (zConf c) = false := by
  unfold zConf; rw [h]; rfl
theorem snF_conf {x : Snp} (h : confB x.conf = false) : snF x = false := by
  rw [snF, snB, h, Bool.and_false, Bool.false_and, Bool.false_and]
theorem iR_eq (s : ByteArray) : iR s = sR s := by
  have off : iOk s = false → sOk s = false → iR s = sR s := fun h1 h2 => by unfold iR sR; rw [h1, h2]; rfl
  cases hu : uB s with
  | false =>
    refine off (by rw [iOk, hu]; rfl) ?_
    have : zB4 (uT s) (!uB s) = true := by
      cases h : zB4 (uT s) (!uB s) with
      | true => rfl
      | false => have := (zB4_up h).1; rw [hu] at this; cases this
    rw [sOk, this]; rfl
  | true =>
  obtain ⟨hs, h20, hsz⟩ := uB_spec hu
  have ht : uT s = uIn s := by unfold uT; rw [hu]; rfl
  have hsO : sOk s = ((!zB4 (uIn s) false && snF (zX (uIn s) false)) && decide (seB (snI (zX (uIn s) false)) = s)) := by unfold sOk; rw [ht, hu]; rfl
  have hsR : sR s = if sOk s then [.agg ((zX (uIn s) false).enc (.own 1)), bo true] else snZ := by unfold sR; rw [ht, hu]; rfl
  have hiO : iOk s = (!decide ((20000 : Int) < (s.size : Int)) && (((!yB4 (uIn s) false && decide ((yA4 (uIn s) false : Int) = ((uIn s).size : Int))) && !decide ((4 : Int) < ((yC (uIn s) false).size : Int))) && snF (yX (uIn s) false))) := by unfold iOk; rw [hu]; rfl
  generalize uIn s = t at *
  by_cases hbig : (20000 : Int) < (s.size : Int)
  · refine off (by rw [hiO, decide_eq_true hbig]; rfl) ?_
    rw [hsO]
    cases hf : snF (zX t false) with
    | false => simp
    | true =>
      have h5 := (sOk_conf hf).2.2
      have : decide (seB (snI (zX t false)) = s) = false := decide_eq_false fun h => by
        have h6 := congrArg ByteArray.size h
        rw [seB_size] at h6; omega
      rw [this]; simp
  have hbig' : decide ((20000 : Int) < (s.size : Int)) = false := decide_eq_false hbig
  by_cases n3 : numN t (zA2 t false) (zB2 t false) ≤ 20000
  · obtain ⟨e1, e2, e3⟩ := sh_small n3
    have f1 : yC t false = zC t false := e1
    have f2 : yA3 t false = zA3 t false := e2
    have f3 : yB3 t false = zB3 t false := e3
    by_cases n4 : numN t (zA3 t false) (zB3 t false) ≤ 20000
    · obtain ⟨e4, e5, e6⟩ := sh_small n4
      have f4 : yD t false = zD t false := by rw [yD, f2, f3]; exact e4
      have f5 : yA4 t false = zA4 t false := by rw [yA4, f2, f3]; exact e5
      have f6 : yB4 t false = zB4 t false := by rw [yB4, f2, f3]; exact e6
      cases h4 : zB4 t false with
      | true => exact off (by rw [hiO, f6, h4]; simp) (by rw [hsO, h4]; rfl)
      | false =>
        cases hc : rcB (zC t false) with
        | false =>
          refine off ?_ (by rw [hsO, snF_conf (x := zX t false) (zConf_false hc)]; simp)
          rw [hiO, f1]
          by_cases h5 : (4 : Int) < ((zC t false).size : Int)
          · rw [decide_eq_true h5]; simp
          · have h6 : confB (natsL (zC t false)) = false := by
              simp only [rcB] at hc
              rw [decide_eq_true (show ((zC t false).size : Int) ≤ 4 by omega), Bool.true_and] at hc
              exact hc
            have h7 : snF (yX t false) = false := snF_conf (x := yX t false) (by show confB (natsL (yC t false)) = false; rw [f1]; exact h6)
            rw [h7]; simp
        | true =>
          have hX : yX t false = zX t false := by
            unfold yX zX zConf; rw [f1, f4, hc]; rfl
          have h5 : ((zC t false).size : Int) ≤ 4 := by
            simp only [rcB, Bool.and_eq_true, decide_eq_true_eq] at hc; exact hc.1
          obtain ⟨hl, hle⟩ := z_text h4 hc
          have hsi : (snI (zX t false)).size = zA4 t false := by
            rw [show (snI (zX t false)).size = (snI (zX t false)).data.toList.length from by rw [Array.length_toList]; rfl, hl, seg_len (by omega)]
          have hiff : decide ((yA4 t false : Int) = (t.size : Int)) = decide (seB (snI (zX t false)) = s) := by
            rw [f5]
            by_cases h6 : zA4 t false = t.size
            · have h7 : snI (zX t false) = t := bytes_ext (by rw [hl, h6, seg_all])
              rw [decide_eq_true (by omega), decide_eq_true (by rw [h7, ← hs])]
            · rw [decide_eq_false (by omega), decide_eq_false fun h => h6 (by
                have h7 := congrArg ByteArray.size h
                rw [seB_size] at h7; omega)]
          have hok : iOk s = sOk s := by
            rw [hiO, hsO, hbig', f6, h4, f1, decide_eq_false (show ¬ (4 : Int) < ((zC t false).size : Int) by omega), hX, hiff]
            cases snF (zX t false) <;> cases decide (seB (snI (zX t false)) = s) <;> rfl
          rw [hsR]
          unfold iR
          rw [hok]
          cases hk : sOk s with
          | false => rfl
          | true =>
            have : uIn s = t := by
              have h9 := hs
              exact (by
                have h10 := uB_spec hu
                have h11 : seB (uIn s) = seB t := by rw [← h10.1, ← hs]
                have h12 : (uIn s).size = t.size := by have := congrArg ByteArray.size h11; rw [seB_size, seB_size] at this; omega
                have h13 : (seB (uIn s)).data.toList = (seB t).data.toList := by rw [h11]
                unfold seB at h13
                rw [app_list, app_list] at h13
                exact bytes_ext (List.append_inj_left h13 (by rw [Array.length_toList, Array.length_toList]; exact h12)))
            rw [this, hX]
    · have g4 : yB4 t false = true := by rw [yB4, f2, f3]; exact sh_bad (if_pos (by omega))
      refine off (by rw [hiO, g4]; simp) ?_
      rw [hsO]
      cases h4 : zB4 t false with
      | true => rfl
      | false =>
        have := (short_good (show l5B t (zA3 t false) (zB3 t false) = false from h4)).2.2.2.2
        cases hf : snF (zX t false) with
        | false => rfl
        | true =>
          have h5 := (sOk_conf hf).2.1
          change (zD t false).size ≤ 20000 at h5
          change (zD t false).size = _ at this
          omega
  · have g3 : yB3 t false = true := sh_bad (if_pos (by omega))
    have g4 : yB4 t false = true := by rw [yB4, g3]; exact sh_bad (shB_true _ _)
    refine off (by rw [hiO, g4]; simp) ?_
    rw [hsO]
    cases h4 : zB4 t false with
    | true => rfl
    | false =>
      have := (short_good (show l5B t (zA2 t false) (zB2 t false) = false from (zB4_up h4).2.1)).2.2.2.2
      change (zC t false).size = _ at this
      have hc : rcB (zC t false) = false := by rw [rcB, decide_eq_false (by omega)]; rfl
      rw [snF_conf (x := zX t false) (zConf_false hc)]; rfl
end Go.Proofs.YthbfmegbnnmepaaGreatDoor

/- ReadSnap: the code; its law. -/
namespace Go.Proofs.YthbfmegbnnmepaaGreatDoor
open Go.RowKit Go.Rx
set_option linter.unusedSimpArgs false
set_option maxRecDepth 100000

theorem sR_true {s : ByteArray} (h : sOk s = true) : sR s = [.agg ((zX (uT s) (!uB s)).enc (.own 1)), bo true] := by simp only [sR, h, if_true]
theorem sR_false {s : ByteArray} (h : sOk s = false) : sR s = snZ := by simp only [sR, h, Bool.false_eq_true, if_false]
theorem iR_true {s : ByteArray} (h : iOk s = true) : iR s = [.agg ((yX (uIn s) false).enc (.own 1)), bo true] := by simp only [iR, h, if_true]
theorem iR_false {s : ByteArray} (h : iOk s = false) : iR s = snZ := by simp only [iR, h, Bool.false_eq_true, if_false]
set_option maxHeartbeats 4000000 in
theorem readSnapI_ok (s : ByteArray) (hs : s.size ≤ 140737488355328) : PureFn Tryz.prog 65 [st s] (sR s) := by
  rw [← iR_eq]
  refine PureFn_of_Go Tryz.func65 rfl (by decide) mo (by decide +kernel) ?_
  have ku := unsealedI_ok s hs
  simp only [Tryz.ntmps65, Tryz.results65, push_cast, seval]
  cases c0 : uB s with
  | false =>
    rw [uX_false c0] at ku
    rw [iR_false (by rw [iOk, c0]; rfl)]
    refine GoL_call rfl rfl ku rfl rfl ?_
    simp only [Tryz.ntmps65, Tryz.results65, push_cast, seval, snZ]
  | true =>
  rw [uX_true c0] at ku
  refine GoL_call rfl rfl ku rfl rfl ?_
  cases c1 : decide ((20000 : Int) < (s.size : Int)) with
  | true =>
    rw [iR_false (by rw [iOk, c0, c1]; rfl)]
    simp only [Tryz.ntmps65, Tryz.results65, push_cast, seval, c1, snZ]
  | false =>
  have hiO : iOk s = (((!yB4 (uIn s) false && decide ((yA4 (uIn s) false : Int) = ((uIn s).size : Int))) && !decide ((4 : Int) < ((yC (uIn s) false).size : Int))) && snF (yX (uIn s) false)) := by
    rw [iOk, c0, c1]; rfl
  have hiT : ∀ _ : iOk s = true, iR s = [.agg ((yX (uIn s) false).enc (.own 1)), bo true] := fun h => iR_true h
  have htl : (uIn s).size ≤ 140737488355328 := by rw [uIn_size]; omega
  obtain ⟨t, ht⟩ : ∃ t, t = uIn s := ⟨_, rfl⟩
  rw [← ht] at htl hiO hiT
  have k1 := number_ok t htl 0 false
  have k2 := number_ok t htl (zA1 t false) (zB1 t false)
  have k3 := short_ok t htl (zA2 t false) (zA2_le t false) (zB2 t false)
  have k4 := short_ok t htl (yA3 t false) (yA3_le t false) (yB3 t false)
  have k5 := done_ok t (yA4 t false) (yB4 t false)
  have hcl : (yC t false).size ≤ 140737488355328 := Nat.le_trans (takeT_size _ _ _ _) htl
  have k7 := snapTextI_ok (yX t false) (by show (natsL (yC t false)).length ≤ _; rw [natsL_length]; exact hcl)
  simp only [Tryz.ntmps65, Tryz.results65, push_cast, seval, c1, ← ht]
  refine GoL_io (0, 384) .box 3 [sc t 0 false] rfl rfl rfl rfl (.inl rfl) rfl k1 rfl rfl ?_
  rw [show numA t 0 false = zA1 t false from rfl, show numB t 0 false = zB1 t false from rfl, show numN t 0 false = zI t false from rfl]
  simp only [Tryz.ntmps65, Tryz.results65, push_cast, seval, sc]
  refine GoL_io (0, 384) .box 3 [sc t (zA1 t false) (zB1 t false)] rfl rfl rfl rfl (.inl rfl) rfl k2 rfl rfl ?_
  rw [show numA t (zA1 t false) (zB1 t false) = zA2 t false from rfl, show numB t (zA1 t false) (zB1 t false) = zB2 t false from rfl, show numN t (zA1 t false) (zB1 t false) = zT t false from rfl]
  simp only [Tryz.ntmps65, Tryz.results65, push_cast, seval, sc]
  refine GoL_io (0, 384) .box 3 [sc t (zA2 t false) (zB2 t false)] rfl rfl rfl rfl (.inl rfl) rfl k3 rfl rfl ?_
  rw [show shA t (zA2 t false) (zB2 t false) = yA3 t false from rfl, show shBB t (zA2 t false) (zB2 t false) = yB3 t false from rfl, show shT t (zA2 t false) (zB2 t false) = yC t false from rfl]
  simp only [Tryz.ntmps65, Tryz.results65, push_cast, seval, sc]
  refine GoL_io (0, 384) .box 3 [sc t (yA3 t false) (yB3 t false)] rfl rfl rfl rfl (.inl rfl) rfl k4 rfl rfl ?_
  rw [show shA t (yA3 t false) (yB3 t false) = yA4 t false from rfl, show shBB t (yA3 t false) (yB3 t false) = yB4 t false from rfl, show shT t (yA3 t false) (yB3 t false) = yD t false from rfl]
  simp only [Tryz.ntmps65, Tryz.results65, push_cast, seval, sc]
  refine GoL_io (0, 384) .box 3 [sc t (yA4 t false) (yB4 t false)] rfl rfl rfl rfl (.inl rfl) rfl k5 rfl rfl ?_
  cases c2 : (!yB4 t false && decide ((yA4 t false : Int) = (t.size : Int))) with
  | false =>
    rw [iR_false (by rw [hiO, c2]; rfl)]
    simp only [Tryz.ntmps65, Tryz.results65, push_cast, seval, sc, snZ]
  | true =>
  cases c3 : decide ((4 : Int) < ((yC t false).size : Int)) with
  | true =>
    rw [iR_false (by rw [hiO, c2, c3]; rfl)]
    simp only [Tryz.ntmps65, Tryz.results65, push_cast, seval, sc, c3, snZ]
  | false =>
  have k6 := numbers_ok (yC t false) (by simp only [decide_eq_false_iff_not] at c3; omega)
  simp only [Tryz.ntmps65, Tryz.results65, push_cast, seval, sc, c3]
  refine GoL_call rfl rfl k6 (by simp only [push_cast, seval]) rfl ?_
  simp only [Tryz.ntmps65, Tryz.results65, push_cast, seval, ints_length]
  cases c4 : snF (yX t false) with
  | false =>
    rw [snX_false c4] at k7
    rw [iR_false (by rw [hiO, c2, c3, c4]; rfl)]
    simp only [Snp.enc, yX] at k7
    refine GoL_call rfl (by simp only [push_cast, seval, ints_take]) k7 rfl rfl ?_
    simp only [Tryz.ntmps65, Tryz.results65, push_cast, seval, snZ]
  | true =>
    rw [snX_true c4] at k7
    rw [hiT (by rw [hiO, c2, c3, c4]; rfl)]
    obtain ⟨S, hS⟩ : ∃ S, S = seB (snI (yX t false)) := ⟨_, rfl⟩
    rw [← hS] at k7
    simp only [Snp.enc, yX] at k7
    refine GoL_call rfl (by simp only [push_cast, seval, ints_take]) k7 rfl rfl ?_
    simp only [Tryz.ntmps65, Tryz.results65, push_cast, seval, Snp.enc, yX, ints_length]

/-! ### the law -/
end Go.Proofs.YthbfmegbnnmepaaGreatDoor

/- Entries, frames: what ReadJournal rests on. -/
namespace Go.Proofs.YthbfmegbnnmepaaGreatDoor
open Go.RowKit Go.Rx
set_option linter.unusedSimpArgs false
set_option maxRecDepth 100000

/-! ### sums -/
/-! ### numbers in bytes -/
/-! ### frames -/
/-! ### marks -/
/-! ### numbers that rise -/
instance (l : List Int) (a b : Int) : Decidable (rise l a b) := by unfold rise; infer_instance
/-! ### a text as numbers -/
/-! ### entries -/
/-! ### where the parts stand -/
/-! ### marks -/
/-! ### lists of entries -/
structure Ent where
  term : Int
  kind : Int
  data : ByteArray
  deriving Inhabited
def entV (e : Ent) : List Value := [.int .i64 e.term, .int .i64 e.kind, .string e.data]
def ents (l : List Ent) : List (List Value) := l.map entV
theorem ents_length (l : List Ent) : (ents l).length = l.length := by simp [ents]
theorem ents_getD (l : List Ent) {i : Nat} (h : i < l.length) : (ents l).getD i [] = entV (l.getD i default) := by
  simp [ents, List.getD_eq_getElem?_getD, List.getElem?_map, List.getElem?_eq_getElem h]
theorem ents_take (l : List Ent) : List.take l.length (vR (ents l)) = vR (ents l) := List.take_of_length_le (by rw [vR_length, ents_length]; exact Nat.le_refl _)
end Go.Proofs.YthbfmegbnnmepaaGreatDoor

/- Marks and two numbers. -/
namespace Go.Proofs.YthbfmegbnnmepaaGreatDoor
open Go.RowKit Go.Rx
set_option linter.unusedSimpArgs false
set_option maxRecDepth 100000

/-! ### a prefix cut off -/
def preB (s c : ByteArray) : Bool := decide ((c.size : Int) ≤ (s.size : Int)) && decide (s.extract 0 c.size = c)
theorem hasPrefix_ok (s c : ByteArray) : PureFn Tryz.prog 202 [st s, st c] [bo (preB s c)] := by
  refine PureFn_of_Go Tryz.func202 rfl (by decide) mo (by decide +kernel) ?_
  unfold preB
  by_cases h : (c.size : Int) ≤ (s.size : Int)
  · have h2 : c.size ≤ s.size := by omega
    simp only [Tryz.ntmps202, Tryz.results202, push_cast, seval, h, h2, Nat.zero_le]
  · simp only [Tryz.ntmps202, Tryz.results202, push_cast, seval, h]
theorem cutPrefixL_ok (s c : ByteArray) : PureFn Tryz.prog 157 [st s, st c] [st (if preB s c then s.extract c.size s.size else s), bo (preB s c)] := by
  refine PureFn_of_Go Tryz.func157 rfl (by decide) mo (by decide +kernel) ?_
  simp only [Tryz.ntmps157, Tryz.results157, push_cast, seval]
  refine GoL_call rfl rfl (hasPrefix_ok s c) rfl rfl ?_
  cases h : preB s c with
  | true =>
    have h2 : c.size ≤ s.size := by simp [preB] at h; exact h.1
    simp only [Tryz.ntmps157, Tryz.results157, push_cast, seval, h2, Nat.le_refl]
  | false => simp only [Tryz.ntmps157, Tryz.results157, push_cast, seval, Bool.false_eq_true]
theorem cutPrefix_ok (s c : ByteArray) : PureFn Tryz.prog 115 [st s, st c] [st (if preB s c then s.extract c.size s.size else s), bo (preB s c)] := by
  refine PureFn_of_Go Tryz.func115 rfl (by decide) mo (by decide +kernel) ?_
  simp only [Tryz.ntmps115, Tryz.results115, push_cast, seval]
  refine GoL_call rfl rfl (cutPrefixL_ok s c) rfl rfl ?_
  simp only [Tryz.ntmps115, Tryz.results115, push_cast, seval]

/-! ### two numbers behind a mark -/
def pairT (s c : ByteArray) : ByteArray := c ++ varB (eN1 s) ++ varB (eN2 s)
def pairB (s c : ByteArray) : Bool := !eB3 s && decide (pairT s c = s)
/-! ### the same text without its first octet -/
theorem bu_tail (s : ByteArray) (i : Nat) : bu (s.extract 1 s.size) i = bu s (i + 1) := by
  unfold bu
  rw [extract_list, seg, List.getD_eq_getElem?_getD, List.getD_eq_getElem?_getD]
  have hl : s.data.toList.length = s.size := by rw [Array.length_toList]; rfl
  by_cases h : i < s.size - 1
  · rw [List.getElem?_take_of_lt h, List.getElem?_drop, Nat.add_comm]
  · rw [List.getElem?_eq_none (by rw [List.length_take, List.length_drop, hl]; omega), List.getElem?_eq_none (by rw [hl]; omega)]
theorem tail_size {s : ByteArray} (h : 1 ≤ s.size) : (s.extract 1 s.size).size + 1 = s.size := by rw [ByteArray.size_extract]; omega
theorem rvL_tail {s : ByteArray} (h : 1 ≤ s.size) (a : Nat) : ∀ (k i n u : Nat), rvL s (a + 1) k i n u = (rvL (s.extract 1 s.size) a k i n u).map fun p => (p.1, p.2 + 1)
  | 0, _, _, _ => rfl
  | k + 1, i, n, u => by
    have hz := tail_size h
    have hb : bu (s.extract 1 s.size) (a + i) = bu s (a + 1 + i) := by rw [bu_tail]; congr 1; omega
    by_cases h1 : a + i < (s.extract 1 s.size).size
    · have h1' : a + 1 + i < s.size := by omega
      by_cases h2 : 128 ≤ (bu s (a + 1 + i)).toNat
      · rw [rvL_go h1' h2, rvL_go h1 (by rw [hb]; exact h2), hb]; exact rvL_tail h a k _ _ _
      · by_cases h3 : ((bu s (a + 1 + i)).toNat = 0 ∧ 0 < i) ∨ 1000000000 < n + (bu s (a + 1 + i)).toNat % 128 * u
        · rw [rvL_no h1' h2 h3, rvL_no h1 (by rw [hb]; exact h2) (by rw [hb]; exact h3)]; rfl
        · rw [rvL_yes h1' h2 h3, rvL_yes h1 (by rw [hb]; exact h2) (by rw [hb]; exact h3), hb]
          simp only [Option.map_some, Option.some.injEq, Prod.mk.injEq, true_and]; omega
    · rw [rvL_out h1, rvL_out (by omega)]; rfl
theorem rvO_tail {s : ByteArray} (h : 1 ≤ s.size) (a : Nat) : rvO s ((a + 1 : Nat) : Int) = (rvO (s.extract 1 s.size) a).map fun p => (p.1, p.2 + 1) := by
  have hz := tail_size h
  unfold rvO
  by_cases c : a ≤ (s.extract 1 s.size).size
  · rw [if_pos (by omega), if_pos (by omega), Int.toNat_natCast, Int.toNat_natCast]; exact rvL_tail h a _ _ _ _
  · rw [if_neg (by omega), if_neg (by omega)]; rfl
theorem num_tail {s : ByteArray} (h : 1 ≤ s.size) (a : Nat) (b : Bool) :
    numN s (a + 1) b = numN (s.extract 1 s.size) a b ∧ numA s (a + 1) b = numA (s.extract 1 s.size) a b + 1 ∧ numB s (a + 1) b = numB (s.extract 1 s.size) a b := by
  unfold numN numA numB
  cases b with
  | true => exact ⟨rfl, rfl, rfl⟩
  | false =>
    simp only [Bool.false_eq_true, if_false]
    rw [rvO_tail h a]
    cases rvO (s.extract 1 s.size) a with
    | none => exact ⟨rfl, rfl, rfl⟩
    | some p => exact ⟨rfl, rfl, rfl⟩
theorem pair_iff {s c : ByteArray} (hc : c.size = 1) (h : eB3 s = false) : pairT s c = s ↔ preB s c = true ∧ eA3 s = s.size := by
  obtain ⟨h2, n2, x3, r2, e2, f2⟩ := numB_false h
  obtain ⟨h1, n1, x2, r1, e1, f1⟩ := numB_false h2
  obtain ⟨_, hs1, ha1, ht1⟩ := takeB_false h1
  have hA1 : eA1 s = 1 := by rw [eA1, ha1]
  have hN1 : eN1 s = n1 := e1
  have hA2 : eA2 s = x2 := f1
  have hN2 : eN2 s = n2 := e2
  have hA3 : eA3 s = x3 := f2
  rw [hA1] at r1
  rw [hA2] at r2
  have c1 := rvO_canon r1
  have c2 := rvO_canon r2
  obtain ⟨_, _, b1, b1'⟩ := rvO_bound r1
  obtain ⟨_, _, b2, b2'⟩ := rvO_bound r2
  have L : (pairT s c).data.toList = c.data.toList ++ (seg s 1 (x2 - 1) ++ seg s x2 (x3 - x2)) := by
    unfold pairT
    rw [app_list, app_list, varB_list, varB_list, hN1, hN2, c1, c2, List.append_assoc]
  have R : s.data.toList = seg s 0 1 ++ (seg s 1 (x2 - 1) ++ (seg s x2 (x3 - x2) ++ seg s x3 (s.size - x3))) := by
    rw [← seg_all s, show s.size = 1 + ((x2 - 1) + ((x3 - x2) + (s.size - x3))) by omega]
    rw [seg_append, show (0 : Nat) + 1 = 1 from rfl, seg_append, show 1 + (x2 - 1) = x2 by omega, seg_append, show x2 + (x3 - x2) = x3 by omega]
    rw [show 1 + (x2 - 1 + (x3 - x2 + (s.size - x3))) - x3 = s.size - x3 by omega]
  have hpre : preB s c = true ↔ c.data.toList = seg s 0 1 := by
    have hx : (s.extract 0 c.size).data.toList = seg s 0 1 := by rw [extract_list, hc]
    unfold preB
    rw [Bool.and_eq_true, decide_eq_true_eq, decide_eq_true_eq]
    constructor
    · rintro ⟨_, h⟩; rw [← hx, h]
    · intro h; exact ⟨by omega, bytes_ext (by rw [hx, h])⟩
  have hcl : c.data.toList.length = 1 := by rw [Array.length_toList]; exact hc
  have hsl : (seg s 0 1).length = 1 := seg_len (by omega)
  rw [hA3]
  constructor
  · intro hh
    have h0 : (pairT s c).data.toList = s.data.toList := by rw [hh]
    rw [L] at h0
    conv at h0 => rhs; rw [R]
    have h3 := List.append_inj h0 (by rw [hcl, hsl])
    refine ⟨hpre.2 h3.1, ?_⟩
    have h4 := congrArg List.length h3.2
    simp only [List.length_append] at h4
    have h5 : (seg s x3 (s.size - x3)).length = s.size - x3 := seg_len (by omega)
    omega
  · rintro ⟨p, q⟩
    refine bytes_ext ?_
    rw [L]
    conv => rhs; rw [R]
    rw [hpre.1 p, q, Nat.sub_self, seg_zero, List.append_nil]
theorem eA1_pre {s c : ByteArray} (hc : c.size = 1) (h : preB s c = true) : 1 ≤ s.size ∧ eA1 s = 1 ∧ eB1 s = false := by
  have h1 : 1 ≤ s.size := by simp [preB] at h; omega
  have ho : takeOk s 0 false 1 = true := by simp [takeOk]; exact h1
  exact ⟨h1, by simp [eA1, takeA, ho], by simp [eB1, takeB, ho]⟩
theorem readPair_ok (s c : ByteArray) (hs : s.size ≤ 140737488355328) (hc : c.size = 1) :
    ∃ a b : Nat, PureFn Tryz.prog 126 [st s, st c] [i64 a, i64 b, bo (pairB s c)] ∧ (pairB s c = true → a = eN1 s ∧ b = eN2 s) := by
  obtain ⟨r, hr⟩ : ∃ r : ByteArray, r = if preB s c then s.extract c.size s.size else s := ⟨_, rfl⟩
  have hrs : r.size ≤ 140737488355328 := by rw [hr]; split; exact Nat.le_trans (extract_size _ _ _) hs; exact hs
  have k0 := cutPrefix_ok s c
  rw [← hr] at k0
  have k1 := number_ok r hrs 0 false
  obtain ⟨a1, ha1⟩ : ∃ a, a = numA r 0 false := ⟨_, rfl⟩
  obtain ⟨b1, hb1⟩ : ∃ b, b = numB r 0 false := ⟨_, rfl⟩
  obtain ⟨n1, hn1⟩ : ∃ n, n = numN r 0 false := ⟨_, rfl⟩
  rw [← ha1, ← hb1, ← hn1] at k1
  have k2 := number_ok r hrs a1 b1
  obtain ⟨a2, ha2⟩ : ∃ a, a = numA r a1 b1 := ⟨_, rfl⟩
  obtain ⟨b2, hb2⟩ : ∃ b, b = numB r a1 b1 := ⟨_, rfl⟩
  obtain ⟨n2, hn2⟩ : ∃ n, n = numN r a1 b1 := ⟨_, rfl⟩
  rw [← ha2, ← hb2, ← hn2] at k2
  have k3 := done_ok r a2 b2
  have key : (preB s c && (!b2 && decide ((a2 : Int) = (r.size : Int)))) = pairB s c ∧ (preB s c = true → n1 = eN1 s ∧ n2 = eN2 s) := by
    cases hp : preB s c with
    | false =>
      refine ⟨?_, fun h => by cases h⟩
      unfold pairB
      cases h3 : eB3 s with
      | true => rfl
      | false =>
        have := (pair_iff hc h3)
        rw [hp] at this
        have hno : ¬ pairT s c = s := fun hh => by have := (this.1 hh).1; cases this
        rw [decide_eq_false hno]; rfl
    | true =>
      obtain ⟨h1, q1, q2⟩ := eA1_pre hc hp
      rw [hp, if_pos rfl, hc] at hr
      subst hr
      obtain ⟨t1, t2, t3⟩ := num_tail h1 0 false
      have e1 : eN1 s = n1 := by rw [hn1, eN1, q1, q2]; exact t1
      have e2 : eA2 s = a1 + 1 := by rw [ha1, eA2, q1, q2]; exact t2
      have e3 : eB2 s = b1 := by rw [hb1, eB2, q1, q2]; exact t3
      obtain ⟨t4, t5, t6⟩ := num_tail h1 a1 b1
      have e4 : eN2 s = n2 := by rw [hn2, eN2, e2, e3]; exact t4
      have e5 : eA3 s = a2 + 1 := by rw [ha2, eA3, e2, e3]; exact t5
      have e6 : eB3 s = b2 := by rw [hb2, eB3, e2, e3]; exact t6
      have hz := tail_size h1
      refine ⟨?_, fun _ => ⟨e1.symm, e4.symm⟩⟩
      unfold pairB
      rw [← e6]
      cases h3 : eB3 s with
      | true => rfl
      | false =>
        have := pair_iff hc h3
        rw [hp] at this
        simp only [Bool.not_false, Bool.true_and]
        by_cases hh : a2 = (s.extract 1 s.size).size
        · rw [decide_eq_true (by omega), decide_eq_true (this.2 ⟨rfl, by omega⟩)]
        · rw [decide_eq_false (by omega), decide_eq_false (fun h => hh (by have := (this.1 h).2; omega))]
  refine ⟨n1, n2, ?_, fun h => key.2 (by rw [← key.1, Bool.and_eq_true] at h; exact h.1)⟩
  rw [← key.1]
  refine PureFn_of_Go Tryz.func126 rfl (by decide) mo (by decide +kernel) ?_
  simp only [Tryz.ntmps126, Tryz.results126, push_cast, seval]
  refine GoL_call rfl rfl k0 rfl rfl ?_
  simp only [Tryz.ntmps126, Tryz.results126, push_cast, seval]
  refine GoL_io (0, 576) .box 3 [sc r 0 false] rfl rfl rfl rfl (.inl rfl) rfl k1 rfl rfl ?_
  simp only [Tryz.ntmps126, Tryz.results126, push_cast, seval, sc]
  refine GoL_io (0, 576) .box 3 [sc r a1 b1] rfl rfl rfl rfl (.inl rfl) rfl k2 rfl rfl ?_
  simp only [Tryz.ntmps126, Tryz.results126, push_cast, seval, sc]
  cases hp : preB s c with
  | true =>
    simp only [Tryz.ntmps126, Tryz.results126, push_cast, seval, sc]
    refine GoL_io (0, 576) .box 3 [sc r a2 b2] rfl rfl rfl rfl (.inl rfl) rfl k3 rfl rfl ?_
    simp only [Tryz.ntmps126, Tryz.results126, push_cast, seval, sc]
  | false => simp only [Tryz.ntmps126, Tryz.results126, push_cast, seval, sc]
end Go.Proofs.YthbfmegbnnmepaaGreatDoor

/- Logs: right ones, a copy, one more entry. -/
namespace Go.Proofs.YthbfmegbnnmepaaGreatDoor
open Go.RowKit Go.Rx
set_option linter.unusedSimpArgs false
set_option maxRecDepth 100000

structure Lg where
  start : Int
  sterm : Int
  es : List Ent
def lgC (l : Lg) (f : C) : List C := [.v (.int .i64 l.start), .v (.int .i64 l.sterm), f]
def entOk (e : Ent) : Bool := eoB e.term e.kind e.data
def riseB : Int → List Ent → Bool
  | _, [] => true
  | t, e :: es => (entOk e && decide (t ≤ e.term)) && riseB e.term es
def logB (l : Lg) : Bool := (inR l.start 0 1000000 && inR l.sterm 0 100000 && decide ((l.es.length : Int) ≤ 60) && decide (l.start + (l.es.length : Int) ≤ 1000000)) && riseB l.sterm l.es
def fineE (l : List Ent) : Prop := l.length ≤ 1048576 ∧ ∀ e ∈ l, e.data.size ≤ 140737488355328
theorem ents_drop {l : List Ent} {i : Nat} (h : i < l.length) : l.drop i = l.getD i default :: l.drop (i + 1) := by
  rw [List.drop_eq_getElem_cons h, List.getD_eq_getElem?_getD, List.getElem?_eq_getElem h]; rfl
theorem fine_getD {l : List Ent} (h : fineE l) {i : Nat} (hi : i < l.length) : (l.getD i default).data.size ≤ 140737488355328 := by
  rw [List.getD_eq_getElem?_getD, List.getElem?_eq_getElem hi]
  exact h.2 _ (List.getElem_mem hi)

theorem logOkI_ok (l : Lg) (h : fineE l.es) : PureFn Tryz.prog 77 [.agg (lgC l (.sh 3 (vR (ents l.es))))] [bo (logB l)] := by
  refine PureFn_of_Go Tryz.func77 rfl (by decide) mo (by decide +kernel) ?_
  obtain ⟨start, sterm, es⟩ := l
  obtain ⟨hl, hd⟩ := h
  have hfe : fineE es := ⟨hl, hd⟩
  simp only at hl hd
  have k1 := isIndex_ok start
  have k2 := isTerm_ok sterm
  simp only [Tryz.ntmps77, Tryz.results77, push_cast, seval, lgC]
  refine GoL_call rfl rfl k1 rfl rfl ?_
  unfold logB
  simp only
  cases c1 : inR start 0 1000000 with
  | false => simp only [Tryz.ntmps77, Tryz.results77, push_cast, seval]
  | true =>
    have hst := inR_spec.1 c1
    simp only [Tryz.ntmps77, Tryz.results77, push_cast, seval]
    refine GoL_call rfl rfl k2 rfl rfl ?_
    cases c2 : inR sterm 0 100000 with
    | false => simp only [Tryz.ntmps77, Tryz.results77, push_cast, seval]
    | true =>
      have hw : IntKind.i64.wrap (start + (es.length : Int)) = start + (es.length : Int) := w64 (by omega) (by omega)
      by_cases c3 : (es.length : Int) ≤ 60
      · have c3' : ¬ (60 : Int) < (es.length : Int) := by omega
        by_cases c4 : start + (es.length : Int) ≤ 1000000
        · have c4' : ¬ (1000000 : Int) < start + (es.length : Int) := by omega
          simp only [Tryz.ntmps77, Tryz.results77, push_cast, seval, ents_length, c3, c3', hw, c4, c4']
          refine Go_loop (α := {p : Nat × Int // p.1 ≤ es.length ∧ riseB sterm es = riseB p.2 (es.drop p.1)})
            (fun p => ⟨tp 52 [(1, .x (.one (.pt (0, 64) [] 3 0 0))), (2, .x (bo false)), (3, .x (i64 p.1.2)), (34, .x (.one (.sh 3 (vR (ents es))))), (35, int es.length), (36, int p.1.1)], 0, [((0, 64), ⟨.box, 3, [[.v (.int .i64 start), .v (.int .i64 sterm), .sh 3 (vR (ents es))]]⟩)], []⟩)
            (fun p => es.length - p.1.1) ⟨(0, sterm), Nat.zero_le _, by simp⟩ ?_ ?_
          · exact Weak.same (by simp only [push_cast, seval, Int.ofNat_zero])
          · rintro ⟨⟨i, t⟩, hi, hr⟩ X hX
            simp only at hi hr
            by_cases hlt : (i : Int) < (es.length : Int)
            · have hi' : i < es.length := by omega
              have hg := ents_getD es hi'
              have hsz := fine_getD hfe hi'
              rw [ents_drop hi'] at hr
              obtain ⟨e, he⟩ : ∃ e, e = es.getD i default := ⟨_, rfl⟩
              rw [← he] at hg hr hsz
              have k3 := entryOkI_ok e.term e.kind e.data hsz
              rw [show eoB e.term e.kind e.data = entOk e from rfl] at k3
              obtain ⟨i', hi1⟩ : ∃ i', i' = i + 1 := ⟨_, rfl⟩
              have ws := wsucc hi' (by omega)
              rw [← hi1] at ws hr
              simp only [push_cast, seval, ents_length, hlt, hi', vR_getD, hg, entV]
              refine GoL_call rfl rfl k3 rfl rfl ?_
              cases c5 : entOk e with
              | false =>
                rw [hr]
                simp only [Tryz.ntmps77, Tryz.results77, push_cast, seval, riseB, c5]
              | true =>
                by_cases c6 : t ≤ e.term
                · have c6' : ¬ e.term < t := by omega
                  simp only [push_cast, seval, ents_length, hlt, hi', vR_getD, hg, entV, c6', ws]
                  refine ⟨_, ?_, hX ⟨(i', e.term), by simp only; omega, by simp only; rw [hr, riseB, c5, decide_eq_true c6]; rfl⟩ (by simp only; omega)⟩
                  exact Weak.drop (by simp only [push_cast, seval]) (by simp only [push_cast, seval]) (by simp only [push_cast, seval])
                · have c6' : e.term < t := by omega
                  rw [hr, riseB, c5, decide_eq_false c6]
                  simp only [Tryz.ntmps77, Tryz.results77, push_cast, seval, ents_length, hlt, hi', vR_getD, hg, entV, c6']
            · have hil : i = es.length := by omega
              rw [hil, List.drop_length] at hr
              simp only [Tryz.ntmps77, Tryz.results77, push_cast, seval, ents_length, hlt, hr, riseB]
        · have c4' : (1000000 : Int) < start + (es.length : Int) := by omega
          simp only [Tryz.ntmps77, Tryz.results77, push_cast, seval, ents_length, c3, c3', hw, c4, c4']
      · have c3' : (60 : Int) < (es.length : Int) := by omega
        simp only [Tryz.ntmps77, Tryz.results77, push_cast, seval, ents_length, c3, c3']

/-! ### a copy -/
theorem ents_flat (es : List Ent) : (vR (ents es)).all flatRow = true := by
  rw [List.all_eq_true]
  intro r hr
  simp only [vR, ents, List.map_map, List.mem_map, Function.comp_apply] at hr
  obtain ⟨e, _, rfl⟩ := hr
  rfl
theorem clone_v (y : Value) (hy : y = .slice none 0 0 ∨ ∃ a cap, y = .slice (some a) 0 cap) : PureFn Tryz.prog 80 [.one (.v y)] [.one (.own 3 [])] := by
  refine PureFn_of_GoW Tryz.func80 rfl (by decide) mo (by decide +kernel) ?_
  have ht : isSlT Tryz.prog 32 = true := by kernel_rfl
  rcases hy with rfl | ⟨a, cap, rfl⟩
  · simp only [Tryz.ntmps80, Tryz.results80, push_cast, seval, bin_nilNil ht]
    refine ⟨_, Weak.nilRoot (0, 1) 3 2 rfl rfl rfl, ?_⟩
    simp only [Tryz.ntmps80, Tryz.results80, push_cast, seval]
  · simp only [Tryz.ntmps80, Tryz.results80, push_cast, seval, bin_vNil ht, List.append_nil, show (0 / 4 + 192) * 32 ≤ 281474976710656 by decide]
    refine ⟨_, Weak.refl _, ?_⟩
    simp only [Tryz.ntmps80, Tryz.results80, push_cast, seval]
theorem clone_ok (es : List Ent) (h : fineE es) : PureFn Tryz.prog 80 [.one (.sh 3 (vR (ents es)))] [.one (.own 3 (vR (ents es)))] := by
  cases hes : es with
  | nil => exact PureFn_sh0 (clone_v _ (.inl rfl)) fun a cap => clone_v _ (.inr ⟨a, cap, rfl⟩)
  | cons e es' =>
    rw [← hes]
    refine PureFn_of_GoW Tryz.func80 rfl (by decide) mo (by decide +kernel) ?_
    have ht : isSlT Tryz.prog 32 = true := by kernel_rfl
    have hne : vR (ents es) ≠ [] := by rw [hes]; exact List.cons_ne_nil _ _
    have a0 : 0 + es.length ≤ 4294967296 := by have := h.1; omega
    have a1 := max_len a0
    have a2 := room_le (b := 32) a0 (by decide)
    rw [Nat.zero_add] at a1 a2
    simp only [Tryz.ntmps80, Tryz.results80, push_cast, seval, bin_shNil hne ht, ents_length, a1, a2, List.nil_append, ents_flat]
    refine ⟨_, Weak.refl _, ?_⟩
    simp only [Tryz.ntmps80, Tryz.results80, push_cast, seval, ents_length]
theorem copyLog_ok (l : Lg) (h : fineE l.es) : PureFn Tryz.prog 32 [.agg (lgC l (.sh 3 (vR (ents l.es))))] [.agg (lgC l (.own 3 (vR (ents l.es))))] := by
  refine PureFn_of_Go Tryz.func32 rfl (by decide) mo (by decide +kernel) ?_
  have k := clone_ok l.es h
  simp only [Tryz.ntmps32, Tryz.results32, push_cast, seval, lgC]
  refine GoL_call rfl rfl k (by simp only [push_cast, seval]) rfl ?_
  simp only [Tryz.ntmps32, Tryz.results32, push_cast, seval, ents_length, ents_take, lgC]
end Go.Proofs.YthbfmegbnnmepaaGreatDoor

/- Logs: one more entry. -/
namespace Go.Proofs.YthbfmegbnnmepaaGreatDoor
open Go.RowKit Go.Rx
set_option linter.unusedSimpArgs false
set_option maxRecDepth 100000

def putL (l : Lg) (index : Int) (e : Ent) : Lg := ⟨l.start, l.sterm, l.es.take (index - l.start - 1).toNat ++ [e]⟩
def putB (l : Lg) (index : Int) (e : Ent) : Bool := (logB l && inR index (l.start + 1) (l.start + (l.es.length : Int) + 1)) && logB (putL l index e)
def lgZ : List C := [.v (.int .i64 0), .v (.int .i64 0), .v (.slice none 0 0)]
def putX (l : Lg) (index : Int) (e : Ent) : List X := if putB l index e then [.agg (lgC (putL l index e) (.own 3 (vR (ents (putL l index e).es)))), bo true] else [.agg lgZ, bo false]
theorem logB_spec {l : Lg} (h : logB l = true) : 0 ≤ l.start ∧ l.start ≤ 1000000 ∧ l.es.length ≤ 60 ∧ l.start + (l.es.length : Int) ≤ 1000000 := by
  simp only [logB, Bool.and_eq_true, decide_eq_true_eq, inR_spec] at h
  omega
theorem lastI_ok (l : Lg) (h : l.es.length ≤ 1048576) (h1 : 0 ≤ l.start) (h2 : l.start ≤ 1000000) : PureFn Tryz.prog 78 [.one (.ps (lgC l (.sh 3 (vR (ents l.es)))))] [i64 (l.start + l.es.length)] := by
  refine PureFn_of_Go Tryz.func78 rfl (by decide) mo (by decide +kernel) ?_
  have hw : IntKind.i64.wrap (l.start + (l.es.length : Int)) = l.start + (l.es.length : Int) := w64 (by omega) (by omega)
  simp only [Tryz.ntmps78, Tryz.results78, push_cast, seval, lgC, ents_length, hw]
theorem fine_put {l : Lg} (h : fineE l.es) (index : Int) (e : Ent) (he : e.data.size ≤ 140737488355328) (h60 : l.es.length ≤ 60) : fineE (putL l index e).es := by
  obtain ⟨h1, h2⟩ := h
  refine ⟨?_, fun x hx => ?_⟩
  · show (l.es.take _ ++ [e]).length ≤ _
    rw [List.length_append, List.length_take]
    simp only [List.length_cons, List.length_nil]; omega
  · have hx' : x ∈ l.es.take (index - l.start - 1).toNat ++ [e] := hx
    rw [List.mem_append] at hx'
    rcases hx' with hx' | hx'
    · exact h2 x (List.mem_of_mem_take hx')
    · rw [List.mem_singleton.1 hx']; exact he
set_option maxHeartbeats 1000000 in
theorem logPutI_ok (l : Lg) (h : fineE l.es) (index : Int) (e : Ent) (he : e.data.size ≤ 140737488355328) :
    PureFn Tryz.prog 165 [.agg (lgC l (.sh 3 (vR (ents l.es)))), i64 index, .agg (entC e.term e.kind e.data)] (putX l index e) := by
  refine PureFn_of_Go Tryz.func165 rfl (by decide) mo (by decide +kernel) ?_
  have k1 := logOkI_ok l h
  simp only [Tryz.ntmps165, Tryz.results165, push_cast, seval, lgC, entC]
  refine GoD_call rfl rfl k1 rfl rfl ?_
  cases c1 : logB l with
  | false =>
    rw [show putX l index e = [.agg lgZ, bo false] by simp [putX, putB, c1]]
    simp only [Tryz.ntmps165, Tryz.results165, push_cast, seval, lgZ]
  | true =>
    obtain ⟨a1, a2, a3, a4⟩ := logB_spec c1
    have k2 := lastI_ok l (by omega) a1 a2
    have w1 : IntKind.i64.wrap (l.start + 1) = l.start + 1 := w64 (by omega) (by omega)
    have w2 : IntKind.i64.wrap (l.start + (l.es.length : Int) + 1) = l.start + (l.es.length : Int) + 1 := w64 (by omega) (by omega)
    have k3 := inRange_ok index (l.start + 1) (l.start + (l.es.length : Int) + 1)
    rw [show (decide (l.start + 1 ≤ index) && decide (index ≤ l.start + (l.es.length : Int) + 1)) = inR index (l.start + 1) (l.start + (l.es.length : Int) + 1) from rfl] at k3
    simp only [Tryz.ntmps165, Tryz.results165, push_cast, seval, w1]
    refine GoD_call rfl (by simp only [push_cast, seval, lgC, toSh]) k2 rfl rfl ?_
    simp only [Tryz.ntmps165, Tryz.results165, push_cast, seval, w2]
    refine GoD_call rfl rfl k3 rfl rfl ?_
    cases c2 : inR index (l.start + 1) (l.start + (l.es.length : Int) + 1) with
    | false =>
      rw [show putX l index e = [.agg lgZ, bo false] by simp [putX, putB, c1, c2]]
      simp only [Tryz.ntmps165, Tryz.results165, push_cast, seval, lgZ]
    | true =>
      have b := inR_spec.1 c2
      have k4 := copyLog_ok l h
      simp only [lgC] at k4
      simp only [Tryz.ntmps165, Tryz.results165, push_cast, seval]
      refine GoL_call rfl rfl k4 (by simp only [push_cast, seval]) rfl ?_
      obtain ⟨m, hm⟩ : ∃ m, m = (index - l.start - 1).toNat := ⟨_, rfl⟩
      have w3 : IntKind.i64.wrap (index - l.start) = index - l.start := w64 (by omega) (by omega)
      have w4 : IntKind.i64.wrap (index - l.start - 1) = (m : Int) := wN (by omega) (by omega)
      have hml : m ≤ l.es.length := by omega
      have a0 : m + 1 ≤ 4294967296 := by omega
      have r1 := max_len a0
      have r2 := room_le (b := 32) a0 (by decide)
      have hput : putL l index e = ⟨l.start, l.sterm, l.es.take m ++ [e]⟩ := by rw [putL, ← hm]
      have hfin := fine_put h index e he a3
      have k5 := logOkI_ok (putL l index e) hfin
      have hpl : (l.es.take m ++ [e]).length = m + 1 := by rw [List.length_append, List.length_take]; simp only [List.length_cons, List.length_nil]; omega
      have hR : (vR (ents l.es)).take m ++ [[C.v (.int .i64 e.term), .v (.int .i64 e.kind), .v (.string e.data)]] = vR (ents (l.es.take m ++ [e])) := by
        simp [vR, ents, entV]
      have htk := ents_take (l.es.take m ++ [e])
      have hel := ents_length (l.es.take m ++ [e])
      rw [hpl] at htk hel
      rw [hput] at k5
      simp only [lgC] at k5
      have hm0 : m - 0 = m := Nat.sub_zero m
      by_cases hme : m = l.es.length
      · subst hme
        rw [List.take_of_length_le (by rw [vR_length, ents_length]; exact Nat.le_refl _), List.take_of_length_le (Nat.le_refl _)] at hR
        rw [List.take_of_length_le (Nat.le_refl _)] at hput hpl htk k5 hel
        simp only [Tryz.ntmps165, Tryz.results165, push_cast, seval, w3, w4, ents_length, hml, Nat.zero_le, hm0, r1, r2, hR]
        refine GoL_call rfl (by simp only [push_cast, seval, htk]) k5 rfl rfl ?_
        cases c3 : logB ⟨l.start, l.sterm, l.es ++ [e]⟩ with
        | false =>
          rw [show putX l index e = [.agg lgZ, bo false] by simp [putX, putB, c1, c2, hput, c3]]
          simp only [Tryz.ntmps165, Tryz.results165, push_cast, seval, lgZ]
        | true =>
          rw [show putX l index e = [.agg (lgC ⟨l.start, l.sterm, l.es ++ [e]⟩ (.own 3 (vR (ents (l.es ++ [e]))))), bo true] by simp [putX, putB, c1, c2, hput, c3]]
          simp only [Tryz.ntmps165, Tryz.results165, push_cast, seval, lgC, htk, hel]
      · have hlt : m < l.es.length := by omega
        simp only [Tryz.ntmps165, Tryz.results165, push_cast, seval, w3, w4, ents_length, hml, Nat.zero_le, hm0, hme]
        rw [show @appendS' = @appendS from rfl, append_cut (e := 151) (zs := [.int .i64 0, .int .i64 0, .string ⟨#[]⟩]) (s := 3) (bytes := 32) (szx := 3) (sz2 := 3) (X := [[.v (.int .i64 e.term), .v (.int .i64 e.kind), .v (.string e.data)]]) (R := vR (ents l.es)) (h0 := by simp only [push_cast, seval]) (h1 := by simp only [push_cast, seval]) (h2 := by simp only [push_cast, seval]) (h3 := by simp only [push_cast, seval]) (h4 := by simp only [push_cast, seval]) (h5 := by simp only [push_cast, seval]) (hc := ?_)]
        · simp only [Tryz.ntmps165, Tryz.results165, push_cast, seval, hR]
          refine GoL_call rfl (by simp only [push_cast, seval, htk]) k5 rfl rfl ?_
          cases c3 : logB ⟨l.start, l.sterm, l.es.take m ++ [e]⟩ with
          | false =>
            rw [show putX l index e = [.agg lgZ, bo false] by simp [putX, putB, c1, c2, hput, c3]]
            simp only [Tryz.ntmps165, Tryz.results165, push_cast, seval, lgZ]
          | true =>
            rw [show putX l index e = [.agg (lgC ⟨l.start, l.sterm, l.es.take m ++ [e]⟩ (.own 3 (vR (ents (l.es.take m ++ [e]))))), bo true] by simp [putX, putB, c1, c2, hput, c3]]
            simp only [Tryz.ntmps165, Tryz.results165, push_cast, seval, lgC, htk, hel]
        · simp only [push_cast, seval, ents_length, hml, ents_flat, r1, r2]
end Go.Proofs.YthbfmegbnnmepaaGreatDoor

/- Journals: what a record tells; the program's reader. -/
namespace Go.Proofs.YthbfmegbnnmepaaGreatDoor
open Go.RowKit Go.Rx
set_option linter.unusedSimpArgs false
set_option maxRecDepth 100000

theorem logB_nil (start sterm : Int) : logB ⟨start, sterm, []⟩ = (inR start 0 1000000 && inR sterm 0 100000) := by
  unfold logB
  cases c1 : inR start 0 1000000 with
  | false => rfl
  | true =>
    have := inR_spec.1 c1
    have h : start + (([] : List Ent).length : Int) ≤ 1000000 := by simp; omega
    simp [riseB, h]
    intro _
    exact this.2
theorem logOkI_nil (start sterm : Int) : PureFn Tryz.prog 77 [.agg [.v (.int .i64 start), .v (.int .i64 sterm), .v (.slice none 0 0)]] [bo (logB ⟨start, sterm, []⟩)] := by
  refine PureFn_of_Go Tryz.func77 rfl (by decide) mo (by decide +kernel) ?_
  have k1 := isIndex_ok start
  have k2 := isTerm_ok sterm
  rw [logB_nil]
  simp only [Tryz.ntmps77, Tryz.results77, push_cast, seval]
  refine GoL_call rfl rfl k1 rfl rfl ?_
  cases c1 : inR start 0 1000000 with
  | false => simp only [Tryz.ntmps77, Tryz.results77, push_cast, seval]
  | true =>
    have hst := inR_spec.1 c1
    simp only [Tryz.ntmps77, Tryz.results77, push_cast, seval]
    refine GoL_call rfl rfl k2 rfl rfl ?_
    cases c2 : inR sterm 0 100000 with
    | false => simp only [Tryz.ntmps77, Tryz.results77, push_cast, seval]
    | true =>
      have hw : IntKind.i64.wrap start = start := w64 (by omega) (by omega)
      have c4 : ¬ (1000000 : Int) < start := by omega
      simp only [Tryz.ntmps77, Tryz.results77, push_cast, seval, Int.add_zero, hw, c4]
      refine Go_loop (α := Unit) (fun _ => ⟨tp 52 [(1, .x (.one (.pt (0, 64) [] 3 0 0))), (2, .x (bo false)), (34, .x (.one (.v (.slice none 0 0)))), (35, int 0), (36, int 0)], 0, [((0, 64), ⟨.box, 3, [[.v (.int .i64 start), .v (.int .i64 sterm), .v (.slice none 0 0)]]⟩)], []⟩) (fun _ => 0) () ?_ ?_
      · exact Weak.same (by simp only [push_cast, seval, Int.ofNat_zero])
      · rintro _ X hX
        simp only [Tryz.ntmps77, Tryz.results77, push_cast, seval]
theorem journalOk_nil (n start sterm : Int) : PureFn Tryz.prog 56 [.agg [.v (.int .i64 n), .v (.int .i64 0), .v (.int .i64 0), .v (.int .i64 start), .v (.int .i64 sterm), .v (.slice none 0 0)]] [bo (inR n 0 999 && logB ⟨start, sterm, []⟩)] := by
  refine PureFn_of_Go Tryz.func56 rfl (by decide) mo (by decide +kernel) ?_
  have k1 := inRange_ok n 0 999
  rw [show (decide ((0 : Int) ≤ n) && decide (n ≤ 999)) = inR n 0 999 from rfl] at k1
  have k2 := isTerm_ok 0
  have k3 := inRange_ok 0 0 4
  have k4 := logOkI_nil start sterm
  simp only [Tryz.ntmps56, Tryz.results56, push_cast, seval]
  refine GoL_call rfl rfl k1 rfl rfl ?_
  cases c1 : inR n 0 999 with
  | false => simp only [Tryz.ntmps56, Tryz.results56, push_cast, seval]
  | true =>
    simp only [Tryz.ntmps56, Tryz.results56, push_cast, seval]
    refine GoL_call rfl rfl k2 rfl rfl ?_
    rw [show inR 0 0 100000 = true from rfl]
    simp only [Tryz.ntmps56, Tryz.results56, push_cast, seval]
    refine GoL_call rfl rfl k3 rfl rfl ?_
    rw [show (decide ((0 : Int) ≤ 0) && decide ((0 : Int) ≤ 4)) = true from rfl]
    simp only [Tryz.ntmps56, Tryz.results56, push_cast, seval]
    refine GoL_call rfl rfl k4 rfl rfl ?_
    simp only [Tryz.ntmps56, Tryz.results56, push_cast, seval]

/-! ### records -/
structure Jn where
  number : Int
  term : Int
  vote : Int
  log : Lg
def mkH : ByteArray := ⟨#[72]⟩
def mkB' : ByteArray := ⟨#[66]⟩
def entOf (s : ByteArray) : Ent := ⟨eN2 s, eK s, eD s⟩
def moreO (j : Jn) (s : ByteArray) : Option Jn :=
  if pairB s mkH then (if inR (eN1 s) 0 100000 && inR (eN2 s) 0 4 then some ⟨j.number, eN1 s, eN2 s, j.log⟩ else none)
  else if eOk s then (if putB j.log (eN1 s) (entOf s) then some ⟨j.number, j.term, j.vote, putL j.log (eN1 s) (entOf s)⟩ else none) else none
def tellL : Jn → Nat → List (ByteArray × Nat) → Jn × Nat
  | j, e, [] => (j, e)
  | j, e, (t, x) :: r => match moreO j t with
    | some j' => tellL j' x r
    | none => (j, e)
def rjO (n : Int) (s : ByteArray) : Option (Jn × Nat) :=
  if inR n 0 999 then match frs s with
    | [] => none
    | (t, x) :: r => if pairB t mkB' && logB ⟨eN1 t, eN2 t, []⟩ then some (tellL ⟨n, 0, 0, ⟨eN1 t, eN2 t, []⟩⟩ x r) else none
  else none
def jnC (j : Jn) (f : C) : List C := [.v (.int .i64 j.number), .v (.int .i64 j.term), .v (.int .i64 j.vote), .v (.int .i64 j.log.start), .v (.int .i64 j.log.sterm), f]
def jnZ : Jn := ⟨0, 0, 0, ⟨0, 0, []⟩⟩
def rjX : Option (Jn × Nat) → List X
  | none => [.agg (jnC jnZ (.own 3 (vR (ents jnZ.log.es)))), i64 0, bo false]
  | some (j, e) => [.agg (jnC j (.own 3 (vR (ents j.log.es)))), i64 e, bo true]
theorem eD_size (s : ByteArray) : (eD s).size ≤ s.size := by unfold eD; rw [ByteArray.size_extract]; omega
theorem fine_more {j j' : Jn} {s : ByteArray} (h : fineE j.log.es) (hs : s.size ≤ 140737488355328) (hm : moreO j s = some j') : fineE j'.log.es := by
  unfold moreO at hm
  split at hm
  · split at hm
    · cases hm; exact h
    · cases hm
  · split at hm
    · split at hm
      · rename_i hp
        cases hm
        have hp2 := hp
        simp only [putB, Bool.and_eq_true] at hp2
        exact fine_put h _ _ (Nat.le_trans (eD_size s) hs) (logB_spec hp2.1.1).2.2.1
      · cases hm
    · cases hm
end Go.Proofs.YthbfmegbnnmepaaGreatDoor

/- Journals: the program's reader. -/
namespace Go.Proofs.YthbfmegbnnmepaaGreatDoor
open Go.RowKit Go.Rx
set_option linter.unusedSimpArgs false
set_option maxRecDepth 100000

theorem frTs_length (l : List (ByteArray × Nat)) : (strs (frTs l)).length = l.length := by simp [strs, frTs]
theorem frEs_length (l : List (ByteArray × Nat)) : (ints (frEs l)).length = l.length := by simp [ints, frEs]
theorem frTs_getD {l : List (ByteArray × Nat)} {i : Nat} (h : i < l.length) : (strs (frTs l)).getD i [] = [.string (l.getD i default).1] := by
  simp [strs, frTs, List.getD_eq_getElem?_getD, List.getElem?_map, List.getElem?_eq_getElem h]
theorem frEs_getD {l : List (ByteArray × Nat)} {i : Nat} (h : i < l.length) : (ints (frEs l)).getD i [] = [.int .i64 ((l.getD i default).2 : Int)] := by
  simp [ints, frEs, List.getD_eq_getElem?_getD, List.getElem?_map, List.getElem?_eq_getElem h]
theorem frO_size {s : ByteArray} {a x : Nat} {t : ByteArray} (h : frO s a = some (t, x)) : t.size ≤ s.size ∧ x = a + (frameB t).size ∧ okLen t = true := by
  unfold frO at h
  split at h
  · rename_i n y hr
    split at h
    · rename_i hc
      obtain ⟨rfl, rfl⟩ := Prod.mk.inj (Option.some.inj h)
      obtain ⟨q1, q2, q3, q4⟩ := hc
      have hz : (s.extract (y + 4) (y + 4 + n)).size = n := by rw [ByteArray.size_extract]; omega
      have hb := rvO_bound hr
      have he := (frame_iff hr q1).2 q4
      refine ⟨extract_size _ _ _, ?_, ?_⟩
      · rw [he, ByteArray.size_extract]; omega
      · unfold okLen; rw [hz]; simp; omega
    · cases h
  · cases h
theorem frL_sizes {s : ByteArray} : ∀ (k a : Nat), ∀ p ∈ frL s k a, p.1.size ≤ s.size
  | 0, _, p, h => by cases h
  | k + 1, a, p, h => by
    rw [frL] at h
    cases hf : frO s a with
    | none => rw [hf] at h; cases h
    | some q =>
      obtain ⟨t, x⟩ := q
      rw [hf] at h
      rcases List.mem_cons.1 h with rfl | h
      · exact (frO_size hf).1
      · exact frL_sizes k x p h
theorem frs_sizes {s : ByteArray} : ∀ p ∈ frs s, p.1.size ≤ s.size := by
  intro p h
  unfold frs at h
  split at h
  · exact frL_sizes _ _ p h
  · cases h
theorem drop_getD {α : Type} [Inhabited α] {l : List α} {i : Nat} (h : i < l.length) : l.drop i = l.getD i default :: l.drop (i + 1) := by
  rw [List.drop_eq_getElem_cons h, List.getD_eq_getElem?_getD, List.getElem?_eq_getElem h]; rfl

set_option maxHeartbeats 2000000 in
theorem readJournalI_ok (n : Int) (s : ByteArray) (hs : s.size ≤ 140737488355328) : PureFn Tryz.prog 74 [i64 n, st s] (rjX (rjO n s)) := by
  refine PureFn_of_GoW Tryz.func74 rfl (by decide) mo (by decide +kernel) ?_
  have k0 := framesOf_ok s hs
  have hFl := frs_len s
  have hFs := frs_sizes (s := s)
  have k1 := inRange_ok n 0 999
  rw [show (decide ((0 : Int) ≤ n) && decide (n ≤ 999)) = inR n 0 999 from rfl] at k1
  have hO : rjO n s = if inR n 0 999 then match frs s with
    | [] => none
    | (t, x) :: r => if pairB t mkB' && logB ⟨eN1 t, eN2 t, []⟩ then some (tellL ⟨n, 0, 0, ⟨eN1 t, eN2 t, []⟩⟩ x r) else none
  else none := rfl
  generalize frs s = F at k0 hFl hFs hO
  simp only [Tryz.ntmps74, Tryz.results74, push_cast, seval]
  refine GoL_call rfl rfl k0 (by simp only [push_cast, seval]) rfl ?_
  simp only [Tryz.ntmps74, Tryz.results74, push_cast, seval, frTs_length, frEs_length]
  refine GoL_call rfl rfl k1 rfl rfl ?_
  cases c1 : inR n 0 999 with
  | false =>
    rw [hO, c1]
    simp only [Tryz.ntmps74, Tryz.results74, push_cast, seval, Bool.false_eq_true, rjX]
    refine ⟨_, Weak.nilCell (0, 257) (0, 256) 3 5 rfl rfl rfl rfl, ?_⟩
    simp only [Tryz.ntmps74, Tryz.results74, push_cast, seval, jnC, jnZ, List.set, show vR (ents []) = [] from rfl]
  | true =>
    rw [c1, if_pos rfl] at hO
    cases F with
    | nil =>
      rw [hO]
      simp only [Tryz.ntmps74, Tryz.results74, push_cast, seval, frTs_length, Int.ofNat_zero, rjX]
      refine ⟨_, Weak.nilCell (0, 257) (0, 256) 3 5 rfl rfl rfl rfl, ?_⟩
      simp only [Tryz.ntmps74, Tryz.results74, push_cast, seval, jnC, jnZ, List.set, show vR (ents []) = [] from rfl]
    | cons p r =>
      obtain ⟨t0, x0⟩ := p
      simp only at hO
      have ht0 : t0.size ≤ 140737488355328 := Nat.le_trans (hFs (t0, x0) (List.mem_cons_self ..)) hs
      obtain ⟨a, b, k2, hab⟩ := readPair_ok t0 mkB' ht0 rfl
      have hlen : ((t0, x0) :: r).length = r.length + 1 := rfl
      have hg0 : (strs (frTs ((t0, x0) :: r))).getD 0 [] = [.string t0] := rfl
      have he0 : (ints (frEs ((t0, x0) :: r))).getD 0 [] = [.int .i64 (x0 : Int)] := rfl
      have h00 : ¬ ((r.length : Int) + 1 = 0) := by omega
      have h01 : (0 : Int) < (r.length : Int) + 1 := by omega
      have h02 : 0 < r.length + 1 := by omega
      simp only [Tryz.ntmps74, Tryz.results74, push_cast, seval, frTs_length, h00, h01, h02, vR_getD, hg0]
      refine GoL_call rfl rfl k2 rfl rfl ?_
      cases c2 : pairB t0 mkB' with
      | false =>
        rw [hO, c2]
        simp only [Tryz.ntmps74, Tryz.results74, push_cast, seval, Bool.false_eq_true, rjX]
        refine ⟨_, Weak.nilCell (0, 257) (0, 256) 3 5 rfl rfl rfl rfl, ?_⟩
        simp only [Tryz.ntmps74, Tryz.results74, push_cast, seval, jnC, jnZ, List.set, show vR (ents []) = [] from rfl]
      | true =>
        obtain ⟨rfl, rfl⟩ := hab c2
        have k3 := journalOk_nil n (eN1 t0) (eN2 t0)
        rw [c1, Bool.true_and] at k3
        rw [c2, Bool.true_and] at hO
        simp only [Tryz.ntmps74, Tryz.results74, push_cast, seval]
        refine GoL_call rfl rfl k3 rfl rfl ?_
        cases c3 : logB ⟨eN1 t0, eN2 t0, []⟩ with
        | false =>
          rw [hO, c3]
          simp only [Tryz.ntmps74, Tryz.results74, push_cast, seval, Bool.false_eq_true, rjX]
          refine ⟨_, Weak.nilCell (0, 257) (0, 256) 3 5 rfl rfl rfl rfl, ?_⟩
          simp only [Tryz.ntmps74, Tryz.results74, push_cast, seval, jnC, jnZ, List.set, show vR (ents []) = [] from rfl]
        | true =>
          rw [c3, if_pos rfl] at hO
          rw [hO]
          simp only [Tryz.ntmps74, Tryz.results74, push_cast, seval, frEs_length, frTs_length, h01, h02, vR_getD, he0]
          have hrl : r.length < 20000 := by rw [hlen] at hFl; omega
          obtain ⟨jf, hjf⟩ : ∃ jf, jf = tellL ⟨n, 0, 0, ⟨eN1 t0, eN2 t0, []⟩⟩ x0 r := ⟨_, rfl⟩
          rw [← hjf]
          refine Go_loop (α := {q : Nat × Jn × Nat // q.1 ≤ r.length ∧ fineE q.2.1.log.es ∧ tellL q.2.1 q.2.2 (r.drop q.1) = jf})
            (fun q => ⟨tp 73 [(4, .x (.one (.pt (0, 256) [] 6 0 0))), (8, .x (.one (.rs (0, 1153) [] 1 0 (r.length + 1)))), (12, .x (.one (.pt (0, 768) [] 6 0 0))), (13, .x (i64 q.1.2.2)), (55, .x (.one (.rs (0, 1152) [] 1 1 r.length))), (56, int r.length), (57, int q.1.1)], 0,
              [((0, 769), ⟨.sl, 3, vR (ents q.1.2.1.log.es)⟩), ((0, 768), ⟨.box, 6, [jnC q.1.2.1 (.rs (0, 769) [] 3 0 q.1.2.1.log.es.length)]⟩), ((0, 1152), ⟨.sl, 1, vR (strs (frTs ((t0, x0) :: r)))⟩), ((0, 1153), ⟨.sl, 1, vR (ints (frEs ((t0, x0) :: r)))⟩),
                ((0, 256), ⟨.box, 6, [[.v (.int .i64 0), .v (.int .i64 0), .v (.int .i64 0), .v (.int .i64 0), .v (.int .i64 0), .v (.slice none 0 0)]]⟩)], []⟩)
            (fun q => r.length - q.1.1) ⟨(0, ⟨n, 0, 0, ⟨eN1 t0, eN2 t0, []⟩⟩, x0), Nat.zero_le _, ⟨Nat.zero_le _, fun e he => by cases he⟩, hjf.symm⟩ ?_ ?_
          · refine Weak.trans (Weak.nilCell (0, 769) (0, 768) 3 5 rfl rfl rfl rfl) ?_
            rw [show vR (ents []) = [] from rfl]
            simp only [push_cast, seval, jnC, Int.ofNat_zero, List.set]
            exact Weak.same (by simp only [push_cast, seval])
          · rintro ⟨⟨i, j, e⟩, hi, hfe, hinv⟩ X hX
            simp only at hi hfe hinv
            have hel := ents_length j.log.es
            have htk := ents_take j.log.es
            by_cases hlt : (i : Int) < (r.length : Int)
            · have hi' : i < r.length := by omega
              have hdr := drop_getD hi'
              rw [hdr] at hinv
              have hg := frTs_getD (l := (t0, x0) :: r) (i := i + 1) (by rw [hlen]; omega)
              have hge := frEs_getD (l := (t0, x0) :: r) (i := i + 1) (by rw [hlen]; omega)
              rw [show ((t0, x0) :: r).getD (i + 1) default = r.getD i default from rfl] at hg hge
              have hmem : r.getD i default ∈ (t0, x0) :: r := by
                rw [List.getD_eq_getElem?_getD, List.getElem?_eq_getElem hi']
                exact List.mem_cons_of_mem _ (List.getElem_mem hi')
              have hsz := Nat.le_trans (hFs _ hmem) hs
              obtain ⟨i1, hi1⟩ : ∃ i1, i1 = i + 1 := ⟨_, rfl⟩
              have h1i : 1 + i = i1 := by omega
              have h1r : 1 + r.length ≤ r.length + 1 := by omega
              rw [← hi1] at hg hge hinv
              have hsi : i1 < r.length + 1 := by omega
              have hsI : (i1 : Int) < (r.length : Int) + 1 := by omega
              have hwi : IntKind.i64.wrap ((i : Int) + 1) = (i1 : Int) := wN (by omega) (by omega)
              generalize r.getD i default = tx at hg hge hmem hsz hdr hinv
              obtain ⟨t, x⟩ := tx
              simp only at hg hge hsz
              simp only [Tryz.ntmps74, Tryz.results74, push_cast, seval, frTs_length, frEs_length, hlt, hwi, hsi, vR_getD, hg, hge, h1i]
              have hstop : moreO j t = none → jf = (j, e) := fun h => by rw [← hinv, tellL, h]
              have hgo : ∀ j', moreO j t = some j' → tellL j' x (r.drop i1) = jf := fun j' h => by rw [← hinv, tellL, h]
              refine GoL_inl2 1 Tryz.func127 rfl (by decide) mo (by decide +kernel) rfl rfl (show 0 ≤ 1 by decide) rfl fun K hK => ?_
              obtain ⟨a1, b1, kp, hab1⟩ := readPair_ok t mkH hsz rfl
              simp only [Tryz.ntmps127, Tryz.results127, push_cast, seval]
              refine GoL_call rfl rfl kp rfl rfl ?_
              cases p1 : pairB t mkH with
              | true =>
                obtain ⟨rfl, rfl⟩ := hab1 p1
                have kt := isTerm_ok (eN1 t)
                simp only [Tryz.ntmps127, Tryz.results127, push_cast, seval]
                refine GoL_call rfl rfl kt rfl rfl ?_
                cases p2 : inR (eN1 t) 0 100000 with
                | false =>
                  simp only [Tryz.ntmps127, Tryz.results127, push_cast, seval]
                  refine hK _ _ _ (Weak.refl _) rfl rfl rfl ?_
                  rw [hstop (by simp [moreO, p1, p2])]
                  simp only [Tryz.ntmps74, Tryz.results74, push_cast, seval, jnC, frEs_length, frTs_length, vR_length, Nat.le_refl, h1r, hwi, hsi, hsI, vR_getD, hge, hel, htk]
                  refine ⟨_, Weak.refl _, ?_⟩
                  simp only [Tryz.ntmps74, Tryz.results74, push_cast, seval, rjX, jnC, htk, hel]
                | true =>
                  by_cases h4 : (4 : Int) < (eN2 t : Int)
                  · simp only [Tryz.ntmps127, Tryz.results127, push_cast, seval, h4]
                    refine hK _ _ _ (Weak.refl _) rfl rfl rfl ?_
                    rw [hstop (by simp [moreO, p1, p2, inR]; omega)]
                    simp only [Tryz.ntmps74, Tryz.results74, push_cast, seval, jnC, frEs_length, frTs_length, vR_length, Nat.le_refl, h1r, hwi, hsi, hsI, vR_getD, hge, hel, htk]
                    refine ⟨_, Weak.refl _, ?_⟩
                    simp only [Tryz.ntmps74, Tryz.results74, push_cast, seval, rjX, jnC, htk, hel]
                  · simp only [Tryz.ntmps127, Tryz.results127, push_cast, seval, h4, jnC]
                    refine hK _ _ _ (Weak.refl _) rfl rfl rfl ?_
                    simp only [Tryz.ntmps74, Tryz.results74, push_cast, seval, jnC, frEs_length, frTs_length, vR_length, Nat.le_refl, h1r, hwi, hsi, hsI, vR_getD, hge, hel, htk]
                    have hm : moreO j t = some ⟨j.number, eN1 t, eN2 t, j.log⟩ := by
                      have : inR (eN2 t) 0 4 = true := inR_spec.2 ⟨by omega, by omega⟩
                      simp [moreO, p1, p2, this]
                    refine ⟨_, ?_, hX ⟨(i1, ⟨j.number, eN1 t, eN2 t, j.log⟩, x), by simp only; omega, hfe, hgo _ hm⟩ (by simp only; omega)⟩
                    exact Weak.same (by simp only [push_cast, seval, jnC])
              | false =>
                have kr := readEntryI_ok t hsz
                have hNP : moreO j t = (if eOk t then (if putB j.log (eN1 t) (entOf t) then some ⟨j.number, j.term, j.vote, putL j.log (eN1 t) (entOf t)⟩ else none) else none) := by simp only [moreO, p1, Bool.false_eq_true, if_false]
                simp only [Tryz.ntmps127, Tryz.results127, push_cast, seval]
                cases q1 : eOk t with
                | false =>
                  rw [eX_false q1] at kr
                  refine GoL_call rfl rfl kr rfl rfl ?_
                  simp only [Tryz.ntmps127, Tryz.results127, push_cast, seval, entC]
                  refine hK _ _ _ (Weak.refl _) rfl rfl rfl ?_
                  rw [hstop (by rw [hNP, q1]; rfl)]
                  simp only [Tryz.ntmps74, Tryz.results74, push_cast, seval, jnC, frEs_length, frTs_length, strs_length, ints_length, Nat.le_refl]
                  refine ⟨_, Weak.refl _, ?_⟩
                  simp only [Tryz.ntmps74, Tryz.results74, push_cast, seval, rjX, jnC, htk, hel]
                | true =>
                  rw [eX_true q1] at kr
                  refine GoL_call rfl rfl kr rfl rfl ?_
                  have kq := logPutI_ok j.log hfe (eN1 t) (entOf t) (Nat.le_trans (eD_size t) hsz)
                  simp only [Tryz.ntmps127, Tryz.results127, push_cast, seval, entC, jnC, htk, hel]
                  cases q2 : putB j.log (eN1 t) (entOf t) with
                  | false =>
                    rw [putX, q2, if_neg Bool.false_ne_true] at kq
                    simp only [entOf, lgC, entC, lgZ] at kq
                    refine GoD_call rfl (by simp only [push_cast, seval, htk, hel]) kq rfl rfl ?_
                    simp only [Tryz.ntmps127, Tryz.results127, push_cast, seval]
                    refine hK _ _ _ (Weak.refl _) rfl rfl rfl ?_
                    rw [hstop (by rw [hNP, q1, q2]; rfl)]
                    simp only [Tryz.ntmps74, Tryz.results74, push_cast, seval, jnC, frEs_length, frTs_length, Nat.le_refl, hel]
                    refine ⟨_, Weak.refl _, ?_⟩
                    simp only [Tryz.ntmps74, Tryz.results74, push_cast, seval, rjX, jnC, htk, hel]
                  | true =>
                    rw [putX, q2, if_pos rfl] at kq
                    have hm : moreO j t = some ⟨j.number, j.term, j.vote, putL j.log (eN1 t) (entOf t)⟩ := by rw [hNP, q1, q2]; rfl
                    have hf2 := fine_more hfe hsz hm
                    generalize putL j.log (eN1 t) (entOf t) = l' at kq hm hf2
                    simp only [entOf, lgC, entC] at kq
                    have hel' := ents_length l'.es
                    refine GoD_call rfl (by simp only [push_cast, seval, htk, hel]) kq (by simp only [push_cast, seval]) rfl ?_
                    simp only [Tryz.ntmps127, Tryz.results127, push_cast, seval]
                    refine hK _ _ _ (Weak.refl _) rfl rfl rfl ?_
                    simp only [Tryz.ntmps74, Tryz.results74, push_cast, seval, jnC, frEs_length, frTs_length, vR_length, Nat.le_refl, h1r, hwi, hsi, hsI, vR_getD, hge, hel, htk, hel']
                    refine ⟨_, ?_, hX ⟨(i1, ⟨j.number, j.term, j.vote, l'⟩, x), by simp only; omega, hf2, hgo _ hm⟩ (by simp only; omega)⟩
                    refine Weak.trans (σ' := ⟨tp 73 [(4, .x (.one (.pt (0, 256) [] 6 0 0))), (8, .x (.one (.rs (0, 1153) [] 1 0 (r.length + 1)))), (12, .x (.one (.pt (0, 768) [] 6 0 0))), (13, .x (i64 x)), (55, .x (.one (.rs (0, 1152) [] 1 1 r.length))), (56, int r.length), (57, int i1)], 0,
                      [((1, 3138), ⟨.sl, 3, vR (ents l'.es)⟩), ((0, 768), ⟨.box, 6, [jnC ⟨j.number, j.term, j.vote, l'⟩ (.rs (1, 3138) [] 3 0 l'.es.length)]⟩), ((0, 1152), ⟨.sl, 1, vR (strs (frTs ((t0, x0) :: r)))⟩), ((0, 1153), ⟨.sl, 1, vR (ints (frEs ((t0, x0) :: r)))⟩),
                        ((0, 256), ⟨.box, 6, [[.v (.int .i64 0), .v (.int .i64 0), .v (.int .i64 0), .v (.int .i64 0), .v (.int .i64 0), .v (.slice none 0 0)]]⟩)], []⟩) (Weak.drop (by simp only [push_cast, seval, jnC, h1r, frTs_length, frEs_length, vR_length]) (by simp only [push_cast, seval, jnC, h1r, frTs_length, frEs_length, vR_length]) (by simp only [push_cast, seval, jnC, h1r, frTs_length, frEs_length, vR_length])) ?_
                    refine Weak.trans (Weak.rename' (1, 3138) (0, 769) (Nat.zero_le _) (Nat.le_refl _) (by decide) rfl) ?_
                    simp only [push_cast, seval, jnC, ren_vR']
                    exact Weak.refl _
            · have hir : i = r.length := by omega
              have hfin : jf = (j, e) := by rw [← hinv, List.drop_eq_nil_of_le (by omega), tellL]
              simp only [Tryz.ntmps74, Tryz.results74, push_cast, seval, hlt, jnC, frEs_length, frTs_length, Nat.le_refl, hel]
              rw [hfin]
              refine ⟨_, Weak.refl _, ?_⟩
              simp only [Tryz.ntmps74, Tryz.results74, push_cast, seval, rjX, jnC, htk, hel]
end Go.Proofs.YthbfmegbnnmepaaGreatDoor

/- Journals: the document's reader. -/
namespace Go.Proofs.YthbfmegbnnmepaaGreatDoor
open Go.RowKit Go.Rx
set_option linter.unusedSimpArgs false
set_option maxRecDepth 100000

end Go.Proofs.YthbfmegbnnmepaaGreatDoor

/- Lists: what several texts rest on. -/
namespace Go.Proofs.YthbfmegbnnmepaaGreatDoor
open Go.RowKit Go.Rx
theorem getD_mem' {α : Type} [Inhabited α] (xs : List α) (i : Nat) (h : i < xs.length) : xs.getD i default ∈ xs := by
  rw [List.getD_eq_getElem?_getD, List.getElem?_eq_getElem h]; exact List.getElem_mem h
theorem drop_cons {α : Type} [Inhabited α] (xs : List α) (i : Nat) (h : i < xs.length) : xs.drop i = xs.getD i default :: xs.drop (i + 1) := by
  rw [List.getD_eq_getElem?_getD, List.getElem?_eq_getElem h]; exact List.drop_eq_getElem_cons h
end Go.Proofs.YthbfmegbnnmepaaGreatDoor

/- Decimal numerals. -/
namespace Go.Proofs.YthbfmegbnnmepaaGreatDoor
open Go.RowKit Go.Rx
set_option linter.unusedSimpArgs false
set_option maxRecDepth 100000

def decB (n : Nat) : ByteArray := ⟨(Lib.decDigits n).toArray⟩
theorem decB_list (n : Nat) : (decB n).data.toList = Lib.decDigits n := by simp [decB]
theorem decB_zero : decB 0 = ⟨#[48]⟩ := by
  refine bytes_ext ?_
  rw [decB_list, Lib.decDigits]; rfl

def isD (b : UInt8) : Bool := decide (48 ≤ b.toNat) && decide (b.toNat ≤ 57)
theorem isD_iff {b : UInt8} : isD b = true ↔ 48 ≤ b.toNat ∧ b.toNat ≤ 57 := by simp [isD]
def dvL (l : List UInt8) : Nat := l.foldl (fun a b => a * 10 + (b.toNat - 48)) 0
theorem dvL_snoc (l : List UInt8) (b : UInt8) : dvL (l ++ [b]) = dvL l * 10 + (b.toNat - 48) := by simp [dvL]
theorem dvL_lt : ∀ (n : Nat) (l : List UInt8), l.length = n → l.all isD = true → dvL l < 10 ^ n
  | 0, l, h, _ => by rw [List.eq_nil_of_length_eq_zero h]; decide
  | n + 1, l, h, hd => by
    obtain ⟨l', b, rfl⟩ : ∃ l' b, l = l' ++ [b] := by
      rcases List.eq_nil_or_concat l with rfl | ⟨l', b, e⟩
      · cases h
      · exact ⟨l', b, by rw [e, List.concat_eq_append]⟩
    rw [List.all_append, Bool.and_eq_true] at hd
    have h1 := dvL_lt n l' (by simpa using h) hd.1
    have h2 : isD b = true := by simpa using hd.2
    rw [isD_iff] at h2
    rw [dvL_snoc, Nat.pow_succ]; omega
theorem ofNat_digit {d : Nat} (h : d < 10) : (UInt8.ofNat (48 + d)).toNat = 48 + d := by
  simp only [UInt8.toNat_ofNat']; omega
theorem dvL_dec (n : Nat) : dvL (Lib.decDigits n) = n ∧ (Lib.decDigits n).all isD = true := by
  induction n using Nat.strongRecOn with
  | _ n ih =>
    rw [Lib.decDigits]
    by_cases h10 : n < 10
    · rw [dif_pos h10]
      have := ofNat_digit h10
      refine ⟨?_, ?_⟩
      · show 0 * 10 + ((UInt8.ofNat (48 + n)).toNat - 48) = n
        rw [this]; omega
      · simp only [List.all_cons, List.all_nil, Bool.and_true]; rw [isD_iff, this]; omega
    · rw [dif_neg h10, dvL_snoc, List.all_append, (ih (n / 10) (by omega)).1, (ih (n / 10) (by omega)).2]
      have := ofNat_digit (show n % 10 < 10 by omega)
      refine ⟨by rw [this]; omega, ?_⟩
      simp only [List.all_cons, List.all_nil, Bool.and_true, Bool.true_and]; rw [isD_iff, this]; omega
def rdN (s : ByteArray) : Nat := dvL s.data.toList
def rdB (s : ByteArray) : Bool := (decide (s.size ≤ 10) && s.data.toList.all isD) && (decide (rdN s ≤ 1000000000) && decide (decB (rdN s) = s))
def rdX (s : ByteArray) : List X := if rdB s then [i64 (rdN s), bo true] else [i64 0, bo false]
theorem rdX_false {s : ByteArray} (h : rdB s = false) : rdX s = [i64 0, bo false] := by simp only [rdX, h, Bool.false_eq_true, if_false]
theorem rdB_spec {s : ByteArray} (h : rdB s = true) : rdN s ≤ 1000000000 ∧ decB (rdN s) = s := by
  simp only [rdB, Bool.and_eq_true, decide_eq_true_eq] at h
  exact h.2
theorem rdN_dec (n : Nat) : rdN (decB n) = n := by rw [rdN, decB_list]; exact (dvL_dec n).1
theorem decDigits_le : ∀ (k n : Nat), n < 10 ^ (k + 1) → (Lib.decDigits n).length ≤ k + 1
  | 0, n, h => by rw [Lib.decDigits, dif_pos (by simpa using h)]; simp
  | k + 1, n, h => by
    rw [Lib.decDigits]
    by_cases h10 : n < 10
    · rw [dif_pos h10]; simp
    · rw [dif_neg h10, List.length_append]
      have := decDigits_le k (n / 10) (by rw [Nat.pow_succ] at h; omega)
      simp only [List.length_cons, List.length_nil]; omega
theorem decB_size (n : Nat) (h : n < 10 ^ 10) : (decB n).size ≤ 10 := by
  have := decDigits_le 9 n h
  rw [ByteArray.size, ← Array.length_toList, decB_list]; exact this
theorem rdB_dec {n : Nat} (h : n ≤ 1000000000) : rdB (decB n) = true := by
  have h1 := decB_size n (by omega)
  have h2 := dvL_dec n
  simp [rdB, rdN_dec, h, h1, decB_list, h2.2]

/-! ### strconv.Itoa -/
theorem itoa_ok (n : Nat) (hn : n ≤ 9223372036854775807) : PureFn Tryz.prog 113 [i64 n] [st (decB n)] := by
  refine PureFn_v (vs := [.int .i64 n]) ⟨_, Tryz.func113, by decide, rfl⟩ fun w h => ?_
  have hv : (Tryz.prog.globalNamed "internal/strconv.uint64pow10").isSome = true := by kernel_rfl
  obtain ⟨v, hv⟩ := Option.isSome_iff_exists.1 hv
  have ht := (h.tab _ _ _ _ (.head _) hv).2
  have := Any.strconv_Itoa laysItoa n (by omega) (by omega) w ht
  rwa [Lib.itoa_nonneg] at this
end Go.Proofs.YthbfmegbnnmepaaGreatDoor

/- Files. -/
namespace Go.Proofs.YthbfmegbnnmepaaGreatDoor
open Go.RowKit Go.Rx
set_option linter.unusedSimpArgs false
set_option maxRecDepth 100000
structure Fil where
  name : ByteArray
  text : ByteArray
  kept : Int
  deriving Inhabited, DecidableEq
def filV (a : Fil) : List Value := [.string a.name, .string a.text, .int .i64 a.kept]
def filC (a : Fil) : List C := [.v (.string a.name), .v (.string a.text), .v (.int .i64 a.kept)]
def fils (l : List Fil) : List (List Value) := l.map filV
theorem fils_length (l : List Fil) : (fils l).length = l.length := by simp [fils]
theorem fils_getD (l : List Fil) {i : Nat} (h : i < l.length) : (fils l).getD i [] = filV (l.getD i default) := by
  simp [fils, List.getD_eq_getElem?_getD, List.getElem?_map, List.getElem?_eq_getElem h]
theorem fils_take (l : List Fil) : List.take l.length (vR (fils l)) = vR (fils l) := List.take_of_length_le (by rw [vR_length, fils_length]; exact Nat.le_refl _)
def Fil.small (a : Fil) : Prop := a.name.size ≤ 140737488355328 ∧ a.text.size ≤ 140737488355328
def filSm (l : List Fil) : Prop := l.length ≤ 140737488355328 ∧ ∀ a ∈ l, a.small
end Go.Proofs.YthbfmegbnnmepaaGreatDoor

/- Decimal numerals: the code. -/
namespace Go.Proofs.YthbfmegbnnmepaaGreatDoor
open Go.RowKit Go.Rx
set_option linter.unusedSimpArgs false
set_option maxRecDepth 100000

theorem decimalI_ok (n : Nat) (hn : n ≤ 9223372036854775807) : PureFn Tryz.prog 62 [i64 n] [st (decB n)] := by
  refine PureFn_of_Go Tryz.func62 rfl (by decide) mo (by decide +kernel) ?_
  simp only [Tryz.ntmps62, Tryz.results62, push_cast, seval]
  refine GoL_call rfl rfl (itoa_ok n hn) rfl rfl ?_
  simp only [Tryz.ntmps62, Tryz.results62, push_cast, seval]
theorem isD_bu {s : ByteArray} (h : s.data.toList.all isD = true) {i : Nat} (hi : i < s.size) : isD (bu s i) = true := by
  have hl : i < s.data.toList.length := by rw [Array.length_toList]; exact hi
  have := List.all_eq_true.1 h (s.data.toList[i]) (List.getElem_mem hl)
  have he : bu s i = s.data.toList[i] := by simp only [bu, List.getD_eq_getElem?_getD, List.getElem?_eq_getElem hl, Option.getD_some]
  rw [he]; exact this
end Go.Proofs.YthbfmegbnnmepaaGreatDoor

/- Numbers read from decimal numerals. -/
namespace Go.Proofs.YthbfmegbnnmepaaGreatDoor
open Go.RowKit Go.Rx
set_option linter.unusedSimpArgs false
set_option maxRecDepth 100000

def dT (s : ByteArray) (i : Nat) : Nat := dvL (seg s 0 i)
theorem dT_zero (s : ByteArray) : dT s 0 = 0 := by rw [dT, seg_zero]; rfl
theorem dT_succ {s : ByteArray} {i : Nat} (h : i < s.size) : dT s (i + 1) = dT s i * 10 + ((bu s i).toNat - 48) := by
  rw [dT, seg_succ (by omega), Nat.zero_add, dvL_snoc]; rfl
theorem dT_all (s : ByteArray) : dT s s.size = rdN s := by rw [dT, seg_all]; rfl
theorem seg_all_isD {s : ByteArray} {i : Nat} (h : i < s.size) : (seg s 0 (i + 1)).all isD = ((seg s 0 i).all isD && isD (bu s i)) := by
  rw [seg_succ (by omega), Nat.zero_add, List.all_append]; simp
theorem dT_lt {s : ByteArray} {i : Nat} (hi : i ≤ s.size) (h : (seg s 0 i).all isD = true) : dT s i < 10 ^ i := dvL_lt i _ (seg_len (by omega)) h
theorem pow10_le {i : Nat} (h : i ≤ 10) : 10 ^ i ≤ 10000000000 := Nat.le_trans (Nat.pow_le_pow_right (by decide) h) (by decide)
theorem rd_bad {s : ByteArray} {i : Nat} (hi : i < s.size) (h : isD (bu s i) = false) : rdX s = [i64 0, bo false] := by
  refine rdX_false ?_
  cases ha : s.data.toList.all isD with
  | false => simp [rdB, ha]
  | true => rw [isD_bu ha hi] at h; cases h
theorem rd_long {s : ByteArray} (h : ¬ s.size ≤ 10) : rdX s = [i64 0, bo false] := rdX_false (by simp [rdB, h])
theorem rd_empty {s : ByteArray} (h : s.size = 0) : rdB s = false := by
  have he : s.data.toList = [] := List.eq_nil_of_length_eq_zero (by rw [Array.length_toList]; exact h)
  have h0 : rdN s = 0 := by rw [rdN, he]; rfl
  have : decB 0 ≠ s := fun e => by rw [← e, decB_zero] at h; cases h
  simp [rdB, h0, this]
theorem isD_no {b : UInt8} (h : (b.toNat : Int) < 48 ∨ (57 : Int) < (b.toNat : Int)) : isD b = false := by
  cases hb : isD b with
  | false => rfl
  | true => rw [isD_iff] at hb; omega
theorem rd_end {s : ByteArray} (h1 : s.size ≤ 10) (h : (seg s 0 s.size).all isD = true) : rdB s = (decide (rdN s ≤ 1000000000) && decide (decB (rdN s) = s)) := by
  rw [seg_all] at h
  simp [rdB, h1, h]

theorem readDecI_ok (s : ByteArray) (hs : s.size ≤ 140737488355328) : PureFn Tryz.prog 116 [st s] (rdX s) := by
  refine PureFn_of_Go Tryz.func116 rfl (by decide) mo (by decide +kernel) ?_
  by_cases h0 : s.size = 0
  · rw [rdX_false (rd_empty h0)]
    have h0' : ((s.size : Nat) : Int) = 0 := by omega
    simp only [Tryz.ntmps116, Tryz.results116, push_cast, seval, h0']
  have h0' : ¬ ((s.size : Nat) : Int) = 0 := by omega
  by_cases h10 : (10 : Int) < (s.size : Int)
  · rw [rd_long (by omega)]
    simp only [Tryz.ntmps116, Tryz.results116, push_cast, seval, h0', h10]
  have h10n : s.size ≤ 10 := by omega
  simp only [Tryz.ntmps116, Tryz.results116, push_cast, seval, h0', h10]
  refine Go_loop (α := {i : Nat // i ≤ s.size ∧ (seg s 0 i).all isD = true}) (fun i => ⟨tp 47 [(0, .x (st s)), (4, int (dT s i.1)), (5, int i.1)], 0, [], []⟩) (fun i => s.size - i.1) ⟨0, Nat.zero_le _, by rw [seg_zero]; rfl⟩ ?_ ?_
  · exact Weak.same (by simp only [push_cast, seval, dT_zero, Int.ofNat_zero])
  · rintro ⟨i, hi, hd⟩ X hX
    simp only
    have hlt9 := dT_lt hi hd
    have hp := pow10_le (Nat.le_trans hi h10n)
    by_cases hlt : (i : Int) < (s.size : Int)
    · have hi' : i < s.size := by omega
      have hb := bu_get hi'
      have hu := u8_lt (bu s i)
      have hws : IntKind.i64.wrap ((i : Int) + 1) = ((i + 1 : Nat) : Int) := wN (by omega) (by omega)
      have hds := dT_succ hi'
      have hal := seg_all_isD hi'
      rw [hd, Bool.true_and] at hal
      obtain ⟨i', hi1⟩ : ∃ i', i' = i + 1 := ⟨_, rfl⟩
      rw [← hi1] at hws hds hal
      by_cases c1 : ((bu s i).toNat : Int) < 48
      · rw [rd_bad hi' (isD_no (.inl c1))]
        simp only [Tryz.ntmps116, Tryz.results116, push_cast, seval, hlt, hb, c1]
      by_cases c2 : (57 : Int) < ((bu s i).toNat : Int)
      · rw [rd_bad hi' (isD_no (.inr c2))]
        simp only [Tryz.ntmps116, Tryz.results116, push_cast, seval, hlt, hb, c1, c2]
      have hal : (seg s 0 i').all isD = true := by rw [hal, isD_iff]; omega
      obtain ⟨b, hbn⟩ : ∃ b, b = (bu s i).toNat := ⟨_, rfl⟩
      rw [← hbn] at c1 c2 hds
      obtain ⟨z, hz⟩ : ∃ z, z = dT s i := ⟨_, rfl⟩
      rw [← hz] at hds hlt9
      rw [← hz]
      have w1 : IntKind.i64.wrap ((z : Int) * 10) = ((z * 10 : Nat) : Int) := wN (by omega) (by omega)
      have w2 : IntKind.u8.wrap ((b : Int) - 48) = ((b - 48 : Nat) : Int) := by rw [IntKind.wrap_u8]; omega
      have w3 : IntKind.i64.wrap ((b - 48 : Nat) : Int) = ((b - 48 : Nat) : Int) := wN rfl (by omega)
      obtain ⟨z10, hz10⟩ : ∃ z10, z10 = z * 10 := ⟨_, rfl⟩
      obtain ⟨b48, hb48⟩ : ∃ b48, b48 = b - 48 := ⟨_, rfl⟩
      obtain ⟨z', hz'⟩ : ∃ z', z' = dT s i' := ⟨_, rfl⟩
      rw [← hz10, ← hb48, ← hz'] at hds
      rw [← hz10] at w1
      rw [← hb48] at w2 w3
      have w4 : IntKind.i64.wrap ((z10 : Int) + (b48 : Int)) = (z' : Int) := wN (by omega) (by omega)
      simp only [push_cast, seval, hlt, hb, ← hbn, c1, c2, w1, w2, w3, w4, hws]
      refine ⟨_, ?_, hX ⟨i', by omega, hal⟩ (by simp only; omega)⟩
      simp only [← hz']
      exact Weak.same (by simp only [push_cast, seval])
    · obtain rfl : i = s.size := by omega
      have he := rd_end h10n hd
      rw [dT_all] at hlt9 ⊢
      obtain ⟨z, hz⟩ : ∃ z, z = rdN s := ⟨_, rfl⟩
      have hX2 : rdX s = if rdB s then [i64 z, bo true] else [i64 0, bo false] := by rw [hz]; rfl
      rw [hX2, he]
      rw [← hz] at hlt9 ⊢
      by_cases c3 : (1000000000 : Int) < (z : Int)
      · rw [if_neg (by simp; omega)]
        simp only [Tryz.ntmps116, Tryz.results116, push_cast, seval, hlt, c3]
      · have c4 : z ≤ 1000000000 := by omega
        have kd := decimalI_ok z (by omega)
        simp only [Tryz.ntmps116, Tryz.results116, push_cast, seval, hlt, c3]
        refine GoL_call rfl rfl kd rfl rfl ?_
        by_cases c5 : decB z = s
        · simp only [Tryz.ntmps116, Tryz.results116, push_cast, seval, c5, c4]
        · simp only [Tryz.ntmps116, Tryz.results116, push_cast, seval, c5, c4]
end Go.Proofs.YthbfmegbnnmepaaGreatDoor

/- Names with numbers; right disks. -/
namespace Go.Proofs.YthbfmegbnnmepaaGreatDoor
open Go.RowKit Go.Rx
set_option linter.unusedSimpArgs false
set_option maxRecDepth 100000

/-! ### a mark cut off -/
/-! ### names: a letter and a number -/
def ltr1 (b : UInt8) : ByteArray := ⟨#[b]⟩
def nmR (c : UInt8) (s : ByteArray) : ByteArray := if preB s (ltr1 c) then s.extract 1 s.size else s
def nmB (c : UInt8) (M : Int) (s : ByteArray) : Bool := (preB s (ltr1 c) && rdB (nmR c s)) && inR (rdN (nmR c s)) 0 M
def nmN (c : UInt8) (s : ByteArray) : Nat := rdN (nmR c s)
def nmT (c : UInt8) (n : Nat) : ByteArray := ltr1 c ++ decB n
theorem pre_iff {c : UInt8} {s : ByteArray} : preB s (ltr1 c) = true ↔ 1 ≤ s.size ∧ s.extract 0 1 = ltr1 c := by
  have h1 : (ltr1 c).size = 1 := rfl
  simp only [preB, h1, Bool.and_eq_true, decide_eq_true_eq]
  constructor
  · rintro ⟨a, b⟩; exact ⟨by omega, b⟩
  · rintro ⟨a, b⟩; exact ⟨by omega, b⟩
theorem cut_app (s : ByteArray) (h : 1 ≤ s.size) : s.extract 0 1 ++ s.extract 1 s.size = s := by
  refine bytes_ext ?_
  rw [app_list, extract_list, extract_list, ← seg_append, show 1 - 0 + (s.size - 1) = s.size by omega, seg_all]
theorem app_cut (c : UInt8) (t : ByteArray) : preB (ltr1 c ++ t) (ltr1 c) = true ∧ (ltr1 c ++ t).extract 1 (ltr1 c ++ t).size = t := by
  have hs : (ltr1 c ++ t).size = 1 + t.size := by rw [ByteArray.size_append]; rfl
  have h0 : (ltr1 c ++ t).extract 0 1 = ltr1 c := by
    refine bytes_ext ?_
    rw [extract_list, seg, app_list]
    rfl
  refine ⟨pre_iff.2 ⟨by omega, h0⟩, ?_⟩
  refine bytes_ext ?_
  rw [extract_list, seg, app_list, hs]
  show ((c :: t.data.toList).drop 1).take _ = _
  rw [List.drop_succ_cons, List.drop_zero]
  exact List.take_of_length_le (by rw [Array.length_toList]; show t.size ≤ _; omega)
theorem nm_spec {c : UInt8} {M : Int} {s : ByteArray} (h : nmB c M s = true) : s = nmT c (nmN c s) ∧ (nmN c s : Int) ≤ M ∧ nmN c s ≤ 1000000000 := by
  simp only [nmB, Bool.and_eq_true] at h
  obtain ⟨⟨h1, h2⟩, h3⟩ := h
  obtain ⟨h4, h5⟩ := rdB_spec h2
  refine ⟨?_, (inR_spec.1 h3).2, h4⟩
  have h6 := pre_iff.1 h1
  have hr : nmR c s = s.extract 1 s.size := by unfold nmR; rw [if_pos h1]
  unfold nmT nmN
  rw [h5, hr, ← h6.2, cut_app s h6.1]
theorem nm_of {c : UInt8} {M : Int} {n : Nat} (h1 : (n : Int) ≤ M) (h2 : n ≤ 1000000000) : nmB c M (nmT c n) = true ∧ nmN c (nmT c n) = n := by
  obtain ⟨k1, k2⟩ := app_cut c (decB n)
  have hr : nmR c (nmT c n) = decB n := by unfold nmR nmT; rw [if_pos k1, k2]
  refine ⟨?_, by unfold nmN; rw [hr, rdN_dec]⟩
  simp only [nmB, Bool.and_eq_true]
  refine ⟨⟨k1, by rw [hr]; exact rdB_dec h2⟩, ?_⟩
  rw [hr, rdN_dec]
  exact inR_spec.2 ⟨by omega, h1⟩
theorem nmR_size (c : UInt8) (s : ByteArray) : (nmR c s).size ≤ s.size := by
  unfold nmR; split
  · exact extract_size _ _ _
  · exact Nat.le_refl _
theorem rdX_eq (s : ByteArray) : rdX s = [i64 (if rdB s then (rdN s : Int) else 0), bo (rdB s)] := by
  unfold rdX; split <;> simp_all

theorem snapNameI_ok (n : Nat) (hn : n ≤ 1000000) : PureFn Tryz.prog 20 [i64 n] [st (nmT 115 n)] := by
  refine PureFn_of_Go Tryz.func20 rfl (by decide) mo (by decide +kernel) ?_
  have k1 := isIndex_ok n
  rw [inR_spec.2 ⟨by omega, by omega⟩] at k1
  have hs := decB_size n (by omega)
  have hr : (ltr1 115).size + (decB n).size ≤ 9223372036854775807 := by have : (ltr1 115).size = 1 := rfl; omega
  unfold nmT
  have hc : (⟨#[115]⟩ : ByteArray) = ltr1 115 := rfl
  simp only [Tryz.ntmps20, Tryz.results20, push_cast, seval]
  refine GoL_call rfl rfl k1 rfl rfl ?_
  simp only [Tryz.ntmps20, Tryz.results20, push_cast, seval]
  refine GoL_call rfl rfl (decimalI_ok n (by omega)) rfl rfl ?_
  simp only [Tryz.ntmps20, Tryz.results20, push_cast, seval, hc, hr]
theorem snapIndexI_ok (s : ByteArray) (hs : s.size ≤ 140737488355328) : ∃ x : Int, (nmB 115 1000000 s = true → x = (nmN 115 s : Int)) ∧ PureFn Tryz.prog 64 [st s] [i64 x, bo (nmB 115 1000000 s)] := by
  refine ⟨if rdB (nmR 115 s) then (rdN (nmR 115 s) : Int) else 0, fun h => ?_, ?_⟩
  · simp only [nmB, Bool.and_eq_true] at h
    rw [if_pos h.1.2]; rfl
  refine PureFn_of_Go Tryz.func64 rfl (by decide) mo (by decide +kernel) ?_
  have k1 := cutPrefix_ok s (ltr1 115)
  rw [show (if preB s (ltr1 115) then s.extract (ltr1 115).size s.size else s) = nmR 115 s from rfl] at k1
  have k2 := readDecI_ok (nmR 115 s) (Nat.le_trans (nmR_size _ _) hs)
  rw [rdX_eq] at k2
  have hc : (⟨#[115]⟩ : ByteArray) = ltr1 115 := rfl
  unfold nmB
  simp only [Tryz.ntmps64, Tryz.results64, push_cast, seval, hc]
  refine GoL_call rfl rfl k1 rfl rfl ?_
  simp only [Tryz.ntmps64, Tryz.results64, push_cast, seval]
  refine GoL_call rfl rfl k2 rfl rfl ?_
  cases c1 : preB s (ltr1 115) with
  | false => simp only [Tryz.ntmps64, Tryz.results64, push_cast, seval, Bool.false_eq_true]
  | true =>
    cases c2 : rdB (nmR 115 s) with
    | false => simp only [Tryz.ntmps64, Tryz.results64, push_cast, seval, Bool.false_eq_true]
    | true =>
      have k3 := isIndex_ok (rdN (nmR 115 s))
      simp only [Tryz.ntmps64, Tryz.results64, push_cast, seval]
      refine GoL_call rfl rfl k3 rfl rfl ?_
      simp only [Tryz.ntmps64, Tryz.results64, push_cast, seval]
end Go.Proofs.YthbfmegbnnmepaaGreatDoor

/- Acts. -/
namespace Go.Proofs.YthbfmegbnnmepaaGreatDoor
open Go.RowKit Go.Rx
set_option linter.unusedSimpArgs false
set_option maxRecDepth 100000
structure Acd where
  kind : Int
  name : ByteArray
  text : ByteArray
  to : ByteArray
  deriving Inhabited, DecidableEq
def acdV (a : Acd) : List Value := [.int .i64 a.kind, .string a.name, .string a.text, .string a.to]
def acdC (a : Acd) : List C := [.v (.int .i64 a.kind), .v (.string a.name), .v (.string a.text), .v (.string a.to)]
def acds (l : List Acd) : List (List Value) := l.map acdV
theorem acds_length (l : List Acd) : (acds l).length = l.length := by simp [acds]
theorem acds_take (l : List Acd) : List.take l.length (vR (acds l)) = vR (acds l) := List.take_of_length_le (by rw [vR_length, acds_length]; exact Nat.le_refl _)
theorem acds_snoc (l : List Acd) (a : Acd) : vR (acds l) ++ [acdC a] = vR (acds (l ++ [a])) := by simp [vR, acds, acdV, acdC]
end Go.Proofs.YthbfmegbnnmepaaGreatDoor
