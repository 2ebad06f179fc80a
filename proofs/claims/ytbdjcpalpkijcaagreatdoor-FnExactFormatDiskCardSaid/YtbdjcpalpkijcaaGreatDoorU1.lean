/- Texts W1 W2 W3 W4 W5 W6 W7 W8 W9 W10 W11 W13 W14 W15 W16 W17 W18 W19 W20 J1 J2 J3 J4 J5 J6 J7 X1 K1 D1 K2 K3 K4 D2 K5 B1 O1 O2 O3, merged. -/
import Derived.Test.YtbdjcpalpkijcaaGreatDoorTy
import Derived.Test.YtbdjcpalpkijcaaGreatDoorRxIV
import Derived.Test.YtbdjcpalpkijcaaGreatDoorSh
import Derived.BigRegion
/- Words and sums: what these functions return, by their code. -/
namespace Go.Proofs.YtbdjcpalpkijcaaGreatDoor
open Go.RowKit Go.Rx
set_option linter.unusedSimpArgs false
set_option maxRecDepth 100000
abbrev i64 (n : Int) : X := .one (.v (.int .i64 n))
abbrev bo (b : Bool) : X := .one (.v (.bool b))
abbrev st (s : ByteArray) : X := .one (.v (.string s))
abbrev u32 (n : Nat) : X := .one (.v (.int .u32 n))
abbrev bad : V := .x (.one .bad)
theorem mo : Tryz.prog.follows .mixedOrders = true := by kernel_rfl

theorem inRange_ok (n a b : Int) : PureFn Tryz.prog 58 [i64 n, i64 a, i64 b] [bo (decide (a ≤ n) && decide (n ≤ b))] := by
  refine PureFn_of_Go Tryz.func58 rfl (by decide) mo (by decide +kernel) ?_
  simp only [Tryz.ntmps58, Tryz.results58, push_cast, seval]
  by_cases h : a ≤ n
  · simp [h, push_cast, resOk, Tryz.results58]
  · simp [h, push_cast, resOk, Tryz.results58]
theorem l01In_ok (n a b : Int) : PureFn Tryz.prog 33 [i64 n, i64 a, i64 b] [bo (decide (a ≤ n) && decide (n ≤ b))] := by
  refine PureFn_of_Go Tryz.func33 rfl (by decide) mo (by decide +kernel) ?_
  simp only [Tryz.ntmps33, Tryz.results33, push_cast, seval]
  by_cases h : a ≤ n
  · simp [h, push_cast, resOk, Tryz.results33]
  · simp [h, push_cast, resOk, Tryz.results33]

/-! ### sums -/
def crcBit (x : Nat) : Nat := if x % 2 = 1 then (x / 2) ^^^ 3558460437 else x / 2
def crcBits (x : Nat) : Nat → Nat
  | 0 => x
  | k + 1 => crcBit (crcBits x k)
def crcTo (s : ByteArray) (x : Nat) : Nat → Nat
  | 0 => x
  | i + 1 => crcBits (crcTo s x i ^^^ (bu s i).toNat) 8
theorem crcBit_lt {x : Nat} (h : x < 4294967296) : crcBit x < 4294967296 := by
  unfold crcBit
  split
  · exact Nat.xor_lt_two_pow (n := 32) (by omega) (by omega)
  · omega
theorem crcBits_lt {x : Nat} (h : x < 4294967296) (k : Nat) : crcBits x k < 4294967296 := by
  induction k with
  | zero => exact h
  | succ k ih => exact crcBit_lt ih
theorem u8_lt (b : UInt8) : b.toNat < 256 := by have := b.toNat_lt; omega
theorem crcTo_lt {s : ByteArray} {x : Nat} (h : x < 4294967296) (i : Nat) : crcTo s x i < 4294967296 := by
  induction i with
  | zero => exact h
  | succ i ih =>
    have := u8_lt (bu s i)
    exact crcBits_lt (Nat.xor_lt_two_pow (n := 32) (by omega) (by omega)) 8

theorem sumMoreI_ok (x : Nat) (hx : x < 4294967296) (s : ByteArray) (hs : s.size ≤ 140737488355328) : PureFn Tryz.prog 144 [u32 x, st s] [u32 (crcTo s x s.size)] := by
  refine PureFn_of_Go Tryz.func144 rfl (by decide) mo (by decide +kernel) ?_
  simp only [Tryz.ntmps144, Tryz.results144, push_cast, seval]
  refine Go_loop (α := {i : Nat // i ≤ s.size}) (fun i => ⟨tp 31 [(0, .x (u32 (crcTo s x i.1))), (1, .x (st s)), (5, int i.1)], 0, [], []⟩) (fun i => s.size - i.1) ⟨0, Nat.zero_le _⟩ ?_ ?_
  · exact Weak.same (by simp only [push_cast, seval, crcTo, Int.ofNat_zero])
  · rintro ⟨i, hi⟩ X hX
    by_cases hlt : (i : Int) < (s.size : Int)
    · have hi' : i < s.size := by omega
      have hb := bu_get hi'
      have hc := crcTo_lt (s := s) hx i
      have hu := u8_lt (bu s i)
      have hw : IntKind.u32.wrap ((bu s i).toNat : Int) = ((bu s i).toNat : Int) := w32 rfl (by omega)
      have hx1 := xor32 hc (show (bu s i).toNat < 4294967296 by omega)
      obtain ⟨y, hy⟩ : ∃ y, y = crcTo s x i ^^^ (bu s i).toNat := ⟨_, rfl⟩
      rw [← hy] at hx1
      have hyl : y < 4294967296 := by rw [hy]; exact Nat.xor_lt_two_pow (n := 32) (by omega) (by omega)
      simp only [push_cast, seval, hlt, hb, hw, hx1]
      refine Go_loop (α := {k : Nat // k ≤ 8}) (fun k => ⟨tp 31 [(0, .x (u32 (crcBits y k.1))), (1, .x (st s)), (5, int i), (19, int k.1)], 0, [], []⟩) (fun k => 8 - k.1) ⟨0, Nat.zero_le _⟩ ?_ ?_
      · exact Weak.same (by simp only [push_cast, seval, crcBits, Int.ofNat_zero])
      · rintro ⟨k, hk⟩ X2 hX2
        by_cases hk8 : (k : Int) < 8
        · have hz := crcBits_lt hyl k
          have hstep : crcBits y (k + 1) = crcBit (crcBits y k) := rfl
          obtain ⟨z, hz'⟩ : ∃ z, z = crcBits y k := ⟨_, rfl⟩
          rw [← hz'] at hz hstep ⊢
          have hand := and32 (b := 1) hz (by omega)
          have hand2 : ((z &&& 1 : Nat) : Int) = ((z % 2 : Nat) : Int) := by rw [show (1 : Nat) = 2 ^ 1 - 1 from rfl, Nat.and_two_pow_sub_one_eq_mod]
          rw [hand2, show ((1 : Nat) : Int) = 1 from rfl] at hand
          have hshr := shr32 z 1 (by omega)
          rw [show ((1 : Nat) : Int) = 1 from rfl, Nat.pow_one] at hshr
          have hwk : IntKind.i64.wrap ((k : Int) + 1) = ((k + 1 : Nat) : Int) := wN (by omega) (by omega)
          obtain ⟨k', hk'⟩ : ∃ k', k' = k + 1 := ⟨_, rfl⟩
          obtain ⟨h2, hh2⟩ : ∃ h2, h2 = z / 2 := ⟨_, rfl⟩
          rw [← hh2] at hshr
          rw [← hk'] at hwk hstep
          rcases Nat.mod_two_eq_zero_or_one z with e | e
          · rw [e, show ((0 : Nat) : Int) = 0 from rfl] at hand
            have hfin : crcBits y k' = h2 := by rw [hstep, crcBit, if_neg (by omega), hh2]
            simp only [push_cast, seval, hk8, hand, hshr, hwk]
            refine ⟨_, ?_, hX2 ⟨k', by omega⟩ (by simp only; omega)⟩
            exact Weak.same (by simp only [push_cast, seval, hfin])
          · rw [e, show ((1 : Nat) : Int) = 1 from rfl] at hand
            have hx2 := xor32 (a := h2) (b := 3558460437) (by omega) (by omega)
            rw [show ((3558460437 : Nat) : Int) = 3558460437 from rfl] at hx2
            have hfin : crcBits y k' = h2 ^^^ 3558460437 := by rw [hstep, crcBit, if_pos e, hh2]
            rw [← hfin] at hx2
            simp only [push_cast, seval, hk8, hand, hshr, hwk, hx2]
            refine ⟨_, ?_, hX2 ⟨k', by omega⟩ (by simp only; omega)⟩
            exact Weak.same (by simp only [push_cast, seval])
        · have hke : k = 8 := by omega
          have hwi : IntKind.i64.wrap ((i : Int) + 1) = ((i + 1 : Nat) : Int) := wN (by omega) (by omega)
          have hfin : crcTo s x (i + 1) = crcBits y k := by rw [hy, hke]; rfl
          obtain ⟨i', hi1⟩ : ∃ i', i' = i + 1 := ⟨_, rfl⟩
          rw [← hi1] at hwi hfin
          simp only [push_cast, seval, hk8, hwi]
          refine ⟨_, ?_, hX ⟨i', by omega⟩ (by simp only; omega)⟩
          exact Weak.same (by simp only [push_cast, seval, hfin])
    · obtain rfl : i = s.size := by omega
      simp only [Tryz.ntmps144, Tryz.results144, push_cast, seval, hlt]

theorem sumMoreS_ok (x : Nat) (hx : x < 4294967296) (s : ByteArray) (hs : s.size ≤ 140737488355328) : PureFn Tryz.prog 92 [u32 x, st s] [u32 (crcTo s x s.size)] := by
  refine PureFn_of_Go Tryz.func92 rfl (by decide) mo (by decide +kernel) ?_
  simp only [Tryz.ntmps92, Tryz.results92, push_cast, seval]
  refine Go_loop (α := {i : Nat // i ≤ s.size}) (fun i => ⟨tp 33 [(0, .x (u32 (crcTo s x i.1))), (1, .x (st s)), (5, int i.1)], 0, [], []⟩) (fun i => s.size - i.1) ⟨0, Nat.zero_le _⟩ ?_ ?_
  · exact Weak.same (by simp only [push_cast, seval, crcTo, Int.ofNat_zero])
  · rintro ⟨i, hi⟩ X hX
    by_cases hlt : (i : Int) < (s.size : Int)
    · have hi' : i < s.size := by omega
      have hb := bu_get hi'
      have hc := crcTo_lt (s := s) hx i
      have hu := u8_lt (bu s i)
      have hw : IntKind.u32.wrap ((bu s i).toNat : Int) = ((bu s i).toNat : Int) := w32 rfl (by omega)
      have hx1 := xor32 hc (show (bu s i).toNat < 4294967296 by omega)
      obtain ⟨y, hy⟩ : ∃ y, y = crcTo s x i ^^^ (bu s i).toNat := ⟨_, rfl⟩
      rw [← hy] at hx1
      have hyl : y < 4294967296 := by rw [hy]; exact Nat.xor_lt_two_pow (n := 32) (by omega) (by omega)
      simp only [push_cast, seval, hlt, hb, hw, hx1]
      refine Go_loop (α := {k : Nat // k ≤ 8}) (fun k => ⟨tp 33 [(0, .x (u32 (crcBits y k.1))), (1, .x (st s)), (5, int i), (6, int k.1)], 0, [], []⟩) (fun k => 8 - k.1) ⟨0, Nat.zero_le _⟩ ?_ ?_
      · exact Weak.same (by simp only [push_cast, seval, crcBits, Int.ofNat_zero])
      · rintro ⟨k, hk⟩ X2 hX2
        by_cases hk8 : (k : Int) < 8
        · have hz := crcBits_lt hyl k
          have hstep : crcBits y (k + 1) = crcBit (crcBits y k) := rfl
          obtain ⟨z, hz'⟩ : ∃ z, z = crcBits y k := ⟨_, rfl⟩
          rw [← hz'] at hz hstep ⊢
          have hrem := tmodN z 2
          rw [show ((2 : Nat) : Int) = 2 from rfl] at hrem
          have hwk : IntKind.i64.wrap ((k : Int) + 1) = ((k + 1 : Nat) : Int) := wN (by omega) (by omega)
          obtain ⟨k', hk'⟩ : ∃ k', k' = k + 1 := ⟨_, rfl⟩
          obtain ⟨h2, hh2⟩ : ∃ h2, h2 = z / 2 := ⟨_, rfl⟩
          have hq := tdivN z 2
          rw [show ((2 : Nat) : Int) = 2 from rfl, ← hh2] at hq
          have hwq : IntKind.u32.wrap ((z : Int).tdiv 2) = (h2 : Int) := by rw [hq]; exact w32 rfl (by omega)
          rw [← hk'] at hwk hstep
          rcases Nat.mod_two_eq_zero_or_one z with e | e
          · rw [e, show ((0 : Nat) : Int) = 0 from rfl] at hrem
            have hfin : crcBits y k' = h2 := by rw [hstep, crcBit, if_neg (by omega), hh2]
            simp only [push_cast, seval, hk8, hrem, hwq, hwk]
            refine ⟨_, ?_, hX2 ⟨k', by omega⟩ (by simp only; omega)⟩
            exact Weak.same (by simp only [push_cast, seval, hfin])
          · rw [e, show ((1 : Nat) : Int) = 1 from rfl] at hrem
            have hx2 := xor32 (a := h2) (b := 3558460437) (by omega) (by omega)
            rw [show ((3558460437 : Nat) : Int) = 3558460437 from rfl] at hx2
            have hfin : crcBits y k' = h2 ^^^ 3558460437 := by rw [hstep, crcBit, if_pos e, hh2]
            rw [← hfin] at hx2
            simp only [push_cast, seval, hk8, hrem, hwq, hwk, hx2]
            refine ⟨_, ?_, hX2 ⟨k', by omega⟩ (by simp only; omega)⟩
            exact Weak.same (by simp only [push_cast, seval])
        · have hke : k = 8 := by omega
          have hwi : IntKind.i64.wrap ((i : Int) + 1) = ((i + 1 : Nat) : Int) := wN (by omega) (by omega)
          have hfin : crcTo s x (i + 1) = crcBits y k := by rw [hy, hke]; rfl
          obtain ⟨i', hi1⟩ : ∃ i', i' = i + 1 := ⟨_, rfl⟩
          rw [← hi1] at hwi hfin
          simp only [push_cast, seval, hk8, hwi]
          refine ⟨_, ?_, hX ⟨i', by omega⟩ (by simp only; omega)⟩
          exact Weak.same (by simp only [push_cast, seval, hfin])
    · obtain rfl : i = s.size := by omega
      simp only [Tryz.ntmps92, Tryz.results92, push_cast, seval, hlt]

def sumN (s : ByteArray) : Nat := crcTo s 4294967295 s.size
theorem sumN_lt (s : ByteArray) : sumN s < 4294967296 := crcTo_lt (by omega) _
theorem sumOfI_ok (s : ByteArray) (hs : s.size ≤ 140737488355328) : PureFn Tryz.prog 114 [st s] [u32 (sumN s)] := by
  refine PureFn_of_Go Tryz.func114 rfl (by decide) mo (by decide +kernel) ?_
  simp only [Tryz.ntmps114, Tryz.results114, push_cast, seval]
  refine GoL_call rfl rfl (sumMoreI_ok 4294967295 (by omega) s hs) rfl rfl ?_
  simp only [Tryz.ntmps114, Tryz.results114, push_cast, seval, sumN]
theorem sumOfS_ok (s : ByteArray) (hs : s.size ≤ 140737488355328) : PureFn Tryz.prog 64 [st s] [u32 (sumN s)] := by
  refine PureFn_of_Go Tryz.func64 rfl (by decide) mo (by decide +kernel) ?_
  simp only [Tryz.ntmps64, Tryz.results64, push_cast, seval]
  refine GoL_call rfl rfl (sumMoreS_ok 4294967295 (by omega) s hs) rfl rfl ?_
  simp only [Tryz.ntmps64, Tryz.results64, push_cast, seval, sumN]
def four (x : Nat) : ByteArray := ⟨[UInt8.ofNat (x / 2 ^ 24), UInt8.ofNat (x / 2 ^ 16), UInt8.ofNat (x / 2 ^ 8), UInt8.ofNat x].toArray⟩
theorem four_size (x : Nat) : (four x).size = 4 := rfl
theorem l02Four_ok (x : Nat) : PureFn Tryz.prog 63 [u32 x] [st (four x)] := by
  refine PureFn_of_Go Tryz.func63 rfl (by decide) mo (by decide +kernel) ?_
  have h1 := shr32 x 24 (by omega)
  have h2 := shr32 x 16 (by omega)
  have h3 := shr32 x 8 (by omega)
  rw [show ((24 : Nat) : Int) = 24 from rfl] at h1
  rw [show ((16 : Nat) : Int) = 16 from rfl] at h2
  rw [show ((8 : Nat) : Int) = 8 from rfl] at h3
  have w0 := wu8 (n := x)
  have w1 := wu8 (n := x / 2 ^ 24)
  have w2 := wu8 (n := x / 2 ^ 16)
  have w3 := wu8 (n := x / 2 ^ 8)
  have hf := str_natsOf [UInt8.ofNat (x / 2 ^ 24), UInt8.ofNat (x / 2 ^ 16), UInt8.ofNat (x / 2 ^ 8), UInt8.ofNat x]
  change _ = four x at hf
  generalize x / 2 ^ 24 = a1 at h1 w1 hf
  generalize x / 2 ^ 16 = a2 at h2 w2 hf
  generalize x / 2 ^ 8 = a3 at h3 w3 hf
  generalize UInt8.ofNat a1 = b1 at w1 hf
  generalize UInt8.ofNat a2 = b2 at w2 hf
  generalize UInt8.ofNat a3 = b3 at w3 hf
  generalize UInt8.ofNat x = b0 at w0 hf
  simp only [natsOf, List.map_cons, List.map_nil] at hf
  simp only [Tryz.ntmps63, Tryz.results63, push_cast, seval, h1, h2, h3, w0, w1, w2, w3, hf]
theorem sumText_ok (s : ByteArray) (hs : s.size ≤ 140737488355328) : PureFn Tryz.prog 85 [st s] [st (four (sumN s))] := by
  refine PureFn_of_Go Tryz.func85 rfl (by decide) mo (by decide +kernel) ?_
  simp only [Tryz.ntmps85, Tryz.results85, push_cast, seval]
  refine GoL_call rfl rfl (sumOfI_ok s hs) rfl rfl ?_
  generalize sumN s = x
  have h1 := shr32 x 24 (by omega)
  have h2 := shr32 x 16 (by omega)
  have h3 := shr32 x 8 (by omega)
  rw [show ((24 : Nat) : Int) = 24 from rfl] at h1
  rw [show ((16 : Nat) : Int) = 16 from rfl] at h2
  rw [show ((8 : Nat) : Int) = 8 from rfl] at h3
  have w0 := wu8 (n := x)
  have w1 := wu8 (n := x / 2 ^ 24)
  have w2 := wu8 (n := x / 2 ^ 16)
  have w3 := wu8 (n := x / 2 ^ 8)
  have hf := str_natsOf [UInt8.ofNat (x / 2 ^ 24), UInt8.ofNat (x / 2 ^ 16), UInt8.ofNat (x / 2 ^ 8), UInt8.ofNat x]
  change _ = four x at hf
  generalize x / 2 ^ 24 = a1 at h1 w1 hf
  generalize x / 2 ^ 16 = a2 at h2 w2 hf
  generalize x / 2 ^ 8 = a3 at h3 w3 hf
  generalize UInt8.ofNat a1 = b1 at w1 hf
  generalize UInt8.ofNat a2 = b2 at w2 hf
  generalize UInt8.ofNat a3 = b3 at w3 hf
  generalize UInt8.ofNat x = b0 at w0 hf
  simp only [natsOf, List.map_cons, List.map_nil] at hf
  simp only [Tryz.ntmps85, Tryz.results85, push_cast, seval, h1, h2, h3, w0, w1, w2, w3, hf]

/-! ### numbers in bytes -/
def varL (n : Nat) : List UInt8 := if n ≤ 127 then [UInt8.ofNat n] else UInt8.ofNat (128 + n % 128) :: varL (n / 128)
termination_by n
decreasing_by omega
def varB (n : Nat) : ByteArray := ⟨(varL n).toArray⟩
theorem varL_small {n : Nat} (h : n ≤ 127) : varL n = [UInt8.ofNat n] := by rw [varL, if_pos h]
theorem varL_big {n : Nat} (h : ¬ n ≤ 127) : varL n = UInt8.ofNat (128 + n % 128) :: varL (n / 128) := by rw [varL, if_neg h]

theorem varText_ok (n : Nat) (hn : n ≤ 4294967290) : PureFn Tryz.prog 41 [i64 n] [st (varB n)] := by
  refine PureFn_of_Go Tryz.func41 rfl (by decide) mo (by decide +kernel) ?_
  simp only [Tryz.ntmps41, Tryz.results41, push_cast, seval]
  refine Go_loop (α := {p : List UInt8 × Nat // p.1 ++ varL p.2 = varL n ∧ p.1.length + p.2 ≤ n}) (fun p => ⟨tp 21 [(0, int p.1.2), (3, .x (.one (.rs (0, 768) [] 1 0 p.1.1.length)))], 0, [((0, 768), ⟨.sl, 1, byR p.1.1⟩)], []⟩) (fun p => p.1.2) ⟨([], n), by simp, by simp⟩ ?_ ?_
  · refine Weak.trans (Weak.nilRoot (0, 768) 1 3 rfl rfl rfl) ?_
    simp only [push_cast, seval, byR_nil]
    exact Weak.same (by simp only [push_cast, seval, byR_nil])
  · rintro ⟨⟨l, m⟩, hp, hm⟩ X hX
    simp only at hp hm
    have a0 : l.length + 1 ≤ 4294967296 := by omega
    have a1 := max_len a0
    have a2 := room_le (b := 1) a0 (by decide)
    have hfl := byR_length l
    by_cases hlt : (127 : Int) < (m : Int)
    · have hrem := tmodN m 128
      rw [show ((128 : Nat) : Int) = 128 from rfl] at hrem
      obtain ⟨q, hq⟩ : ∃ q, q = m % 128 := ⟨_, rfl⟩
      rw [← hq] at hrem
      have hw1 : IntKind.i64.wrap (128 + (q : Int)) = ((128 + q : Nat) : Int) := wN (by omega) (by omega)
      have hw2 := wu8 (n := 128 + q)
      have hb : UInt8.ofNat (128 + q) = UInt8.ofNat (128 + m % 128) := by rw [hq]
      obtain ⟨z, hz⟩ : ∃ z, z = 128 + q := ⟨_, rfl⟩
      rw [← hz] at hw1 hw2 hb
      obtain ⟨c, hc⟩ : ∃ c, c = UInt8.ofNat z := ⟨_, rfl⟩
      rw [← hc] at hw2 hb
      have hdiv := tdivN m 128
      rw [show ((128 : Nat) : Int) = 128 from rfl] at hdiv
      have hw3 : IntKind.i64.wrap ((m : Int).tdiv 128) = ((m / 128 : Nat) : Int) := wN hdiv (by omega)
      obtain ⟨m', hm'⟩ : ∃ m', m' = m / 128 := ⟨_, rfl⟩
      rw [← hm'] at hw3
      have hsn := byR_snoc l c
      obtain ⟨l', hl'⟩ : ∃ l', l' = l ++ [c] := ⟨_, rfl⟩
      rw [← hl'] at hsn
      have hll : l'.length = l.length + 1 := by rw [hl']; simp
      have hinv : l' ++ varL m' = varL n := by
        have hv := varL_big (n := m) (by omega)
        rw [hl', hb, hm', ← hp, hv, List.append_assoc]; rfl
      have hml : l'.length + m' ≤ n := by rw [hll]; omega
      simp only [push_cast, seval, hlt, hrem, hw1, hw2, hw3, a1, a2, hsn, hfl]
      refine ⟨_, ?_, hX ⟨(l', m'), hinv, hml⟩ (by simp only; omega)⟩
      exact Weak.drop (by simp only [push_cast, seval, hll]) (by simp only [push_cast, seval, hll]) (by simp only [push_cast, seval, hll])
    · have hw2 := wu8 (n := m)
      obtain ⟨c, hc⟩ : ∃ c, c = UInt8.ofNat m := ⟨_, rfl⟩
      rw [← hc] at hw2
      have hsn := byR_snoc l c
      obtain ⟨l', hl'⟩ : ∃ l', l' = l ++ [c] := ⟨_, rfl⟩
      rw [← hl'] at hsn
      have hll : l'.length = l.length + 1 := by rw [hl']; simp
      have ht := byR_take l'
      rw [hll] at ht
      have hfin : (⟨l'.toArray⟩ : ByteArray) = varB n := by rw [hl', hc, varB, ← hp, varL_small (by omega)]
      simp only [Tryz.ntmps41, Tryz.results41, push_cast, seval, hlt, hw2, a1, a2, hsn, hfl, ht, hfin]
theorem l01Var_ok (n : Nat) (hn : n ≤ 4294967290) : PureFn Tryz.prog 29 [i64 n] [st (varB n)] := by
  refine PureFn_of_Go Tryz.func29 rfl (by decide) mo (by decide +kernel) ?_
  simp only [Tryz.ntmps29, Tryz.results29, push_cast, seval]
  refine Go_loop (α := {p : List UInt8 × Nat // p.1 ++ varL p.2 = varL n ∧ p.1.length + p.2 ≤ n}) (fun p => ⟨tp 22 [(0, int p.1.2), (3, .x (.one (.rs (0, 832) [] 1 0 p.1.1.length)))], 0, [((0, 832), ⟨.sl, 1, byR p.1.1⟩)], []⟩) (fun p => p.1.2) ⟨([], n), by simp, by simp⟩ ?_ ?_
  · refine Weak.trans (Weak.rename (0, 256) (0, 832) rfl rfl (by decide) rfl) ?_
    simp only [push_cast, seval, byR_nil]
    exact Weak.same (by simp only [push_cast, seval, byR_nil])
  · rintro ⟨⟨l, m⟩, hp, hm⟩ X hX
    simp only at hp hm
    have a0 : l.length + 1 ≤ 4294967296 := by omega
    have a1 := max_len a0
    have a2 := room_le (b := 1) a0 (by decide)
    have hfl := byR_length l
    by_cases hlt : (127 : Int) < (m : Int)
    · have hrem := tmodN m 128
      rw [show ((128 : Nat) : Int) = 128 from rfl] at hrem
      obtain ⟨q, hq⟩ : ∃ q, q = m % 128 := ⟨_, rfl⟩
      rw [← hq] at hrem
      have hw1 : IntKind.i64.wrap ((q : Int) + 128) = ((128 + q : Nat) : Int) := wN (by omega) (by omega)
      have hw2 := wu8 (n := 128 + q)
      have hb : UInt8.ofNat (128 + q) = UInt8.ofNat (128 + m % 128) := by rw [hq]
      obtain ⟨z, hz⟩ : ∃ z, z = 128 + q := ⟨_, rfl⟩
      rw [← hz] at hw1 hw2 hb
      obtain ⟨c, hc⟩ : ∃ c, c = UInt8.ofNat z := ⟨_, rfl⟩
      rw [← hc] at hw2 hb
      have hdiv := tdivN m 128
      rw [show ((128 : Nat) : Int) = 128 from rfl] at hdiv
      have hw3 : IntKind.i64.wrap ((m : Int).tdiv 128) = ((m / 128 : Nat) : Int) := wN hdiv (by omega)
      obtain ⟨m', hm'⟩ : ∃ m', m' = m / 128 := ⟨_, rfl⟩
      rw [← hm'] at hw3
      have hsn := byR_snoc l c
      obtain ⟨l', hl'⟩ : ∃ l', l' = l ++ [c] := ⟨_, rfl⟩
      rw [← hl'] at hsn
      have hll : l'.length = l.length + 1 := by rw [hl']; simp
      have hinv : l' ++ varL m' = varL n := by
        have hv := varL_big (n := m) (by omega)
        rw [hl', hb, hm', ← hp, hv, List.append_assoc]; rfl
      have hml : l'.length + m' ≤ n := by rw [hll]; omega
      simp only [push_cast, seval, hlt, hrem, hw1, hw2, hw3, a1, a2, hsn, hfl]
      refine ⟨_, ?_, hX ⟨(l', m'), hinv, hml⟩ (by simp only; omega)⟩
      exact Weak.drop (by simp only [push_cast, seval, hll]) (by simp only [push_cast, seval, hll]) (by simp only [push_cast, seval, hll])
    · have hw2 := wu8 (n := m)
      obtain ⟨c, hc⟩ : ∃ c, c = UInt8.ofNat m := ⟨_, rfl⟩
      rw [← hc] at hw2
      have hsn := byR_snoc l c
      obtain ⟨l', hl'⟩ : ∃ l', l' = l ++ [c] := ⟨_, rfl⟩
      rw [← hl'] at hsn
      have hll : l'.length = l.length + 1 := by rw [hl']; simp
      have ht := byR_take l'
      rw [hll] at ht
      have hfin : (⟨l'.toArray⟩ : ByteArray) = varB n := by rw [hl', hc, varB, ← hp, varL_small (by omega)]
      simp only [Tryz.ntmps29, Tryz.results29, push_cast, seval, hlt, hw2, a1, a2, hsn, hfl, ht, hfin]
end Go.Proofs.YtbdjcpalpkijcaaGreatDoor

/- Reading numbers: what these functions return, by their code. -/
namespace Go.Proofs.YtbdjcpalpkijcaaGreatDoor
open Go.RowKit Go.Rx
set_option linter.unusedSimpArgs false
set_option maxRecDepth 100000

def rvL (s : ByteArray) (a : Nat) : Nat → Nat → Nat → Nat → Option (Nat × Nat)
  | 0, _, _, _ => none
  | k + 1, i, n, u => if a + i < s.size then
      if 128 ≤ (bu s (a + i)).toNat then rvL s a k (i + 1) (n + (bu s (a + i)).toNat % 128 * u) (u * 128)
      else if ((bu s (a + i)).toNat = 0 ∧ 0 < i) ∨ 1000000000 < n + (bu s (a + i)).toNat % 128 * u then none
      else some (n + (bu s (a + i)).toNat % 128 * u, a + i + 1)
    else none
def rvO (s : ByteArray) (at_ : Int) : Option (Nat × Nat) := if 0 ≤ at_ ∧ at_ ≤ s.size then rvL s at_.toNat 5 0 0 1 else none
def rvX : Option (Nat × Nat) → List X
  | none => [i64 0, i64 0, bo false]
  | some (n, x) => [i64 n, i64 x, bo true]
theorem rvL_out {s : ByteArray} {a k i n u : Nat} (h : ¬ a + i < s.size) : rvL s a k i n u = none := by
  cases k with
  | zero => rfl
  | succ k => rw [rvL, if_neg h]
theorem rvL_go {s : ByteArray} {a k i n u : Nat} (h : a + i < s.size) (hb : 128 ≤ (bu s (a + i)).toNat) : rvL s a (k + 1) i n u = rvL s a k (i + 1) (n + (bu s (a + i)).toNat % 128 * u) (u * 128) := by
  rw [rvL, if_pos h, if_pos hb]
theorem rvL_no {s : ByteArray} {a k i n u : Nat} (h : a + i < s.size) (hb : ¬ 128 ≤ (bu s (a + i)).toNat) (hc : ((bu s (a + i)).toNat = 0 ∧ 0 < i) ∨ 1000000000 < n + (bu s (a + i)).toNat % 128 * u) : rvL s a (k + 1) i n u = none := by
  rw [rvL, if_pos h, if_neg hb, if_pos hc]
theorem rvL_yes {s : ByteArray} {a k i n u : Nat} (h : a + i < s.size) (hb : ¬ 128 ≤ (bu s (a + i)).toNat) (hc : ¬ (((bu s (a + i)).toNat = 0 ∧ 0 < i) ∨ 1000000000 < n + (bu s (a + i)).toNat % 128 * u)) : rvL s a (k + 1) i n u = some (n + (bu s (a + i)).toNat % 128 * u, a + i + 1) := by
  rw [rvL, if_pos h, if_neg hb, if_neg hc]
theorem rvL_bound {s : ByteArray} {a : Nat} : ∀ {k i n u m x : Nat}, rvL s a k i n u = some (m, x) → m ≤ 1000000000 ∧ a < x ∧ x ≤ s.size
  | 0, i, n, u, m, x, h => by cases h
  | k + 1, i, n, u, m, x, h => by
    by_cases h1 : a + i < s.size
    · by_cases h2 : 128 ≤ (bu s (a + i)).toNat
      · rw [rvL_go h1 h2] at h; exact rvL_bound h
      · by_cases h3 : ((bu s (a + i)).toNat = 0 ∧ 0 < i) ∨ 1000000000 < n + (bu s (a + i)).toNat % 128 * u
        · rw [rvL_no h1 h2 h3] at h; cases h
        · rw [rvL_yes h1 h2 h3] at h
          obtain ⟨rfl, rfl⟩ := Prod.mk.inj (Option.some.inj h)
          exact ⟨by omega, by omega, by omega⟩
    · rw [rvL_out h1] at h; cases h
theorem rvO_bound {s : ByteArray} {at_ : Int} {m x : Nat} (h : rvO s at_ = some (m, x)) : m ≤ 1000000000 ∧ 0 ≤ at_ ∧ at_ < x ∧ x ≤ s.size := by
  unfold rvO at h
  split at h
  · rename_i hc
    have := rvL_bound h
    omega
  · cases h
theorem pow128 {i : Nat} (h : i < 5) : 128 ^ i ≤ 268435456 := Nat.le_trans (Nat.pow_le_pow_right (by decide) (show i ≤ 4 by omega)) (by decide)

end Go.Proofs.YtbdjcpalpkijcaaGreatDoor

/- Reading numbers, the reference's way: the same. -/
namespace Go.Proofs.YtbdjcpalpkijcaaGreatDoor
open Go.RowKit Go.Rx
set_option linter.unusedSimpArgs false
set_option maxRecDepth 100000

def seg (s : ByteArray) (a k : Nat) : List UInt8 := (s.data.toList.drop a).take k
theorem seg_zero (s : ByteArray) (a : Nat) : seg s a 0 = [] := by simp [seg]
theorem seg_succ {s : ByteArray} {a k : Nat} (h : a + k < s.size) : seg s a (k + 1) = seg s a k ++ [bu s (a + k)] := by
  unfold seg
  have h2 : a + k < s.data.toList.length := by rw [Array.length_toList]; exact h
  rw [List.take_add_one, List.getElem?_drop, List.getElem?_eq_getElem h2]
  simp only [bu, List.getD_eq_getElem?_getD, List.getElem?_eq_getElem h2, Option.getD_some, Option.toList_some]
theorem extract_list (s : ByteArray) (a b : Nat) : (s.extract a b).data.toList = seg s a (b - a) := by
  rw [ByteArray.data_extract, Array.toList_extract, List.extract_eq_take_drop]; rfl
theorem bytes_ext {x y : ByteArray} (h : x.data.toList = y.data.toList) : x = y := by
  cases x; cases y; simp only at h; congr; exact Array.toList_inj.1 h
theorem varB_list (n : Nat) : (varB n).data.toList = varL n := rfl
theorem varB_seg (s : ByteArray) (n a b : Nat) : varB n = s.extract a b ↔ varL n = seg s a (b - a) := by
  rw [← extract_list, ← varB_list]
  exact ⟨fun h => by rw [h], bytes_ext⟩

def val (l : List UInt8) : Nat := l.foldr (fun b v => b.toNat % 128 + 128 * v) 0
theorem val_snoc (l : List UInt8) (b : UInt8) : val (l ++ [b]) = val l + b.toNat % 128 * 128 ^ l.length := by
  induction l with
  | nil => simp [val]
  | cons c l ih =>
    simp only [val, List.cons_append, List.foldr_cons, List.length_cons] at ih ⊢
    rw [ih, Nat.pow_succ, Nat.mul_add, Nat.add_assoc]
    congr 2
    rw [Nat.mul_left_comm, Nat.mul_comm 128]
theorem varL_last : ∀ (n : Nat) (l : List UInt8) (b : UInt8), l ≠ [] → varL n = l ++ [b] → b.toNat ≠ 0 := by
  intro n
  induction n using Nat.strongRecOn with
  | ind n ih =>
    intro l b hl h
    by_cases hn : n ≤ 127
    · rw [varL_small hn] at h
      cases l with
      | nil => exact absurd rfl hl
      | cons c l => simp at h
    · rw [varL_big hn] at h
      cases l with
      | nil => exact absurd rfl hl
      | cons c l =>
        simp only [List.cons_append, List.cons.injEq] at h
        cases l with
        | cons d l => exact ih (n / 128) (by omega) (d :: l) b (by simp) h.2
        | nil =>
          by_cases hn2 : n / 128 ≤ 127
          · rw [varL_small hn2] at h
            have := h.2
            simp only [List.nil_append, List.cons.injEq, and_true] at this
            rw [← this, UInt8.toNat_ofNat']
            omega
          · rw [varL_big hn2] at h
            have := congrArg List.length h.2
            simp only [List.length_cons, List.nil_append, List.length_nil] at this
            rw [varL] at this
            split at this <;> simp at this
theorem val_lt : ∀ (l : List UInt8), val l < 128 ^ l.length
  | [] => by simp [val]
  | b :: l => by
    have := val_lt l
    simp only [val, List.foldr_cons, List.length_cons, Nat.pow_succ] at this ⊢
    omega
theorem canon_yes : ∀ (l : List UInt8) (b : UInt8), (∀ p ∈ l, 128 ≤ p.toNat) → b.toNat < 128 → ¬ (b.toNat = 0 ∧ 0 < l.length) → varL (val (l ++ [b])) = l ++ [b]
  | [], b, _, hb, _ => by
    have e : val ([] ++ [b]) = b.toNat := by simp [val]; omega
    rw [e, varL_small (by omega)]; simp
  | p :: l, b, hp, hb, hn => by
    have hb0 : b.toNat ≠ 0 := fun e => hn ⟨e, by simp⟩
    have ih := canon_yes l b (fun q hq => hp q (List.mem_cons_of_mem _ hq)) hb (fun h => hb0 h.1)
    have h1 := hp p (List.mem_cons_self ..)
    have e : val (p :: l ++ [b]) = p.toNat % 128 + 128 * val (l ++ [b]) := rfl
    have hv : 0 < val (l ++ [b]) := by
      rw [val_snoc]
      have h2 : 0 < b.toNat % 128 * 128 ^ l.length := Nat.mul_pos (by omega) (Nat.pow_pos (by decide))
      omega
    have hlt := u8_lt p
    rw [e, varL_big (by omega), show (p.toNat % 128 + 128 * val (l ++ [b])) / 128 = val (l ++ [b]) by omega, ih,
      show 128 + (p.toNat % 128 + 128 * val (l ++ [b])) % 128 = p.toNat by omega]
    simp
theorem canon {l : List UInt8} {b : UInt8} (hp : ∀ p ∈ l, 128 ≤ p.toNat) (hb : b.toNat < 128) : varL (val (l ++ [b])) = l ++ [b] ↔ ¬ (b.toNat = 0 ∧ 0 < l.length) := by
  refine ⟨fun h hc => ?_, canon_yes l b hp hb⟩
  exact varL_last _ l b (fun e => by rw [e] at hc; exact absurd hc.2 (by simp)) h hc.1

end Go.Proofs.YtbdjcpalpkijcaaGreatDoor

/- The scanner: what its methods do, by their code. -/
namespace Go.Proofs.YtbdjcpalpkijcaaGreatDoor
open Go.RowKit Go.Rx
set_option linter.unusedSimpArgs false
set_option maxRecDepth 100000

def sc (s : ByteArray) (a : Nat) (b : Bool) : List Value := [.string s, .int .i64 a, .bool b]
def numN (s : ByteArray) (a : Nat) (b : Bool) : Nat := if b then 0 else match rvO s a with | some (n, _) => n | none => 0
def numA (s : ByteArray) (a : Nat) (b : Bool) : Nat := if b then a else match rvO s a with | some (_, x) => x | none => a
def numB (s : ByteArray) (a : Nat) (b : Bool) : Bool := if b then true else match rvO s a with | some _ => false | none => true
def takeOk (s : ByteArray) (a : Nat) (b : Bool) (n : Nat) : Bool := !b && decide (a + n ≤ s.size)
def takeT (s : ByteArray) (a : Nat) (b : Bool) (n : Nat) : ByteArray := if takeOk s a b n then s.extract a (a + n) else ⟨#[]⟩
def takeA (s : ByteArray) (a : Nat) (b : Bool) (n : Nat) : Nat := if takeOk s a b n then a + n else a
def takeB (s : ByteArray) (a : Nat) (b : Bool) (n : Nat) : Bool := !takeOk s a b n
/-! ### frames -/
def frO (s : ByteArray) (a : Nat) : Option (ByteArray × Nat) := match rvO s a with
  | some (n, x) => if x + 4 + n ≤ s.size ∧ 1 ≤ n ∧ n ≤ 9000 ∧ four (sumN (s.extract (x + 4) (x + 4 + n))) = s.extract x (x + 4) then some (s.extract (x + 4) (x + 4 + n), x + 4 + n) else none
  | none => none
def frX : Option (ByteArray × Nat) → List X
  | none => [st ⟨#[]⟩, i64 0, bo false]
  | some (t, x) => [st t, i64 x, bo true]
theorem extract_size (s : ByteArray) (a b : Nat) : (s.extract a b).size ≤ s.size := by
  rw [ByteArray.size_extract]; omega
end Go.Proofs.YtbdjcpalpkijcaaGreatDoor

/- Lists of texts: equality, marks; frames. -/
namespace Go.Proofs.YtbdjcpalpkijcaaGreatDoor
open Go.RowKit Go.Rx
set_option linter.unusedSimpArgs false
set_option maxRecDepth 100000

def strs (xs : List ByteArray) : List (List Value) := xs.map fun x => [.string x]
def ints (xs : List Int) : List (List Value) := xs.map fun x => [.int .i64 x]
theorem strs_length (xs : List ByteArray) : (strs xs).length = xs.length := by simp [strs]
theorem ints_length (xs : List Int) : (ints xs).length = xs.length := by simp [ints]
theorem strs_getD (xs : List ByteArray) {i : Nat} (h : i < xs.length) : (strs xs).getD i [] = [.string (xs.getD i default)] := by
  simp [strs, List.getD_eq_getElem?_getD, List.getElem?_map, List.getElem?_eq_getElem h]
theorem ints_getD (xs : List Int) {i : Nat} (h : i < xs.length) : (ints xs).getD i [] = [.int .i64 (xs.getD i default)] := by
  simp [ints, List.getD_eq_getElem?_getD, List.getElem?_map, List.getElem?_eq_getElem h]
theorem wsucc {i n : Nat} (h : i < n) (hn : n ≤ 140737488355328) : IntKind.i64.wrap ((i : Int) + 1) = ((i + 1 : Nat) : Int) := by rw [IntKind.wrap_i64]; omega

/-! ### marks -/
def digB (n : Nat) : ByteArray := if n = 0 then ⟨#[]⟩ else digB (n / 10) ++ ⟨[UInt8.ofNat (48 + n % 10)].toArray⟩
termination_by n
decreasing_by omega
theorem digB_zero : digB 0 = ⟨#[]⟩ := by rw [digB, if_pos rfl]
theorem digB_pos {n : Nat} (h : n ≠ 0) : digB n = digB (n / 10) ++ ⟨[UInt8.ofNat (48 + n % 10)].toArray⟩ := by rw [digB, if_neg h]
def mkB (k : Nat) : ByteArray := ⟨#[109]⟩ ++ digB k
theorem empty_append (b : ByteArray) : (⟨#[]⟩ : ByteArray) ++ b = b := bytes_ext (by simp [ByteArray.data_append])

theorem markText_ok (k : Nat) (hk : 0 < k) (hk2 : k ≤ 140737488355328) : PureFn Tryz.prog 61 [i64 k] [st (mkB k)] := by
  refine PureFn_of_Go Tryz.func61 rfl (by decide) mo (by decide +kernel) ?_
  have h0 : ¬ (k : Int) ≤ 0 := by omega
  simp only [Tryz.ntmps61, Tryz.results61, push_cast, seval, h0]
  refine Go_loop (α := {p : Nat × ByteArray // digB p.1 ++ p.2 = digB k ∧ p.1 + p.2.size ≤ k})
    (fun p => ⟨tp 20 [(0, int p.1.1), (3, .x (st p.1.2))], 0, [], []⟩) (fun p => p.1.1) ⟨(k, ⟨#[]⟩), bytes_ext (by simp [ByteArray.data_append]), by simp [ByteArray.size]⟩ ?_ ?_
  · exact Weak.same (by simp only [push_cast, seval])
  · rintro ⟨⟨m, out⟩, hp, hm⟩ X hX
    simp only at hp hm
    by_cases hlt : (0 : Int) < (m : Int)
    · have hrem := tmodN m 10
      rw [show ((10 : Nat) : Int) = 10 from rfl] at hrem
      obtain ⟨q, hq⟩ : ∃ q, q = m % 10 := ⟨_, rfl⟩
      rw [← hq] at hrem
      have hw1 : IntKind.i64.wrap (48 + (q : Int)) = ((48 + q : Nat) : Int) := wN (by omega) (by omega)
      have hw2 := wu8 (n := 48 + q)
      have hb : UInt8.ofNat (48 + q) = UInt8.ofNat (48 + m % 10) := by rw [hq]
      obtain ⟨z, hz⟩ : ∃ z, z = 48 + q := ⟨_, rfl⟩
      rw [← hz] at hw1 hw2 hb
      obtain ⟨c, hc⟩ : ∃ c, c = UInt8.ofNat z := ⟨_, rfl⟩
      rw [← hc] at hw2 hb
      have hdiv := tdivN m 10
      rw [show ((10 : Nat) : Int) = 10 from rfl] at hdiv
      have hw3 : IntKind.i64.wrap ((m : Int).tdiv 10) = ((m / 10 : Nat) : Int) := wN hdiv (by omega)
      obtain ⟨m', hm'⟩ : ∃ m', m' = m / 10 := ⟨_, rfl⟩
      rw [← hm'] at hw3
      have hf := str_natsOf [c]
      simp only [natsOf, List.map_cons, List.map_nil] at hf
      obtain ⟨cc, hcc⟩ : ∃ cc : ByteArray, cc = ⟨[c].toArray⟩ := ⟨_, rfl⟩
      rw [← hcc] at hf
      have hcs : cc.size = 1 := by rw [hcc]; rfl
      have hroom : cc.size + out.size ≤ 9223372036854775807 := by omega
      have hinv : digB m' ++ (cc ++ out) = digB k := by
        rw [← hp, digB_pos (n := m) (by omega), hm', hcc, hb, ByteArray.append_assoc]
      have hsz : m' + (cc ++ out).size ≤ k := by rw [ByteArray.size_append]; omega
      simp only [push_cast, seval, hlt, hrem, hw1, hw2, hw3, hf, hroom]
      refine ⟨_, ?_, hX ⟨(m', cc ++ out), hinv, hsz⟩ (by simp only; omega)⟩
      exact Weak.drop (by simp only [push_cast, seval]) (by simp only [push_cast, seval]) (by simp only [push_cast, seval])
    · have hm0 : m = 0 := by omega
      have hfin : (⟨#[109]⟩ : ByteArray) ++ out = mkB k := by
        rw [mkB, ← hp, hm0, digB_zero, empty_append]
      have hroom : (⟨#[109]⟩ : ByteArray).size + out.size ≤ 9223372036854775807 := by
        have : (⟨#[109]⟩ : ByteArray).size = 1 := rfl
        omega
      simp only [Tryz.ntmps61, Tryz.results61, push_cast, seval, hlt, hroom, hfin]

def marks (k n : Nat) : List (List Value) := (List.range n).map fun j => [.string (mkB (k + j))]
theorem marks_length (k n : Nat) : (marks k n).length = n := by simp [marks]
theorem marks_getD (k : Nat) {n i : Nat} (h : i < n) : (marks k n).getD i [] = [.string (mkB (k + i))] := by
  simp [marks, List.getD_eq_getElem?_getD, List.getElem?_map, h]
end Go.Proofs.YtbdjcpalpkijcaaGreatDoor

/- Frames of a file: both ways come to the same. -/
namespace Go.Proofs.YtbdjcpalpkijcaaGreatDoor
open Go.RowKit Go.Rx
set_option linter.unusedSimpArgs false
set_option maxRecDepth 100000

theorem frO_bound {s : ByteArray} {a x : Nat} {t : ByteArray} (h : frO s a = some (t, x)) : a < x ∧ x ≤ s.size := by
  unfold frO at h
  split at h
  · rename_i n y hr
    have hb := rvO_bound hr
    split at h
    · rename_i hc
      obtain ⟨_, rfl⟩ := Prod.mk.inj (Option.some.inj h)
      omega
    · cases h
  · cases h
def frL (s : ByteArray) : Nat → Nat → List (ByteArray × Nat)
  | 0, _ => []
  | k + 1, a => match frO s a with
    | some (t, x) => (t, x) :: frL s k x
    | none => []
def frs (s : ByteArray) : List (ByteArray × Nat) := if s.size ≤ 20000 then frL s (s.size + 1) 0 else []
theorem frL_len (s : ByteArray) : ∀ (k a : Nat), (frL s k a).length ≤ s.size - a
  | 0, a => by simp [frL]
  | k + 1, a => by
    rw [frL]
    cases h : frO s a with
    | none => simp
    | some p =>
      obtain ⟨t, x⟩ := p
      have hb := frO_bound h
      have := frL_len s k x
      simp only [List.length_cons]; omega
theorem frs_len (s : ByteArray) : (frs s).length ≤ 20000 := by
  unfold frs
  split
  · have := frL_len s (s.size + 1) 0; omega
  · simp
/-- More fuel changes nothing. -/
theorem frL_fuel (s : ByteArray) : ∀ (k k' a : Nat), s.size < k + a → s.size < k' + a → frL s k a = frL s k' a
  | 0, 0, _, _, _ => rfl
  | 0, k' + 1, a, h, _ => by
    rw [frL, frL]
    cases hf : frO s a with
    | none => rfl
    | some p => obtain ⟨t, x⟩ := p; have := frO_bound hf; omega
  | k + 1, 0, a, _, h => by
    rw [frL, frL]
    cases hf : frO s a with
    | none => rfl
    | some p => obtain ⟨t, x⟩ := p; have := frO_bound hf; omega
  | k + 1, k' + 1, a, h, h' => by
    rw [frL, frL]
    cases hf : frO s a with
    | none => rfl
    | some p =>
      obtain ⟨t, x⟩ := p
      have := frO_bound hf
      simp only
      rw [frL_fuel s k k' x (by omega) (by omega)]
def frLast (l : List (ByteArray × Nat)) : Nat := (l.getLast?.map (·.2)).getD 0
def frTs (l : List (ByteArray × Nat)) : List ByteArray := l.map (·.1)
def frEs (l : List (ByteArray × Nat)) : List Int := l.map fun p => (p.2 : Int)

def unfT (s : ByteArray) : List ByteArray := frTs (frs s)
def unfE (s : ByteArray) : Nat := frLast (frs s)
end Go.Proofs.YtbdjcpalpkijcaaGreatDoor

/- The reference's frames of a file; Frame. -/
namespace Go.Proofs.YtbdjcpalpkijcaaGreatDoor
open Go.RowKit Go.Rx
set_option linter.unusedSimpArgs false
set_option maxRecDepth 100000

theorem seg_append (s : ByteArray) (a i j : Nat) : seg s a (i + j) = seg s a i ++ seg s (a + i) j := by
  unfold seg
  rw [List.take_add, List.drop_drop]
theorem seg_len {s : ByteArray} {a k : Nat} (h : a + k ≤ s.size) : (seg s a k).length = k := by
  unfold seg
  have : s.data.toList.length = s.size := by rw [Array.length_toList]; rfl
  rw [List.length_take, List.length_drop, this]; omega
theorem rvL_canon {s : ByteArray} {a m x : Nat} : ∀ (k i n u : Nat), u = 128 ^ i → n = val (seg s a i) → a + i ≤ s.size → (∀ q ∈ seg s a i, 128 ≤ q.toNat) → rvL s a k i n u = some (m, x) → varL m = seg s a (x - a)
  | 0, _, _, _, _, _, _, _, h => by cases h
  | k + 1, i, n, u, hu, hn, hi, hall, h => by
    by_cases h1 : a + i < s.size
    · have hsg := seg_succ h1
      have hl := seg_len hi
      have hval : n + (bu s (a + i)).toNat % 128 * u = val (seg s a (i + 1)) := by rw [hsg, val_snoc, ← hn, hl, ← hu]
      by_cases h2 : 128 ≤ (bu s (a + i)).toNat
      · rw [rvL_go h1 h2] at h
        refine rvL_canon k (i + 1) _ _ (by rw [Nat.pow_succ, hu]) hval (by omega) (fun q hq => ?_) h
        rw [hsg, List.mem_append] at hq
        rcases hq with hq | hq
        · exact hall q hq
        · rw [List.mem_singleton.1 hq]; exact h2
      · by_cases h3 : ((bu s (a + i)).toNat = 0 ∧ 0 < i) ∨ 1000000000 < n + (bu s (a + i)).toNat % 128 * u
        · rw [rvL_no h1 h2 h3] at h; cases h
        · rw [rvL_yes h1 h2 h3] at h
          obtain ⟨rfl, rfl⟩ := Prod.mk.inj (Option.some.inj h)
          have hcan := (canon (b := bu s (a + i)) hall (by omega)).2 (by rw [hl]; exact fun hc => h3 (.inl hc))
          rw [← hsg] at hcan
          rw [hval, hcan]
          congr 1; omega
    · rw [rvL_out h1] at h; cases h
theorem rvO_canon {s : ByteArray} {a n x : Nat} (h : rvO s a = some (n, x)) : varL n = seg s a (x - a) := by
  unfold rvO at h
  split at h
  · rename_i hc
    exact rvL_canon 5 0 0 1 rfl (by simp [seg, val]) (by omega) (by simp [seg]) h
  · cases h
theorem varL_len (n : Nat) : (varL n).length ≤ n + 1 := by
  induction n using Nat.strongRecOn with
  | ind n ih =>
    by_cases h : n ≤ 127
    · rw [varL_small h]; simp
    · rw [varL_big h, List.length_cons]
      have := ih (n / 128) (by omega)
      omega
theorem varB_size (n : Nat) : (varB n).size ≤ n + 1 := by
  have := varL_len n
  show (varL n).toArray.size ≤ _
  simpa using this
def frameB (t : ByteArray) : ByteArray := varB t.size ++ four (sumN t) ++ t
theorem app_list (x y : ByteArray) : (x ++ y).data.toList = x.data.toList ++ y.data.toList := by rw [ByteArray.data_append, Array.toList_append]
theorem frame_iff {s : ByteArray} {a n x : Nat} (h : rvO s a = some (n, x)) (hz : x + 4 + n ≤ s.size) :
    frameB (s.extract (x + 4) (x + 4 + n)) = s.extract a (x + 4 + n) ↔ four (sumN (s.extract (x + 4) (x + 4 + n))) = s.extract x (x + 4) := by
  obtain ⟨_, ha0, hax, hxs⟩ := rvO_bound h
  have hc := rvO_canon h
  have hsz : (s.extract (x + 4) (x + 4 + n)).size = n := by rw [ByteArray.size_extract]; omega
  have e1 : (frameB (s.extract (x + 4) (x + 4 + n))).data.toList = seg s a (x - a) ++ ((four (sumN (s.extract (x + 4) (x + 4 + n)))).data.toList ++ seg s (x + 4) n) := by
    unfold frameB
    rw [app_list, app_list, hsz, varB_list, hc, extract_list, show x + 4 + n - (x + 4) = n by omega, List.append_assoc]
  have e2 : (s.extract a (x + 4 + n)).data.toList = seg s a (x - a) ++ (seg s x 4 ++ seg s (x + 4) n) := by
    rw [extract_list, show x + 4 + n - a = (x - a) + (4 + n) by omega, seg_append, show a + (x - a) = x by omega, seg_append]
  have e3 : (s.extract x (x + 4)).data.toList = seg s x 4 := by rw [extract_list, show x + 4 - x = 4 by omega]
  constructor
  · intro hh
    have : (frameB (s.extract (x + 4) (x + 4 + n))).data.toList = (s.extract a (x + 4 + n)).data.toList := by rw [hh]
    rw [e1, e2] at this
    refine bytes_ext ?_
    rw [e3]
    exact List.append_cancel_right (List.append_cancel_left this)
  · intro hh
    refine bytes_ext ?_
    rw [e1, e2, hh, e3]

theorem frame_ok (t : ByteArray) (ht : t.size ≤ 4000000000) : PureFn Tryz.prog 53 [st t] [st (frameB t)] := by
  refine PureFn_of_Go Tryz.func53 rfl (by decide) mo (by decide +kernel) ?_
  simp only [Tryz.ntmps53, Tryz.results53, push_cast, seval]
  refine GoL_call rfl rfl (varText_ok t.size (by omega)) rfl rfl ?_
  simp only [Tryz.ntmps53, Tryz.results53, push_cast, seval]
  refine GoL_call rfl rfl (sumText_ok t (by omega)) rfl rfl ?_
  have h1 := varB_size t.size
  have h2 := four_size (sumN t)
  have h3 : (varB t.size).size + (four (sumN t)).size ≤ 9223372036854775807 := by omega
  have h4 : (varB t.size ++ four (sumN t)).size + t.size ≤ 9223372036854775807 := by rw [ByteArray.size_append]; omega
  simp only [Tryz.ntmps53, Tryz.results53, push_cast, seval, h3, h4, frameB]
def okLen (t : ByteArray) : Bool := decide ((1 : Int) ≤ (t.size : Int)) && decide ((t.size : Int) ≤ 9000)
def frameX (t : ByteArray) : List X := if okLen t then [st (frameB t), bo true] else [st ⟨#[]⟩, bo false]
theorem frameS_ok (t : ByteArray) (ht : t.size ≤ 140737488355328) : PureFn Tryz.prog 28 [st t] (frameX t) := by
  refine PureFn_of_Go Tryz.func28 rfl (by decide) mo (by decide +kernel) ?_
  have k := l01In_ok t.size 1 9000
  rw [show (decide ((1 : Int) ≤ (t.size : Int)) && decide ((t.size : Int) ≤ 9000)) = okLen t from rfl] at k
  simp only [Tryz.ntmps28, Tryz.results28, push_cast, seval]
  refine GoL_call rfl rfl k rfl rfl ?_
  cases c : okLen t with
  | true =>
    have hc : t.size ≤ 9000 := by simp [okLen] at c; omega
    simp only [Tryz.ntmps28, Tryz.results28, push_cast, seval, frameX, c]
    refine GoL_call rfl rfl (l01Var_ok t.size (by omega)) rfl rfl ?_
    simp only [Tryz.ntmps28, Tryz.results28, push_cast, seval, frameX, c]
    refine GoL_call rfl rfl (sumOfS_ok t (by omega)) rfl rfl ?_
    simp only [Tryz.ntmps28, Tryz.results28, push_cast, seval, frameX, c]
    refine GoL_call rfl rfl (l02Four_ok (sumN t)) rfl rfl ?_
    have h1 := varB_size t.size
    have h2 := four_size (sumN t)
    have h3 : (varB t.size).size + (four (sumN t)).size ≤ 9223372036854775807 := by omega
    have h4 : (varB t.size ++ four (sumN t)).size + t.size ≤ 9223372036854775807 := by rw [ByteArray.size_append]; omega
    simp only [Tryz.ntmps28, Tryz.results28, push_cast, seval, frameX, c, h3, h4, frameB]
  | false => simp only [Tryz.ntmps28, Tryz.results28, push_cast, seval, frameX, c, Bool.false_eq_true]

theorem frLast_snoc (l : List (ByteArray × Nat)) (t : ByteArray) (x : Nat) : frLast (l ++ [(t, x)]) = x := by simp [frLast]
end Go.Proofs.YtbdjcpalpkijcaaGreatDoor

/- The scanner's other methods, and the reference's cursor. -/
namespace Go.Proofs.YtbdjcpalpkijcaaGreatDoor
open Go.RowKit Go.Rx
set_option linter.unusedSimpArgs false
set_option maxRecDepth 100000

theorem numA_le {s : ByteArray} {a : Nat} {b : Bool} (ha : a ≤ s.size) : numA s a b ≤ s.size := by
  unfold numA
  split
  · exact ha
  · cases h : rvO s a with
    | none => exact ha
    | some p => obtain ⟨n, x⟩ := p; exact (rvO_bound h).2.2.2
theorem numN_le (s : ByteArray) (a : Nat) (b : Bool) : numN s a b ≤ 1000000000 := by
  unfold numN
  split
  · exact Nat.zero_le _
  · cases h : rvO s a with
    | none => exact Nat.zero_le _
    | some p => obtain ⟨n, x⟩ := p; exact (rvO_bound h).1
theorem takeA_le {s : ByteArray} {a : Nat} {b : Bool} {n : Nat} (ha : a ≤ s.size) : takeA s a b n ≤ s.size := by
  unfold takeA
  cases h : takeOk s a b n with
  | false => simpa using ha
  | true =>
    simp [takeOk] at h
    simp; exact h.2

def octN (s : ByteArray) (a : Nat) (b : Bool) : Nat := if takeOk s a b 1 then (bu s a).toNat else 0
theorem octN_lt (s : ByteArray) (a : Nat) (b : Bool) : octN s a b < 256 := by
  unfold octN
  split
  · exact u8_lt _
  · decide
theorem extract_one {s : ByteArray} {a : Nat} (h : a + 1 ≤ s.size) : s.extract a (a + 1) = ⟨[bu s a].toArray⟩ := by
  refine bytes_ext ?_
  rw [extract_list, show a + 1 - a = 0 + 1 by omega, seg_succ (by omega), seg_zero]; rfl
def flagB (s : ByteArray) (a : Nat) (b : Bool) : Bool := if 1 < octN s a b then true else takeB s a b 1
def shB (s : ByteArray) (a : Nat) (b : Bool) : Bool := if 20000 < numN s a b then true else numB s a b
def shT (s : ByteArray) (a : Nat) (b : Bool) : ByteArray := takeT s (numA s a b) (shB s a b) (numN s a b)
def shA (s : ByteArray) (a : Nat) (b : Bool) : Nat := takeA s (numA s a b) (shB s a b) (numN s a b)
def shBB (s : ByteArray) (a : Nat) (b : Bool) : Bool := takeB s (numA s a b) (shB s a b) (numN s a b)
def l5A (s : ByteArray) (a : Nat) (b : Bool) : Nat := takeA s (numA s a b) (numB s a b) (numN s a b)
def l5B (s : ByteArray) (a : Nat) (b : Bool) : Bool := takeB s (numA s a b) (numB s a b) (numN s a b)
def l5T (s : ByteArray) (a : Nat) (b : Bool) : ByteArray := takeT s (numA s a b) (numB s a b) (numN s a b)
end Go.Proofs.YtbdjcpalpkijcaaGreatDoor

/- Nodes, confs, entries: what these functions return, by their code. -/
namespace Go.Proofs.YtbdjcpalpkijcaaGreatDoor
open Go.RowKit Go.Rx
set_option linter.unusedSimpArgs false
set_option maxRecDepth 100000

def inR (n a b : Int) : Bool := decide (a ≤ n) && decide (n ≤ b)
theorem inR_spec {n a b : Int} : inR n a b = true ↔ a ≤ n ∧ n ≤ b := by simp [inR]

theorem isTerm_ok (n : Int) : PureFn Tryz.prog 49 [i64 n] [bo (inR n 0 100000)] := by
  refine PureFn_of_Go Tryz.func49 rfl (by decide) mo (by decide +kernel) ?_
  simp only [Tryz.ntmps49, Tryz.results49, push_cast, seval]
  refine GoL_call rfl rfl (inRange_ok n 0 100000) rfl rfl ?_
  simp only [Tryz.ntmps49, Tryz.results49, push_cast, seval, inR]
theorem isIndex_ok (n : Int) : PureFn Tryz.prog 48 [i64 n] [bo (inR n 0 1000000)] := by
  refine PureFn_of_Go Tryz.func48 rfl (by decide) mo (by decide +kernel) ?_
  simp only [Tryz.ntmps48, Tryz.results48, push_cast, seval]
  refine GoL_call rfl rfl (inRange_ok n 0 1000000) rfl rfl ?_
  simp only [Tryz.ntmps48, Tryz.results48, push_cast, seval, inR]
theorem isNode_ok (n : Int) : PureFn Tryz.prog 113 [i64 n] [bo (inR n 1 4)] := by
  refine PureFn_of_Go Tryz.func113 rfl (by decide) mo (by decide +kernel) ?_
  simp only [Tryz.ntmps113, Tryz.results113, push_cast, seval]
  refine GoL_call rfl rfl (inRange_ok n 1 4) rfl rfl ?_
  simp only [Tryz.ntmps113, Tryz.results113, push_cast, seval, inR]

/-! ### numbers that rise -/
def at_ (l : List Int) (i : Nat) : Int := l.getD i default
def rise (l : List Int) (a b : Int) : Prop := ∀ i, i < l.length → a ≤ at_ l i ∧ at_ l i ≤ b ∧ (0 < i → at_ l (i - 1) < at_ l i)
instance (l : List Int) (a b : Int) : Decidable (rise l a b) := by unfold rise; infer_instance
theorem areNodes_ok (l : List Int) (hl : l.length ≤ 140737488355328) : PureFn Tryz.prog 84 [.one (.sh 1 (vR (ints l)))] [bo (decide (rise l 1 4))] := by
  refine PureFn_of_Go Tryz.func84 rfl (by decide) mo (by decide +kernel) ?_
  obtain ⟨r, hr⟩ : ∃ r, r = decide (rise l 1 4) := ⟨_, rfl⟩
  rw [← hr]
  simp only [Tryz.ntmps84, Tryz.results84, push_cast, seval, ints_length]
  refine Go_loop (α := {i : Nat // i ≤ l.length ∧ ∀ j, j < i → 1 ≤ at_ l j ∧ at_ l j ≤ 4 ∧ (0 < j → at_ l (j - 1) < at_ l j)})
    (fun i => ⟨tp 29 [(0, .x (.one (.sh 1 (vR (ints l))))), (5, .x (.one (.sh 1 (vR (ints l))))), (6, int l.length), (7, int i.1)], 0, [], []⟩) (fun i => l.length - i.1) ⟨0, by omega, fun j h => absurd h (Nat.not_lt_zero _)⟩ ?_ ?_
  · exact Weak.same (by simp only [push_cast, seval, Int.ofNat_zero])
  · rintro ⟨i, hi, hall⟩ X hX
    by_cases hlt : (i : Int) < (l.length : Int)
    · have hi' : i < l.length := by omega
      have ws := wsucc hi' hl
      have hg := ints_getD l hi'
      rw [show l.getD i default = at_ l i from rfl] at hg
      have kn := isNode_ok (at_ l i)
      obtain ⟨x, hx⟩ : ∃ x, x = at_ l i := ⟨_, rfl⟩
      rw [← hx] at hg kn
      obtain ⟨i', hi1⟩ : ∃ i', i' = i + 1 := ⟨_, rfl⟩
      rw [← hi1] at ws
      simp only [push_cast, seval, ints_length, hlt, hi', vR_getD, hg]
      refine GoL_call rfl rfl kn rfl rfl ?_
      cases c1 : inR x 1 4 with
      | false =>
        have hf : r = false := by
          rw [hr]; apply decide_eq_false
          intro h
          have := h i hi'
          have h2 : inR x 1 4 = true := inR_spec.2 ⟨by rw [hx]; exact this.1, by rw [hx]; exact this.2.1⟩
          rw [h2] at c1; cases c1
        subst hf
        simp only [Tryz.ntmps84, Tryz.results84, push_cast, seval]
      | true =>
        have hin := inR_spec.1 c1
        by_cases c2 : (0 : Int) < (i : Int)
        · have hpi : i - 1 < l.length := by omega
          have hgp := ints_getD l hpi
          rw [show l.getD (i - 1) default = at_ l (i - 1) from rfl] at hgp
          have wp : IntKind.i64.wrap ((i : Int) - 1) = ((i - 1 : Nat) : Int) := wN (by omega) (by omega)
          obtain ⟨p, hp⟩ : ∃ p, p = i - 1 := ⟨_, rfl⟩
          rw [← hp] at hgp wp hpi
          obtain ⟨y, hy⟩ : ∃ y, y = at_ l p := ⟨_, rfl⟩
          rw [← hy] at hgp
          have hpl : (p : Int) < (l.length : Int) := by omega
          by_cases c3 : x ≤ y
          · have hf : r = false := by
              rw [hr]; apply decide_eq_false
              intro h
              have := (h i hi').2.2 (by omega)
              rw [← hp, ← hy, ← hx] at this; omega
            subst hf
            simp only [Tryz.ntmps84, Tryz.results84, push_cast, seval, ints_length, c2, wp, hpi, hpl, vR_getD, hgp, c3]
          · simp only [push_cast, seval, ints_length, c2, wp, hpi, hpl, vR_getD, hgp, c3, ws]
            refine ⟨_, ?_, hX ⟨i', by omega, fun j hj => ?_⟩ (by simp only; omega)⟩
            · exact Weak.same (by simp only [push_cast, seval])
            · by_cases e : j = i
              · subst e
                exact ⟨by rw [← hx]; exact hin.1, by rw [← hx]; exact hin.2, fun _ => by rw [← hp, ← hy, ← hx]; omega⟩
              · exact hall j (by omega)
        · simp only [push_cast, seval, ints_length, c2, ws]
          refine ⟨_, ?_, hX ⟨i', by omega, fun j hj => ?_⟩ (by simp only; omega)⟩
          · exact Weak.same (by simp only [push_cast, seval])
          · by_cases e : j = i
            · subst e
              exact ⟨by rw [← hx]; exact hin.1, by rw [← hx]; exact hin.2, fun h0 => by omega⟩
            · exact hall j (by omega)
    · have ht : r = true := by
        rw [hr]; apply decide_eq_true
        intro j hj; exact hall j (by omega)
      subst ht
      simp only [Tryz.ntmps84, Tryz.results84, push_cast, seval, hlt]
theorem l05Rise_ok (l : List Int) (hl : l.length ≤ 140737488355328) (a b : Int) : PureFn Tryz.prog 93 [.one (.sh 1 (vR (ints l))), i64 a, i64 b] [bo (decide (rise l a b))] := by
  refine PureFn_of_Go Tryz.func93 rfl (by decide) mo (by decide +kernel) ?_
  obtain ⟨r, hr⟩ : ∃ r, r = decide (rise l a b) := ⟨_, rfl⟩
  rw [← hr]
  simp only [Tryz.ntmps93, Tryz.results93, push_cast, seval, ints_length]
  refine Go_loop (α := {i : Nat // i ≤ l.length ∧ ∀ j, j < i → a ≤ at_ l j ∧ at_ l j ≤ b ∧ (0 < j → at_ l (j - 1) < at_ l j)})
    (fun i => ⟨tp 38 [(0, .x (.one (.sh 1 (vR (ints l))))), (1, .x (i64 a)), (2, .x (i64 b)), (7, int i.1)], 0, [], []⟩) (fun i => l.length - i.1) ⟨0, by omega, fun j h => absurd h (Nat.not_lt_zero _)⟩ ?_ ?_
  · exact Weak.same (by simp only [push_cast, seval, Int.ofNat_zero])
  · rintro ⟨i, hi, hall⟩ X hX
    by_cases hlt : (i : Int) < (l.length : Int)
    · have hi' : i < l.length := by omega
      have ws := wsucc hi' hl
      have hg := ints_getD l hi'
      rw [show l.getD i default = at_ l i from rfl] at hg
      have kn := l01In_ok (at_ l i) a b
      obtain ⟨x, hx⟩ : ∃ x, x = at_ l i := ⟨_, rfl⟩
      rw [← hx] at hg kn
      obtain ⟨i', hi1⟩ : ∃ i', i' = i + 1 := ⟨_, rfl⟩
      rw [← hi1] at ws
      simp only [push_cast, seval, ints_length, hlt, hi', vR_getD, hg]
      refine GoD_call rfl rfl kn rfl rfl ?_
      rw [show (decide (a ≤ x) && decide (x ≤ b)) = inR x a b from rfl]
      cases c1 : inR x a b with
      | false =>
        have hf : r = false := by
          rw [hr]; apply decide_eq_false
          intro h
          have := h i hi'
          have h2 : inR x a b = true := inR_spec.2 ⟨by rw [hx]; exact this.1, by rw [hx]; exact this.2.1⟩
          rw [h2] at c1; cases c1
        subst hf
        simp only [Tryz.ntmps93, Tryz.results93, push_cast, seval]
      | true =>
        have hin := inR_spec.1 c1
        by_cases c2 : (0 : Int) < (i : Int)
        · have hpi : i - 1 < l.length := by omega
          have hgp := ints_getD l hpi
          rw [show l.getD (i - 1) default = at_ l (i - 1) from rfl] at hgp
          have wp : IntKind.i64.wrap ((i : Int) - 1) = ((i - 1 : Nat) : Int) := wN (by omega) (by omega)
          obtain ⟨p, hp⟩ : ∃ p, p = i - 1 := ⟨_, rfl⟩
          rw [← hp] at hgp wp hpi
          obtain ⟨y, hy⟩ : ∃ y, y = at_ l p := ⟨_, rfl⟩
          rw [← hy] at hgp
          have hpl : (p : Int) < (l.length : Int) := by omega
          by_cases c3 : x ≤ y
          · have hf : r = false := by
              rw [hr]; apply decide_eq_false
              intro h
              have := (h i hi').2.2 (by omega)
              rw [← hp, ← hy, ← hx] at this; omega
            subst hf
            simp only [Tryz.ntmps93, Tryz.results93, push_cast, seval, ints_length, hlt, hi', hg, c2, wp, hpi, hpl, vR_getD, hgp, c3]
          · simp only [push_cast, seval, ints_length, hlt, hi', hg, c2, wp, hpi, hpl, vR_getD, hgp, c3, ws]
            refine ⟨_, ?_, hX ⟨i', by omega, fun j hj => ?_⟩ (by simp only; omega)⟩
            · exact Weak.same (by simp only [push_cast, seval])
            · by_cases e : j = i
              · subst e
                exact ⟨by rw [← hx]; exact hin.1, by rw [← hx]; exact hin.2, fun _ => by rw [← hp, ← hy, ← hx]; omega⟩
              · exact hall j (by omega)
        · simp only [push_cast, seval, ints_length, c2, ws]
          refine ⟨_, ?_, hX ⟨i', by omega, fun j hj => ?_⟩ (by simp only; omega)⟩
          · exact Weak.same (by simp only [push_cast, seval])
          · by_cases e : j = i
            · subst e
              exact ⟨by rw [← hx]; exact hin.1, by rw [← hx]; exact hin.2, fun h0 => by omega⟩
            · exact hall j (by omega)
    · have ht : r = true := by
        rw [hr]; apply decide_eq_true
        intro j hj; exact hall j (by omega)
      subst ht
      simp only [Tryz.ntmps93, Tryz.results93, push_cast, seval, hlt, ints_length]

def confB (l : List Int) : Bool := decide ((0 : Int) < (l.length : Int)) && decide (rise l 1 4)
theorem rise_len {l : List Int} (h : rise l 1 4) : l.length ≤ 4 := by
  have key : ∀ i, i < l.length → (i : Int) + 1 ≤ at_ l i := by
    intro i
    induction i with
    | zero => intro hi; have := (h 0 hi).1; omega
    | succ i ih =>
      intro hi
      have h1 := ih (by omega)
      have h2 := (h (i + 1) hi).2.2 (by omega)
      rw [Nat.add_sub_cancel] at h2
      omega
  rcases Nat.lt_or_ge 4 l.length with h4 | h4
  · have h1 := key 4 h4
    have h2 := (h 4 h4).2.1
    omega
  · exact h4
theorem confOkI_ok (l : List Int) (hl : l.length ≤ 140737488355328) : PureFn Tryz.prog 50 [.one (.sh 1 (vR (ints l)))] [bo (confB l)] := by
  refine PureFn_of_Go Tryz.func50 rfl (by decide) mo (by decide +kernel) ?_
  have k := areNodes_ok l hl
  unfold confB
  by_cases c : (0 : Int) < (l.length : Int)
  · simp only [Tryz.ntmps50, Tryz.results50, push_cast, seval, ints_length, c]
    refine GoL_call rfl rfl k rfl rfl ?_
    simp only [Tryz.ntmps50, Tryz.results50, push_cast, seval, ints_length, c]
  · simp only [Tryz.ntmps50, Tryz.results50, push_cast, seval, ints_length, c]
theorem confOkS_ok (l : List Int) (hl : l.length ≤ 140737488355328) : PureFn Tryz.prog 66 [.one (.sh 1 (vR (ints l)))] [bo (confB l)] := by
  refine PureFn_of_Go Tryz.func66 rfl (by decide) mo (by decide +kernel) ?_
  have k1 := l01In_ok l.length 1 4
  have k2 := l05Rise_ok l hl 1 4
  simp only [Tryz.ntmps66, Tryz.results66, push_cast, seval, ints_length]
  refine GoL_call rfl rfl k1 rfl rfl ?_
  rw [show (decide ((1 : Int) ≤ (l.length : Int)) && decide ((l.length : Int) ≤ 4)) = inR l.length 1 4 from rfl]
  cases c : inR l.length 1 4 with
  | true =>
    have hc := inR_spec.1 c
    have h0 : (0 : Int) < (l.length : Int) := by omega
    simp only [Tryz.ntmps66, Tryz.results66, push_cast, seval, confB, h0]
    refine GoL_call rfl rfl k2 rfl rfl ?_
    simp only [Tryz.ntmps66, Tryz.results66, push_cast, seval, confB, h0]
  | false =>
    have hb : confB l = false := by
      cases hb : confB l with
      | false => rfl
      | true =>
        simp only [confB, Bool.and_eq_true, decide_eq_true_eq] at hb
        have := rise_len hb.2
        have h2 : inR l.length 1 4 = true := inR_spec.2 ⟨by omega, by omega⟩
        rw [h2] at c; cases c
    simp only [Tryz.ntmps66, Tryz.results66, push_cast, seval, hb]

/-! ### a text as numbers -/
def natsL (s : ByteArray) : List Int := s.data.toList.map fun b => (b.toNat : Int)
theorem natsL_length (s : ByteArray) : (natsL s).length = s.size := by simp [natsL]
theorem natsL_take (s : ByteArray) {i : Nat} (h : i < s.size) : (natsL s).take (i + 1) = (natsL s).take i ++ [((bu s i).toNat : Int)] := by
  have h2 : i < s.data.toList.length := by rw [Array.length_toList]; exact h
  have h3 : i < (natsL s).length := by rw [natsL_length]; exact h
  rw [List.take_add_one, List.getElem?_eq_getElem h3]
  simp [natsL, bu, List.getD_eq_getElem?_getD, List.getElem?_eq_getElem h2]
theorem byR_getD (s : ByteArray) {i : Nat} (h : i < s.size) : (byR s.data.toList).getD i [] = [.v (.int .u8 ((bu s i).toNat : Int))] := by
  have h2 : i < s.data.toList.length := by rw [Array.length_toList]; exact h
  simp [byR, bu, List.getD_eq_getElem?_getD, List.getElem?_map, List.getElem?_eq_getElem h2]
theorem numbers_ok (s : ByteArray) (hs : s.size ≤ 1000000) : PureFn Tryz.prog 167 [st s] [.one (.own 1 (vR (ints (natsL s))))] := by
  refine PureFn_of_Go Tryz.func167 rfl (by decide) mo (by decide +kernel) ?_
  have h1 : s.size ≤ 281474976710656 := by omega
  have hbl : (byR s.data.toList).length = s.size := by rw [byR_length, Array.length_toList]; rfl
  obtain ⟨F, hF⟩ : ∃ F, F = natsL s := ⟨_, rfl⟩
  rw [← hF]
  simp only [Tryz.ntmps167, Tryz.results167, push_cast, seval, h1, byteRows_byR]
  refine Go_loop (α := {i : Nat // i ≤ s.size})
    (fun i => ⟨tp 20 [(3, .x (.one (.rs (0, 1088) [] 1 0 i.1))), (7, .x (.one (.rs (0, 448) [] 1 0 s.size))), (8, int s.size), (9, int i.1)], 0, [((0, 1088), ⟨.sl, 1, vR (ints (F.take i.1))⟩), ((0, 448), ⟨.sl, 1, byR s.data.toList⟩)], []⟩) (fun i => s.size - i.1) ⟨0, Nat.zero_le _⟩ ?_ ?_
  · refine Weak.trans (Weak.nilRoot (0, 1088) 1 3 rfl rfl rfl) ?_
    simp only [push_cast, seval, ints, List.map_nil, List.take_zero]
    exact Weak.same (by simp only [push_cast, seval, Int.ofNat_zero])
  · rintro ⟨i, hi⟩ X hX
    have hll : (ints (F.take i)).length = i := by rw [ints_length, List.length_take, hF, natsL_length]; omega
    by_cases hlt : (i : Int) < (s.size : Int)
    · have hi' : i < s.size := by omega
      have ws := wsucc hi' (by omega)
      have hg := byR_getD s hi'
      have hw : IntKind.i64.wrap ((bu s i).toNat : Int) = ((bu s i).toNat : Int) := wN rfl (by have := u8_lt (bu s i); omega)
      have a0 : i + 1 ≤ 4294967296 := by omega
      have a1 := max_len a0
      have a2 := room_le (b := 8) a0 (by decide)
      have s1 := vR_snoc (ints (F.take i)) [.int .i64 ((bu s i).toNat : Int)]
      have e1 : ints (F.take i) ++ [[Value.int .i64 ((bu s i).toNat : Int)]] = ints (F.take (i + 1)) := by rw [hF, natsL_take s hi']; simp [ints]
      rw [e1] at s1
      simp only [List.map_cons, List.map_nil] at s1
      obtain ⟨i', hi1⟩ : ∃ i', i' = i + 1 := ⟨_, rfl⟩
      rw [← hi1] at ws s1
      simp only [push_cast, seval, hlt, hi', hbl, hg, hw, hll, a1, a2, s1, ws, flatRows, flatRow]
      refine ⟨_, ?_, hX ⟨i', by omega⟩ (by simp only; omega)⟩
      exact Weak.drop (by simp only [push_cast, seval, hi1]) (by simp only [push_cast, seval, hi1]) (by simp only [push_cast, seval, hi1])
    · have hie : i = s.size := by omega
      have hfin : F.take i = F := List.take_of_length_le (by rw [hF, natsL_length, hie]; exact Nat.le_refl _)
      rw [hfin] at hll
      simp only [hfin]
      simp only [Tryz.ntmps167, Tryz.results167, push_cast, seval, hlt, hll]
end Go.Proofs.YtbdjcpalpkijcaaGreatDoor

/- Entries read and told: by their code. -/
namespace Go.Proofs.YtbdjcpalpkijcaaGreatDoor
open Go.RowKit Go.Rx
set_option linter.unusedSimpArgs false
set_option maxRecDepth 100000

def rcB (s : ByteArray) : Bool := decide ((s.size : Int) ≤ 4) && confB (natsL s)
def rcX (s : ByteArray) : List X := if rcB s then [.one (.own 1 (vR (ints (natsL s)))), bo true] else [.one (.own 1 []), bo false]
theorem readConfI_ok (s : ByteArray) (hs : s.size ≤ 140737488355328) : PureFn Tryz.prog 145 [st s] (rcX s) := by
  refine PureFn_of_GoW Tryz.func145 rfl (by decide) mo (by decide +kernel) ?_
  by_cases c : (4 : Int) < (s.size : Int)
  · have hb : rcB s = false := by
      simp only [rcB]; rw [decide_eq_false (by omega), Bool.false_and]
    simp only [rcX, hb, Bool.false_eq_true, if_false]
    simp only [Tryz.ntmps145, Tryz.results145, push_cast, seval, c]
    refine ⟨_, Weak.nilRoot (0, 1) 1 2 rfl rfl rfl, ?_⟩
    simp only [Tryz.ntmps145, Tryz.results145, push_cast, seval]
  · have h4 : (s.size : Int) ≤ 4 := by omega
    have k := numbers_ok s (by omega)
    have k2 := confOkI_ok (natsL s) (by rw [natsL_length]; omega)
    have hl : (ints (natsL s)).length = s.size := by rw [ints_length, natsL_length]
    have ht : (vR (ints (natsL s))).take s.size = vR (ints (natsL s)) := List.take_of_length_le (by rw [vR_length, hl]; exact Nat.le_refl _)
    have hb : rcB s = confB (natsL s) := by simp only [rcB]; rw [decide_eq_true h4, Bool.true_and]
    simp only [Tryz.ntmps145, Tryz.results145, push_cast, seval, c]
    refine GoL_call rfl rfl k (by simp only [push_cast, seval]) rfl ?_
    simp only [Tryz.ntmps145, Tryz.results145, push_cast, seval, hl]
    refine GoL_call rfl (by simp only [push_cast, seval, ht]) k2 rfl rfl ?_
    cases c2 : confB (natsL s) with
    | true =>
      have hb2 := hb.trans c2
      simp only [rcX, hb2, if_true]
      simp only [Tryz.ntmps145, Tryz.results145, push_cast, seval]
      refine ⟨_, Weak.refl _, ?_⟩
      simp only [Tryz.ntmps145, Tryz.results145, push_cast, seval, hl]
    | false =>
      have hb2 := hb.trans c2
      simp only [rcX, hb2, Bool.false_eq_true, if_false]
      simp only [Tryz.ntmps145, Tryz.results145, push_cast, seval]
      refine ⟨_, Weak.nilRoot (0, 1) 1 2 rfl rfl rfl, ?_⟩
      simp only [Tryz.ntmps145, Tryz.results145, push_cast, seval]
theorem readConfS_ok (s : ByteArray) (hs : s.size ≤ 140737488355328) : PureFn Tryz.prog 118 [st s] (rcX s) := by
  refine PureFn_of_Go Tryz.func118 rfl (by decide) mo (by decide +kernel) ?_
  obtain ⟨F, hF⟩ : ∃ F, F = natsL s := ⟨_, rfl⟩
  have hFl : F.length = s.size := by rw [hF, natsL_length]
  obtain ⟨ret, hret⟩ : ∃ ret, ret = rcX s := ⟨_, rfl⟩
  rw [← hret]
  simp only [Tryz.ntmps118, Tryz.results118, push_cast, seval]
  refine Go_loop (α := {i : Nat // i ≤ s.size ∧ i ≤ 5})
    (fun i => ⟨tp 36 [(0, .x (st s)), (4, .x (.one (.rs (0, 1472) [] 1 0 i.1))), (5, int i.1)], 0, [((0, 1472), ⟨.sl, 1, vR (ints (F.take i.1))⟩)], []⟩) (fun i => s.size - i.1) ⟨0, Nat.zero_le _, by omega⟩ ?_ ?_
  · refine Weak.trans (Weak.rename (0, 384) (0, 1472) rfl rfl (by decide) rfl) ?_
    simp only [push_cast, seval, ints, List.map_nil, List.take_zero]
    exact Weak.same (by simp only [push_cast, seval, Int.ofNat_zero])
  · rintro ⟨i, hi, hi5⟩ X hX
    have hll : (ints (F.take i)).length = i := by rw [ints_length, List.length_take, hFl]; omega
    by_cases hlt : (i : Int) < (s.size : Int)
    · have hi' : i < s.size := by omega
      by_cases h4 : (i : Int) ≤ 4
      · have ws := wsucc hi' (by omega)
        have hb := bu_get hi'
        have hw : IntKind.i64.wrap ((bu s i).toNat : Int) = ((bu s i).toNat : Int) := wN rfl (by have := u8_lt (bu s i); omega)
        have a0 : i + 1 ≤ 4294967296 := by omega
        have a1 := max_len a0
        have a2 := room_le (b := 8) a0 (by decide)
        have s1 := vR_snoc (ints (F.take i)) [.int .i64 ((bu s i).toNat : Int)]
        have e1 : ints (F.take i) ++ [[Value.int .i64 ((bu s i).toNat : Int)]] = ints (F.take (i + 1)) := by rw [hF, natsL_take s hi']; simp [ints]
        rw [e1] at s1
        simp only [List.map_cons, List.map_nil] at s1
        obtain ⟨i', hi1⟩ : ∃ i', i' = i + 1 := ⟨_, rfl⟩
        rw [← hi1] at ws s1
        simp only [push_cast, seval, hlt, h4, hb, hw, hll, a1, a2, s1, ws, flatRows, flatRow]
        refine ⟨_, ?_, hX ⟨i', by omega, by omega⟩ (by simp only; omega)⟩
        exact Weak.drop (by simp only [push_cast, seval, hi1]) (by simp only [push_cast, seval, hi1]) (by simp only [push_cast, seval, hi1])
      · have hne : decide ((i : Int) = (s.size : Int)) = false := decide_eq_false (by omega)
        have hr : rcB s = false := by simp only [rcB]; rw [decide_eq_false (by omega), Bool.false_and]
        simp only [rcX, hr, Bool.false_eq_true, if_false] at hret
        subst hret
        simp only [Tryz.ntmps118, Tryz.results118, push_cast, seval, hlt, h4, decide_not, hne, hll]
    · have hie : i = s.size := by omega
      have hfin : F.take i = F := List.take_of_length_le (by rw [hFl, hie]; exact Nat.le_refl _)
      have heq : decide ((i : Int) = (s.size : Int)) = true := decide_eq_true (by omega)
      rw [hfin] at hll
      have k2 := confOkS_ok F (by rw [hFl]; omega)
      have ht : (vR (ints F)).take i = vR (ints F) := List.take_of_length_le (by rw [vR_length, hll]; exact Nat.le_refl _)
      have hr : rcB s = confB F := by
        simp only [rcB, ← hF]
        cases hc : confB F with
        | false => rw [Bool.and_false]
        | true =>
          simp only [confB, Bool.and_eq_true, decide_eq_true_eq] at hc
          have := rise_len hc.2
          rw [decide_eq_true (by omega)]; rfl
      simp only [hfin]
      simp only [Tryz.ntmps118, Tryz.results118, push_cast, seval, hlt, decide_not, heq, hll]
      refine GoL_call rfl (by simp only [push_cast, seval, ht]) k2 rfl rfl ?_
      cases c2 : confB F with
      | true =>
        simp only [rcX, hr.trans c2, if_true, ← hF] at hret
        subst hret
        simp only [Tryz.ntmps118, Tryz.results118, push_cast, seval, hll]
      | false =>
        simp only [rcX, hr.trans c2, Bool.false_eq_true, if_false] at hret
        subst hret
        simp only [Tryz.ntmps118, Tryz.results118, push_cast, seval, hll]

/-! ### entries -/
def entC (term kind : Int) (data : ByteArray) : List C := [.v (.int .i64 term), .v (.int .i64 kind), .v (.string data)]
def eoB (term kind : Int) (data : ByteArray) : Bool := inR term 0 100000 &&
  (if decide (kind = 1) then decide (data = ⟨#[]⟩) else if decide (kind = 2) then rcB data else if decide (kind = 3) then decide ((data.size : Int) ≤ 640) else false)
theorem rcX_true {s : ByteArray} (h : rcB s = true) : rcX s = [.one (.own 1 (vR (ints (natsL s)))), bo true] := by simp only [rcX, h, if_true]
theorem rcX_false {s : ByteArray} (h : rcB s = false) : rcX s = [.one (.own 1 []), bo false] := by simp only [rcX, h, Bool.false_eq_true, if_false]
theorem entryOkI_ok (term kind : Int) (data : ByteArray) (hd : data.size ≤ 140737488355328) : PureFn Tryz.prog 115 [.agg (entC term kind data)] [bo (eoB term kind data)] := by
  refine PureFn_of_Go Tryz.func115 rfl (by decide) mo (by decide +kernel) ?_
  have k1 := isTerm_ok term
  have k2 := readConfI_ok data hd
  simp only [Tryz.ntmps115, Tryz.results115, push_cast, seval, entC]
  refine GoL_call rfl rfl k1 rfl rfl ?_
  unfold eoB
  cases c0 : inR term 0 100000 with
  | false => simp only [Tryz.ntmps115, Tryz.results115, push_cast, seval]
  | true =>
    cases c1 : decide (kind = 1) with
    | true => simp only [Tryz.ntmps115, Tryz.results115, push_cast, seval, c1]
    | false =>
      cases c2 : decide (kind = 2) with
      | true =>
        simp only [Tryz.ntmps115, Tryz.results115, push_cast, seval, c1, c2]
        cases c3 : rcB data with
        | true =>
          rw [rcX_true c3] at k2
          refine GoL_call rfl rfl k2 (by simp only [push_cast, seval]) rfl ?_
          simp only [Tryz.ntmps115, Tryz.results115, push_cast, seval]
        | false =>
          rw [rcX_false c3] at k2
          refine GoL_call rfl rfl k2 rfl rfl ?_
          simp only [Tryz.ntmps115, Tryz.results115, push_cast, seval]
      | false =>
        cases c4 : decide (kind = 3) with
        | true => simp only [Tryz.ntmps115, Tryz.results115, push_cast, seval, c1, c2, c4]
        | false => simp only [Tryz.ntmps115, Tryz.results115, push_cast, seval, c1, c2, c4]
theorem entryOkS_ok (term kind : Int) (data : ByteArray) (hd : data.size ≤ 140737488355328) : PureFn Tryz.prog 91 [.agg (entC term kind data)] [bo (eoB term kind data)] := by
  refine PureFn_of_Go Tryz.func91 rfl (by decide) mo (by decide +kernel) ?_
  have k1 := l01In_ok term 0 100000
  have k2 := readConfS_ok data hd
  simp only [Tryz.ntmps91, Tryz.results91, push_cast, seval, entC]
  refine GoL_call rfl rfl k1 rfl rfl ?_
  rw [show (decide ((0 : Int) ≤ term) && decide (term ≤ 100000)) = inR term 0 100000 from rfl]
  unfold eoB
  cases c0 : inR term 0 100000 with
  | false => simp only [Tryz.ntmps91, Tryz.results91, push_cast, seval]
  | true =>
    cases c1 : decide (kind = 1) with
    | true => simp only [Tryz.ntmps91, Tryz.results91, push_cast, seval, c1]
    | false =>
      cases c2 : decide (kind = 2) with
      | true =>
        simp only [Tryz.ntmps91, Tryz.results91, push_cast, seval, c1, c2]
        cases c3 : rcB data with
        | true =>
          rw [rcX_true c3] at k2
          refine GoL_call rfl rfl k2 (by simp only [push_cast, seval]) rfl ?_
          simp only [Tryz.ntmps91, Tryz.results91, push_cast, seval]
        | false =>
          rw [rcX_false c3] at k2
          refine GoL_call rfl rfl k2 rfl rfl ?_
          simp only [Tryz.ntmps91, Tryz.results91, push_cast, seval]
      | false =>
        cases c4 : decide (kind = 3) with
        | true => simp only [Tryz.ntmps91, Tryz.results91, push_cast, seval, c1, c2, c4]
        | false => simp only [Tryz.ntmps91, Tryz.results91, push_cast, seval, c1, c2, c4]

def etB (index term kind : Nat) (data : ByteArray) : ByteArray := (((⟨#[69]⟩ ++ varB index) ++ varB term) ++ ⟨[UInt8.ofNat kind].toArray⟩) ++ data
def etOk (index term kind : Nat) (data : ByteArray) : Bool := eoB term kind data && inR index 1 1000000
def etX (index term kind : Nat) (data : ByteArray) : List X := if etOk index term kind data then [st (etB index term kind data), bo true] else [st ⟨#[]⟩, bo false]
theorem entryTextS_ok (index term kind : Nat) (hi : index ≤ 1000000000) (ht : term ≤ 1000000000) (data : ByteArray) (hd : data.size ≤ 140737488355328) : PureFn Tryz.prog 65 [i64 index, .agg (entC term kind data)] (etX index term kind data) := by
  refine PureFn_of_Go Tryz.func65 rfl (by decide) mo (by decide +kernel) ?_
  have k1 := entryOkS_ok term kind data hd
  have k2 := l01In_ok index 1 1000000
  rw [show (decide ((1 : Int) ≤ (index : Int)) && decide ((index : Int) ≤ 1000000)) = inR index 1 1000000 from rfl] at k2
  simp only [entC] at k1
  simp only [Tryz.ntmps65, Tryz.results65, push_cast, seval, entC]
  refine GoL_call rfl rfl k1 rfl rfl ?_
  cases c1 : eoB term kind data with
  | false =>
    have hx : etX index term kind data = [st ⟨#[]⟩, bo false] := by simp only [etX, etOk, c1, Bool.false_and, Bool.false_eq_true, if_false]
    rw [hx]
    simp only [Tryz.ntmps65, Tryz.results65, push_cast, seval]
  | true =>
    simp only [Tryz.ntmps65, Tryz.results65, push_cast, seval]
    refine GoL_call rfl rfl k2 rfl rfl ?_
    cases c2 : inR index 1 1000000 with
    | false =>
      have hx : etX index term kind data = [st ⟨#[]⟩, bo false] := by simp only [etX, etOk, c1, c2, Bool.true_and, Bool.false_eq_true, if_false]
      rw [hx]
      simp only [Tryz.ntmps65, Tryz.results65, push_cast, seval]
    | true =>
      have hx : etX index term kind data = [st (etB index term kind data), bo true] := by simp only [etX, etOk, c1, c2, Bool.true_and, if_true]
      rw [hx]
      have h1 := varB_size index
      have h2 := varB_size term
      have e1 : (⟨#[69]⟩ : ByteArray).size = 1 := rfl
      have r1 : (⟨#[69]⟩ : ByteArray).size + (varB index).size ≤ 9223372036854775807 := by omega
      have r2 : (⟨#[69]⟩ ++ varB index).size + (varB term).size ≤ 9223372036854775807 := by rw [ByteArray.size_append]; omega
      have w := wu8 (n := kind)
      have hf := str_natsOf [UInt8.ofNat kind]
      simp only [natsOf, List.map_cons, List.map_nil] at hf
      obtain ⟨c, hc⟩ : ∃ c, c = UInt8.ofNat kind := ⟨_, rfl⟩
      unfold etB
      rw [← hc] at w hf ⊢
      obtain ⟨kk, hkk⟩ : ∃ kk : ByteArray, kk = ⟨[c].toArray⟩ := ⟨_, rfl⟩
      rw [← hkk] at hf ⊢
      have e2 : kk.size = 1 := by rw [hkk]; rfl
      have r3 : ((⟨#[69]⟩ ++ varB index) ++ varB term).size + kk.size ≤ 9223372036854775807 := by rw [ByteArray.size_append, ByteArray.size_append]; omega
      have r4 : (((⟨#[69]⟩ ++ varB index) ++ varB term) ++ kk).size + data.size ≤ 9223372036854775807 := by rw [ByteArray.size_append, ByteArray.size_append, ByteArray.size_append]; omega
      simp only [Tryz.ntmps65, Tryz.results65, push_cast, seval]
      refine GoD_call rfl rfl (l01Var_ok index (by omega)) rfl rfl ?_
      simp only [Tryz.ntmps65, Tryz.results65, push_cast, seval, r1]
      refine GoD_call rfl rfl (l01Var_ok term (by omega)) rfl rfl ?_
      simp only [Tryz.ntmps65, Tryz.results65, push_cast, seval, r1, r2, w, hf, r3, r4]
end Go.Proofs.YtbdjcpalpkijcaaGreatDoor

/- ReadEntry: both ways come to the same. -/
namespace Go.Proofs.YtbdjcpalpkijcaaGreatDoor
open Go.RowKit Go.Rx
set_option linter.unusedSimpArgs false
set_option maxRecDepth 100000

theorem numB_false {s : ByteArray} {a : Nat} {b : Bool} (h : numB s a b = false) : b = false ∧ ∃ n x, rvO s a = some (n, x) ∧ numN s a b = n ∧ numA s a b = x := by
  cases b with
  | true => simp [numB] at h
  | false =>
    cases hr : rvO s a with
    | none => simp [numB, hr] at h
    | some p =>
      obtain ⟨n, x⟩ := p
      exact ⟨rfl, n, x, rfl, by simp [numN, hr], by simp [numA, hr]⟩
theorem takeB_false {s : ByteArray} {a n : Nat} {b : Bool} (h : takeB s a b n = false) : b = false ∧ a + n ≤ s.size ∧ takeA s a b n = a + n ∧ takeT s a b n = s.extract a (a + n) := by
  have ho : takeOk s a b n = true := by simpa [takeB] using h
  refine ⟨?_, ?_, by simp only [takeA, ho, if_true], by simp only [takeT, ho, if_true]⟩
  · simp [takeOk] at ho; exact ho.1
  · simp [takeOk] at ho; exact ho.2
theorem seg_all (s : ByteArray) : seg s 0 s.size = s.data.toList := by
  unfold seg
  have : s.data.toList.length = s.size := by rw [Array.length_toList]; rfl
  rw [List.drop_zero, ← this, List.take_length]
/-! ### where the parts stand -/
def eA1 (s : ByteArray) : Nat := takeA s 0 false 1
def eB1 (s : ByteArray) : Bool := takeB s 0 false 1
def eN1 (s : ByteArray) : Nat := numN s (eA1 s) (eB1 s)
def eA2 (s : ByteArray) : Nat := numA s (eA1 s) (eB1 s)
def eB2 (s : ByteArray) : Bool := numB s (eA1 s) (eB1 s)
def eN2 (s : ByteArray) : Nat := numN s (eA2 s) (eB2 s)
def eA3 (s : ByteArray) : Nat := numA s (eA2 s) (eB2 s)
def eB3 (s : ByteArray) : Bool := numB s (eA2 s) (eB2 s)
def eK (s : ByteArray) : Nat := octN s (eA3 s) (eB3 s)
def eA4 (s : ByteArray) : Nat := takeA s (eA3 s) (eB3 s) 1
def eB4 (s : ByteArray) : Bool := takeB s (eA3 s) (eB3 s) 1
def eD (s : ByteArray) : ByteArray := s.extract (eA4 s) s.size
def eOk (s : ByteArray) : Bool := (!eB4 s && decide (takeT s 0 false 1 = ⟨#[69]⟩)) && (inR (eN1 s) 1 1000000 && eoB (eN2 s) (eK s) (eD s))
def eX (s : ByteArray) : List X := if eOk s then [i64 (eN1 s), .agg (entC (eN2 s) (eK s) (eD s)), bo true] else [i64 0, .agg (entC 0 0 ⟨#[]⟩), bo false]
theorem eX_true {s : ByteArray} (h : eOk s = true) : eX s = [i64 (eN1 s), .agg (entC (eN2 s) (eK s) (eD s)), bo true] := by simp only [eX, h, if_true]
theorem eX_false {s : ByteArray} (h : eOk s = false) : eX s = [i64 0, .agg (entC 0 0 ⟨#[]⟩), bo false] := by simp only [eX, h, Bool.false_eq_true, if_false]
theorem eA1_le (s : ByteArray) : eA1 s ≤ s.size := takeA_le (Nat.zero_le _)
theorem eA2_le (s : ByteArray) : eA2 s ≤ s.size := numA_le (eA1_le s)
theorem eA3_le (s : ByteArray) : eA3 s ≤ s.size := numA_le (eA2_le s)
theorem eA4_le (s : ByteArray) : eA4 s ≤ s.size := takeA_le (eA3_le s)
theorem e_iff {s : ByteArray} (h : eB4 s = false) : etB (eN1 s) (eN2 s) (eK s) (eD s) = s ↔ takeT s 0 false 1 = ⟨#[69]⟩ := by
  obtain ⟨h3, hs4, ha4, _⟩ := takeB_false h
  obtain ⟨h2, n2, x3, r2, e2, f2⟩ := numB_false h3
  obtain ⟨h1, n1, x2, r1, e1, f1⟩ := numB_false h2
  obtain ⟨_, hs1, ha1, ht1⟩ := takeB_false h1
  have hA1 : eA1 s = 1 := by rw [eA1, ha1]
  have hN1 : eN1 s = n1 := e1
  have hA2 : eA2 s = x2 := f1
  have hN2 : eN2 s = n2 := e2
  have hA3 : eA3 s = x3 := f2
  rw [hA1] at r1
  rw [hA2] at r2
  rw [hA3] at hs4
  have hA4 : eA4 s = x3 + 1 := by rw [eA4, ha4, hA3]
  have hK : eK s = (bu s x3).toNat := by
    have ho : takeOk s (eA3 s) (eB3 s) 1 = true := by simpa [eB4, takeB] using h
    rw [eK, octN, if_pos ho, hA3]
  have c1 := rvO_canon r1
  have c2 := rvO_canon r2
  obtain ⟨_, _, b1, b1'⟩ := rvO_bound r1
  obtain ⟨_, _, b2, b2'⟩ := rvO_bound r2
  have g3 : seg s x3 1 = [bu s x3] := by rw [show (1 : Nat) = 0 + 1 from rfl, seg_succ (by omega), seg_zero]; rfl
  have L : (etB (eN1 s) (eN2 s) (eK s) (eD s)).data.toList = [69] ++ (seg s 1 (x2 - 1) ++ (seg s x2 (x3 - x2) ++ (seg s x3 1 ++ seg s (x3 + 1) (s.size - (x3 + 1))))) := by
    unfold etB eD
    rw [app_list, app_list, app_list, app_list, varB_list, varB_list, hN1, hN2, c1, c2, hK, hA4, extract_list, g3]
    simp
  have R : s.data.toList = seg s 0 1 ++ (seg s 1 (x2 - 1) ++ (seg s x2 (x3 - x2) ++ (seg s x3 1 ++ seg s (x3 + 1) (s.size - (x3 + 1))))) := by
    rw [← seg_all s, show s.size = 1 + ((x2 - 1) + ((x3 - x2) + (1 + (s.size - (x3 + 1))))) by omega]
    rw [seg_append, show (0 : Nat) + 1 = 1 from rfl, seg_append, show 1 + (x2 - 1) = x2 by omega, seg_append, show x2 + (x3 - x2) = x3 by omega, seg_append]
    rw [show 1 + (x2 - 1 + (x3 - x2 + (1 + (s.size - (x3 + 1))))) - (x3 + 1) = s.size - (x3 + 1) by omega]
  have T : (takeT s 0 false 1).data.toList = seg s 0 1 := by rw [ht1, extract_list]
  constructor
  · intro hh
    refine bytes_ext ?_
    rw [T]
    have : (etB (eN1 s) (eN2 s) (eK s) (eD s)).data.toList = s.data.toList := by rw [hh]
    rw [L] at this
    conv at this => rhs; rw [R]
    exact (List.append_cancel_right this).symm
  · intro hh
    refine bytes_ext ?_
    rw [L]
    conv => rhs; rw [R]
    rw [← T, hh]

end Go.Proofs.YtbdjcpalpkijcaaGreatDoor

/- Names and commands: what these functions return, by their code. -/
namespace Go.Proofs.YtbdjcpalpkijcaaGreatDoor
open Go.RowKit Go.Rx
set_option linter.unusedSimpArgs false
set_option maxRecDepth 100000

/-! ### names -/
def letP (s : ByteArray) (i : Nat) : Prop := (97 ≤ (bu s i).toNat ∧ (bu s i).toNat ≤ 122) ∨ (i ≠ 0 ∧ 48 ≤ (bu s i).toNat ∧ (bu s i).toNat ≤ 57)
def nameP (s : ByteArray) : Prop := ∀ i, i < s.size → letP s i
instance (s : ByteArray) (i : Nat) : Decidable (letP s i) := by unfold letP; infer_instance
instance (s : ByteArray) : Decidable (nameP s) := by unfold nameP; infer_instance
def nameB (s : ByteArray) : Bool := decide (nameP s) && inR s.size 1 8
theorem nameI_ok (s : ByteArray) (hs : s.size ≤ 140737488355328) : PureFn Tryz.prog 107 [st s] [bo (nameB s)] := by
  refine PureFn_of_Go Tryz.func107 rfl (by decide) mo (by decide +kernel) ?_
  obtain ⟨r, hr⟩ : ∃ r, r = nameB s := ⟨_, rfl⟩
  rw [← hr]
  simp only [Tryz.ntmps107, Tryz.results107, push_cast, seval]
  refine Go_loop (α := {i : Nat // i ≤ s.size ∧ ∀ j, j < i → letP s j})
    (fun i => ⟨tp 42 [(0, .x (st s)), (3, int i.1)], 0, [], []⟩) (fun i => s.size - i.1) ⟨0, by omega, fun j h => absurd h (Nat.not_lt_zero _)⟩ ?_ ?_
  · exact Weak.same (by simp only [push_cast, seval, Int.ofNat_zero])
  · rintro ⟨i, hi, hall⟩ X hX
    by_cases hlt : (i : Int) < (s.size : Int)
    · have hi' : i < s.size := by omega
      have hb := bu_get hi'
      have ws := wsucc hi' hs
      obtain ⟨i', hi1⟩ : ∃ i', i' = i + 1 := ⟨_, rfl⟩
      rw [← hi1] at ws
      have bad : ¬ letP s i → r = false := fun h => by
        rw [hr, nameB, decide_eq_false fun hp => h (hp i hi'), Bool.false_and]
      have next : letP s i → ∀ j, j < i' → letP s j := fun h j hj => by
        by_cases e : j = i
        · subst e; exact h
        · exact hall j (by omega)
      by_cases c1 : (97 : Int) ≤ ((bu s i).toNat : Int)
      · by_cases c2 : ((bu s i).toNat : Int) ≤ 122
        · simp only [push_cast, seval, hlt, hb, c1, c2, ws]
          refine ⟨_, ?_, hX ⟨i', by omega, next (.inl ⟨by omega, by omega⟩)⟩ (by simp only; omega)⟩
          exact Weak.same (by simp only [push_cast, seval])
        · have hf := bad (by unfold letP; omega)
          subst hf
          have c5 : (57 : Int) < ((bu s i).toNat : Int) := by omega
          have c4 : ¬ ((bu s i).toNat : Int) < 48 := by omega
          cases c3 : decide ((i : Int) = 0) with
          | true => simp only [Tryz.ntmps107, Tryz.results107, push_cast, seval, hlt, hb, c1, c2, c3]
          | false => simp only [Tryz.ntmps107, Tryz.results107, push_cast, seval, hlt, hb, c1, c2, c3, c4, c5]
      · cases c3 : decide ((i : Int) = 0) with
        | true =>
          have := of_decide_eq_true c3
          have hf := bad (by unfold letP; omega)
          subst hf
          simp only [Tryz.ntmps107, Tryz.results107, push_cast, seval, hlt, hb, c1, c3]
        | false =>
          have := of_decide_eq_false c3
          by_cases c4 : ((bu s i).toNat : Int) < 48
          · have hf := bad (by unfold letP; omega)
            subst hf
            simp only [Tryz.ntmps107, Tryz.results107, push_cast, seval, hlt, hb, c1, c3, c4]
          · by_cases c5 : (57 : Int) < ((bu s i).toNat : Int)
            · have hf := bad (by unfold letP; omega)
              subst hf
              simp only [Tryz.ntmps107, Tryz.results107, push_cast, seval, hlt, hb, c1, c3, c4, c5]
            · simp only [push_cast, seval, hlt, hb, c1, c3, c4, c5, ws]
              refine ⟨_, ?_, hX ⟨i', by omega, next (.inr ⟨by omega, by omega, by omega⟩)⟩ (by simp only; omega)⟩
              exact Weak.same (by simp only [push_cast, seval])
    · have ht : r = inR s.size 1 8 := by
        have hp : nameP s := fun j hj => hall j (by omega)
        rw [hr, nameB, decide_eq_true hp, Bool.true_and]
      subst ht
      have k := inRange_ok s.size 1 8
      rw [show (decide ((1 : Int) ≤ (s.size : Int)) && decide ((s.size : Int) ≤ 8)) = inR s.size 1 8 from rfl] at k
      simp only [Tryz.ntmps107, Tryz.results107, push_cast, seval, hlt]
      refine GoL_call rfl rfl k rfl rfl ?_
      simp only [Tryz.ntmps107, Tryz.results107, push_cast, seval]
theorem nameS_ok (s : ByteArray) (hs : s.size ≤ 140737488355328) : PureFn Tryz.prog 126 [st s] [bo (nameB s)] := by
  refine PureFn_of_Go Tryz.func126 rfl (by decide) mo (by decide +kernel) ?_
  have k := l01In_ok s.size 1 8
  rw [show (decide ((1 : Int) ≤ (s.size : Int)) && decide ((s.size : Int) ≤ 8)) = inR s.size 1 8 from rfl] at k
  obtain ⟨r, hr⟩ : ∃ r, r = nameB s := ⟨_, rfl⟩
  rw [← hr]
  simp only [Tryz.ntmps126, Tryz.results126, push_cast, seval]
  refine GoL_call rfl rfl k rfl rfl ?_
  cases c0 : inR s.size 1 8 with
  | false =>
    have hf : r = false := by rw [hr, nameB, c0, Bool.and_false]
    subst hf
    simp only [Tryz.ntmps126, Tryz.results126, push_cast, seval]
  | true =>
  have h1 := inR_spec.1 c0
  have h0 : 0 < s.size := by omega
  have hb0 := bu_get h0
  have hix := index_str (P := Tryz.prog) (t := 9) s 0 .i64
  rw [show ((0 : Nat) : Int) = 0 from rfl, hb0] at hix
  have bad : ∀ i, i < s.size → ¬ letP s i → r = false := fun i hi h => by
    rw [hr, nameB, decide_eq_false fun hp => h (hp i hi), Bool.false_and]
  by_cases d1 : ((bu s 0).toNat : Int) < 97
  · have hf := bad 0 h0 (by unfold letP; omega)
    subst hf
    simp only [Tryz.ntmps126, Tryz.results126, push_cast, seval, hix, d1]
  by_cases d2 : (122 : Int) < ((bu s 0).toNat : Int)
  · have hf := bad 0 h0 (by unfold letP; omega)
    subst hf
    simp only [Tryz.ntmps126, Tryz.results126, push_cast, seval, hix, d1, d2]
  simp only [Tryz.ntmps126, Tryz.results126, push_cast, seval, hix, d1, d2]
  refine Go_loop (α := {i : Nat // i ≤ s.size ∧ ∀ j, j < i → letP s j})
    (fun i => ⟨tp 46 [(0, .x (st s)), (3, int i.1)], 0, [], []⟩) (fun i => s.size - i.1) ⟨0, by omega, fun j h => absurd h (Nat.not_lt_zero _)⟩ ?_ ?_
  · exact Weak.same (by simp only [push_cast, seval, Int.ofNat_zero])
  · rintro ⟨i, hi, hall⟩ X hX
    by_cases hlt : (i : Int) < (s.size : Int)
    · have hi' : i < s.size := by omega
      have hb := bu_get hi'
      have ws := wsucc hi' hs
      obtain ⟨i', hi1⟩ : ∃ i', i' = i + 1 := ⟨_, rfl⟩
      rw [← hi1] at ws
      have next : letP s i → ∀ j, j < i' → letP s j := fun h j hj => by
        by_cases e : j = i
        · subst e; exact h
        · exact hall j (by omega)
      have first : i = 0 → 97 ≤ (bu s i).toNat ∧ (bu s i).toNat ≤ 122 := fun e => by subst e; omega
      by_cases c1 : ((bu s i).toNat : Int) < 97
      · by_cases c4 : ((bu s i).toNat : Int) < 48
        · have hf := bad i hi' (by unfold letP; omega)
          subst hf
          simp only [Tryz.ntmps126, Tryz.results126, push_cast, seval, hlt, hb, c1, c4]
        · by_cases c5 : (57 : Int) < ((bu s i).toNat : Int)
          · have hf := bad i hi' (by unfold letP; omega)
            subst hf
            simp only [Tryz.ntmps126, Tryz.results126, push_cast, seval, hlt, hb, c1, c4, c5]
          · simp only [push_cast, seval, hlt, hb, c1, c4, c5, ws]
            refine ⟨_, ?_, hX ⟨i', by omega, next (.inr ⟨fun e => by have := first e; omega, by omega, by omega⟩)⟩ (by simp only; omega)⟩
            exact Weak.same (by simp only [push_cast, seval])
      · by_cases c2 : (122 : Int) < ((bu s i).toNat : Int)
        · have hf := bad i hi' (by unfold letP; omega)
          subst hf
          have c4 : ¬ ((bu s i).toNat : Int) < 48 := by omega
          have c5 : (57 : Int) < ((bu s i).toNat : Int) := by omega
          simp only [Tryz.ntmps126, Tryz.results126, push_cast, seval, hlt, hb, c1, c2, c4, c5]
        · simp only [push_cast, seval, hlt, hb, c1, c2, ws]
          refine ⟨_, ?_, hX ⟨i', by omega, next (.inl ⟨by omega, by omega⟩)⟩ (by simp only; omega)⟩
          exact Weak.same (by simp only [push_cast, seval])
    · have ht : r = true := by
        have hp : nameP s := fun j hj => hall j (by omega)
        rw [hr, nameB, decide_eq_true hp, c0]; rfl
      subst ht
      simp only [Tryz.ntmps126, Tryz.results126, push_cast, seval, hlt]
theorem isMinute_ok (n : Int) : PureFn Tryz.prog 77 [i64 n] [bo (inR n 0 68374079)] := by
  refine PureFn_of_Go Tryz.func77 rfl (by decide) mo (by decide +kernel) ?_
  simp only [Tryz.ntmps77, Tryz.results77, push_cast, seval]
  refine GoL_call rfl rfl (inRange_ok n 0 68374079) rfl rfl ?_
  simp only [Tryz.ntmps77, Tryz.results77, push_cast, seval, inR]

/-! ### commands -/
structure Cmd where
  op : Int
  tok : Int
  seq : Int
  text : ByteArray
  task : ByteArray
  num : Int
  to_ : Int
  yes : Bool
def Cmd.enc (x : Cmd) : List C := [.v (.int .i64 x.op), .v (.int .i64 x.tok), .v (.int .i64 x.seq), .v (.string x.text), .v (.string x.task), .v (.int .i64 x.num), .v (.int .i64 x.to_), .v (.bool x.yes)]
def Cmd.Ok (x : Cmd) : Prop := x.text.size ≤ 140737488355328 ∧ x.task.size ≤ 140737488355328
def restB (x : Cmd) (text task num to_ yes : Bool) : Bool :=
  ((((text || decide (x.text = ⟨#[]⟩)) && (task || decide (x.task = ⟨#[]⟩))) && (num || decide (x.num = 0))) && (to_ || decide (x.to_ = 0))) && (yes || !x.yes)

end Go.Proofs.YtbdjcpalpkijcaaGreatDoor

/- Commands: right ones. -/

namespace Go.Proofs.YtbdjcpalpkijcaaGreatDoor
open Go.RowKit Go.Rx
set_option linter.unusedSimpArgs false
set_option maxRecDepth 100000

def eqB (text task : ByteArray) (num to_ : Int) (yes : Bool) : Bool := (((decide (text = ⟨#[]⟩) && decide (task = ⟨#[]⟩)) && decide (num = 0)) && decide (to_ = 0)) && !yes
def cokB (x : Cmd) : Bool := (inR x.tok 0 1000000 && inR x.seq 0 1000000) &&
  (if decide (x.op = 1) then (decide (x.tok = 0) && decide (x.seq = 0)) && restB x false false false false false
   else if decide (x.op = 2) then decide ((x.text.size : Int) ≤ 600) && restB x true false false false false
   else if decide (x.op = 3) then nameB x.text && restB x true false false false true
   else if decide (x.op = 4) then inR x.num 0 68374079 && restB x false false true false false
   else if decide (x.op = 5) then restB x false false false false false
   else if decide (x.op = 6) then inR x.num 0 1000000000 && restB x false false true false false
   else if decide (x.op = 7) then inR x.num 0 1000000000 && restB x false false true false true
   else if decide (x.op = 8) then ((nameB x.text && inR x.num 0 68374079) && inR x.to_ 0 68374079) && restB x true false true true false
   else if decide (x.op = 9) then ((nameB x.text && inR x.num 0 68374079) && nameB x.task) && restB x true true true false false
   else false)
theorem restB_eq (x : Cmd) (t a n o y : Bool) : restB x t a n o y = eqB (if t then ⟨#[]⟩ else x.text) (if a then ⟨#[]⟩ else x.task) (if n then 0 else x.num) (if o then 0 else x.to_) (if y then false else x.yes) := by
  unfold restB eqB
  cases t <;> cases a <;> cases n <;> cases o <;> cases y <;> simp

end Go.Proofs.YtbdjcpalpkijcaaGreatDoor

/- Commands told and read: by their code. -/
namespace Go.Proofs.YtbdjcpalpkijcaaGreatDoor
open Go.RowKit Go.Rx
set_option linter.unusedSimpArgs false
set_option maxRecDepth 100000

def oneB (n : Nat) : ByteArray := ⟨[UInt8.ofNat n].toArray⟩
theorem l17Byte_ok (n : Nat) : PureFn Tryz.prog 100 [i64 n] [st (oneB n)] := by
  refine PureFn_of_Go Tryz.func100 rfl (by decide) mo (by decide +kernel) ?_
  have w := wu8 (n := n)
  have hf := str_natsOf [UInt8.ofNat n]
  simp only [natsOf, List.map_cons, List.map_nil] at hf
  unfold oneB
  obtain ⟨c, hc⟩ : ∃ c, c = UInt8.ofNat n := ⟨_, rfl⟩
  rw [← hc] at w hf ⊢
  simp only [Tryz.ntmps100, Tryz.results100, push_cast, seval, w, hf]
def shortB (t : ByteArray) : ByteArray := varB t.size ++ t
theorem l17Short_ok (t : ByteArray) (ht : t.size ≤ 4000000000) : PureFn Tryz.prog 68 [st t] [st (shortB t)] := by
  refine PureFn_of_Go Tryz.func68 rfl (by decide) mo (by decide +kernel) ?_
  simp only [Tryz.ntmps68, Tryz.results68, push_cast, seval]
  refine GoL_call rfl rfl (l01Var_ok t.size (by omega)) rfl rfl ?_
  have h1 := varB_size t.size
  have h2 : (varB t.size).size + t.size ≤ 9223372036854775807 := by omega
  simp only [Tryz.ntmps68, Tryz.results68, push_cast, seval, h2, shortB]
def flB (y : Bool) : ByteArray := if y then ⟨#[1]⟩ else ⟨#[0]⟩
theorem l17Flag_ok (y : Bool) : PureFn Tryz.prog 70 [bo y] [st (flB y)] := by
  refine PureFn_of_Go Tryz.func70 rfl (by decide) mo (by decide +kernel) ?_
  cases y with
  | true => simp only [Tryz.ntmps70, Tryz.results70, push_cast, seval, flB]
  | false => simp only [Tryz.ntmps70, Tryz.results70, push_cast, seval, flB, Bool.false_eq_true]

theorem rest_text {x : Cmd} {a n o y : Bool} (h : restB x false a n o y = true) : x.text.size ≤ 600 := by
  simp only [restB, Bool.and_eq_true, Bool.or_eq_true, Bool.false_eq_true, false_or, decide_eq_true_eq] at h
  rw [h.1.1.1.1]; decide
theorem rest_task {x : Cmd} {t n o y : Bool} (h : restB x t false n o y = true) : x.task.size ≤ 600 := by
  simp only [restB, Bool.and_eq_true, Bool.or_eq_true, Bool.false_eq_true, false_or, decide_eq_true_eq] at h
  rw [h.1.1.1.2]; decide
theorem name_len {s : ByteArray} (h : nameB s = true) : s.size ≤ 600 := by
  simp only [nameB, Bool.and_eq_true] at h
  have := inR_spec.1 h.2
  omega
theorem cok_len {x : Cmd} (h : cokB x = true) : x.text.size ≤ 600 ∧ x.task.size ≤ 600 := by
  unfold cokB at h
  rw [Bool.and_eq_true] at h
  have h := h.2
  split at h
  · rw [Bool.and_eq_true] at h; exact ⟨rest_text h.2, rest_task h.2⟩
  split at h
  · rw [Bool.and_eq_true] at h; exact ⟨by have := of_decide_eq_true h.1; omega, rest_task h.2⟩
  split at h
  · rw [Bool.and_eq_true] at h; exact ⟨name_len h.1, rest_task h.2⟩
  split at h
  · rw [Bool.and_eq_true] at h; exact ⟨rest_text h.2, rest_task h.2⟩
  split at h
  · exact ⟨rest_text h, rest_task h⟩
  split at h
  · rw [Bool.and_eq_true] at h; exact ⟨rest_text h.2, rest_task h.2⟩
  split at h
  · rw [Bool.and_eq_true] at h; exact ⟨rest_text h.2, rest_task h.2⟩
  split at h
  · simp only [Bool.and_eq_true] at h; exact ⟨name_len h.1.1.1, rest_task h.2⟩
  split at h
  · simp only [Bool.and_eq_true] at h; exact ⟨name_len h.1.1.1, name_len h.1.2⟩
  · cases h

def mkC (o tok seq : Nat) (text task : ByteArray) (num to_ : Nat) (yes : Bool) : Cmd := ⟨o, tok, seq, text, task, num, to_, yes⟩
def ctB (o tok seq : Nat) (text task : ByteArray) (num to_ : Nat) (yes : Bool) : ByteArray :=
  ((((((oneB o ++ varB tok) ++ varB seq) ++ shortB text) ++ shortB task) ++ varB num) ++ varB to_) ++ flB yes
end Go.Proofs.YtbdjcpalpkijcaaGreatDoor

/- ReadCommand: both ways come to the same. -/
namespace Go.Proofs.YtbdjcpalpkijcaaGreatDoor
open Go.RowKit Go.Rx
set_option linter.unusedSimpArgs false
set_option maxRecDepth 100000

/-! ### where the parts stand, the reference's way -/
def cO (s : ByteArray) : Nat := octN s 0 false
def cA1 (s : ByteArray) : Nat := takeA s 0 false 1
def cB1 (s : ByteArray) : Bool := takeB s 0 false 1
def cTok (s : ByteArray) : Nat := numN s (cA1 s) (cB1 s)
def cA2 (s : ByteArray) : Nat := numA s (cA1 s) (cB1 s)
def cB2 (s : ByteArray) : Bool := numB s (cA1 s) (cB1 s)
def cSeq (s : ByteArray) : Nat := numN s (cA2 s) (cB2 s)
def cA3 (s : ByteArray) : Nat := numA s (cA2 s) (cB2 s)
def cB3 (s : ByteArray) : Bool := numB s (cA2 s) (cB2 s)
def cText (s : ByteArray) : ByteArray := l5T s (cA3 s) (cB3 s)
def cA4 (s : ByteArray) : Nat := l5A s (cA3 s) (cB3 s)
def cB4 (s : ByteArray) : Bool := l5B s (cA3 s) (cB3 s)
def cTask (s : ByteArray) : ByteArray := l5T s (cA4 s) (cB4 s)
def cA5 (s : ByteArray) : Nat := l5A s (cA4 s) (cB4 s)
def cB5 (s : ByteArray) : Bool := l5B s (cA4 s) (cB4 s)
def cNum (s : ByteArray) : Nat := numN s (cA5 s) (cB5 s)
def cA6 (s : ByteArray) : Nat := numA s (cA5 s) (cB5 s)
def cB6 (s : ByteArray) : Bool := numB s (cA5 s) (cB5 s)
def cTo (s : ByteArray) : Nat := numN s (cA6 s) (cB6 s)
def cA7 (s : ByteArray) : Nat := numA s (cA6 s) (cB6 s)
def cB7 (s : ByteArray) : Bool := numB s (cA6 s) (cB6 s)
def cY (s : ByteArray) : Nat := octN s (cA7 s) (cB7 s)
def cA8 (s : ByteArray) : Nat := takeA s (cA7 s) (cB7 s) 1
def cB8 (s : ByteArray) : Bool := takeB s (cA7 s) (cB7 s) 1
def cYes (s : ByteArray) : Bool := decide ((cY s : Int) = 1)
def cX (s : ByteArray) : Cmd := mkC (cO s) (cTok s) (cSeq s) (cText s) (cTask s) (cNum s) (cTo s) (cYes s)
def cT (s : ByteArray) : ByteArray := ctB (cO s) (cTok s) (cSeq s) (cText s) (cTask s) (cNum s) (cTo s) (cYes s)
theorem l5A_le {s : ByteArray} {a : Nat} {b : Bool} (ha : a ≤ s.size) : l5A s a b ≤ s.size := takeA_le (numA_le ha)
theorem cA1_le (s : ByteArray) : cA1 s ≤ s.size := takeA_le (Nat.zero_le _)
theorem cA2_le (s : ByteArray) : cA2 s ≤ s.size := numA_le (cA1_le s)
theorem cA3_le (s : ByteArray) : cA3 s ≤ s.size := numA_le (cA2_le s)
theorem cA4_le (s : ByteArray) : cA4 s ≤ s.size := l5A_le (cA3_le s)
theorem cA5_le (s : ByteArray) : cA5 s ≤ s.size := l5A_le (cA4_le s)
theorem cA6_le (s : ByteArray) : cA6 s ≤ s.size := numA_le (cA5_le s)
theorem cA7_le (s : ByteArray) : cA7 s ≤ s.size := numA_le (cA6_le s)
theorem takeT_size (s : ByteArray) (a : Nat) (b : Bool) (n : Nat) : (takeT s a b n).size ≤ s.size := by
  unfold takeT
  split
  · rw [ByteArray.size_extract]; omega
  · exact Nat.zero_le _

/-- A number that was read well. -/
theorem num_good {s : ByteArray} {a : Nat} {b : Bool} (h : numB s a b = false) : b = false ∧ a < numA s a b ∧ numA s a b ≤ s.size ∧ varL (numN s a b) = seg s a (numA s a b - a) := by
  obtain ⟨h1, n, x, hr, e1, e2⟩ := numB_false h
  obtain ⟨_, _, h2, h3⟩ := rvO_bound hr
  rw [e1, e2]
  exact ⟨h1, by omega, h3, rvO_canon hr⟩
theorem short_good {s : ByteArray} {a : Nat} {b : Bool} (h : l5B s a b = false) : b = false ∧ a < l5A s a b ∧ l5A s a b ≤ s.size ∧ (shortB (l5T s a b)).data.toList = seg s a (l5A s a b - a) ∧ (l5T s a b).size = numN s a b := by
  obtain ⟨h1, h2, h3, h4⟩ := takeB_false (show takeB s (numA s a b) (numB s a b) (numN s a b) = false from h)
  obtain ⟨k1, k2, k3, k4⟩ := num_good h1
  have e : l5A s a b = numA s a b + numN s a b := h3
  have et : l5T s a b = s.extract (numA s a b) (numA s a b + numN s a b) := h4
  have hsz : (l5T s a b).size = numN s a b := by rw [et, ByteArray.size_extract]; omega
  refine ⟨k1, by omega, by omega, ?_, hsz⟩
  unfold shortB
  rw [app_list, hsz, varB_list, k4, et, extract_list, e, show numA s a b + numN s a b - a = (numA s a b - a) + numN s a b by omega, seg_append,
    show a + (numA s a b - a) = numA s a b by omega, show numA s a b + numN s a b - numA s a b = numN s a b by omega]
theorem oct_good {s : ByteArray} {a : Nat} {b : Bool} (h : takeB s a b 1 = false) : b = false ∧ takeA s a b 1 = a + 1 ∧ a + 1 ≤ s.size ∧ octN s a b = (bu s a).toNat ∧ seg s a 1 = [bu s a] := by
  obtain ⟨h1, h2, h3, _⟩ := takeB_false h
  have ho : takeOk s a b 1 = true := by simpa [takeB] using h
  refine ⟨h1, h3, h2, by rw [octN, if_pos ho], ?_⟩
  rw [show (1 : Nat) = 0 + 1 from rfl, seg_succ (by omega), seg_zero]; rfl
theorem flB_list (y : Bool) : (flB y).data.toList = [if y then 1 else 0] := by cases y <;> rfl

theorem c_iff {s : ByteArray} (h : cB8 s = false) : cT s = s ↔ cY s ≤ 1 ∧ cA8 s = s.size := by
  obtain ⟨h7, a8, l8, y8, g8⟩ := oct_good (show takeB s (cA7 s) (cB7 s) 1 = false from h)
  obtain ⟨h6, p7, q7, v7⟩ := num_good (show numB s (cA6 s) (cB6 s) = false from h7)
  obtain ⟨h5, p6, q6, v6⟩ := num_good (show numB s (cA5 s) (cB5 s) = false from h6)
  obtain ⟨h4, p5, q5, v5, _⟩ := short_good (show l5B s (cA4 s) (cB4 s) = false from h5)
  obtain ⟨h3, p4, q4, v4, _⟩ := short_good (show l5B s (cA3 s) (cB3 s) = false from h4)
  obtain ⟨h2, p3, q3, v3⟩ := num_good (show numB s (cA2 s) (cB2 s) = false from h3)
  obtain ⟨h1, p2, q2, v2⟩ := num_good (show numB s (cA1 s) (cB1 s) = false from h2)
  obtain ⟨_, a1, l1, y1, g1⟩ := oct_good (show takeB s 0 false 1 = false from h1)
  have e8 : cA8 s = cA7 s + 1 := a8
  have e1 : cA1 s = 0 + 1 := a1
  change varL (cTok s) = seg s (cA1 s) (cA2 s - cA1 s) at v2
  change varL (cSeq s) = seg s (cA2 s) (cA3 s - cA2 s) at v3
  change (shortB (cText s)).data.toList = seg s (cA3 s) (cA4 s - cA3 s) at v4
  change (shortB (cTask s)).data.toList = seg s (cA4 s) (cA5 s - cA4 s) at v5
  change varL (cNum s) = seg s (cA5 s) (cA6 s - cA5 s) at v6
  change varL (cTo s) = seg s (cA6 s) (cA7 s - cA6 s) at v7
  change cA1 s < cA2 s at p2
  change cA2 s < cA3 s at p3
  change cA3 s < cA4 s at p4
  change cA4 s < cA5 s at p5
  change cA5 s < cA6 s at p6
  change cA6 s < cA7 s at p7
  change cY s = (bu s (cA7 s)).toNat at y8
  change cO s = (bu s 0).toNat at y1
  have L : (cT s).data.toList = (seg s 0 1 ++ (seg s (cA1 s) (cA2 s - cA1 s) ++ (seg s (cA2 s) (cA3 s - cA2 s) ++ (seg s (cA3 s) (cA4 s - cA3 s) ++ (seg s (cA4 s) (cA5 s - cA4 s) ++ (seg s (cA5 s) (cA6 s - cA5 s) ++ seg s (cA6 s) (cA7 s - cA6 s))))))) ++ [if cYes s then 1 else 0] := by
    unfold cT ctB
    rw [app_list, app_list, app_list, app_list, app_list, app_list, app_list, varB_list, varB_list, varB_list, varB_list, v2, v3, v4, v5, v6, v7, flB_list]
    have : (oneB (cO s)).data.toList = seg s 0 1 := by rw [g1, y1]; simp [oneB]
    rw [this]
    simp only [List.append_assoc]
  have R : s.data.toList = (seg s 0 1 ++ (seg s (cA1 s) (cA2 s - cA1 s) ++ (seg s (cA2 s) (cA3 s - cA2 s) ++ (seg s (cA3 s) (cA4 s - cA3 s) ++ (seg s (cA4 s) (cA5 s - cA4 s) ++ (seg s (cA5 s) (cA6 s - cA5 s) ++ seg s (cA6 s) (cA7 s - cA6 s))))))) ++ (bu s (cA7 s) :: seg s (cA8 s) (s.size - cA8 s)) := by
    have hsplit : s.size = 1 + ((cA2 s - cA1 s) + ((cA3 s - cA2 s) + ((cA4 s - cA3 s) + ((cA5 s - cA4 s) + ((cA6 s - cA5 s) + ((cA7 s - cA6 s) + (1 + (s.size - cA8 s)))))))) := by omega
    rw [← seg_all s]
    conv => lhs; rw [hsplit]
    rw [seg_append, show 0 + 1 = cA1 s by omega, seg_append, show cA1 s + (cA2 s - cA1 s) = cA2 s by omega, seg_append, show cA2 s + (cA3 s - cA2 s) = cA3 s by omega, seg_append,
      show cA3 s + (cA4 s - cA3 s) = cA4 s by omega, seg_append, show cA4 s + (cA5 s - cA4 s) = cA5 s by omega, seg_append, show cA5 s + (cA6 s - cA5 s) = cA6 s by omega, seg_append,
      show cA6 s + (cA7 s - cA6 s) = cA7 s by omega, seg_append, show cA7 s + 1 = cA8 s by omega, g8]
    simp only [List.append_assoc, List.singleton_append]
  have hb := u8_lt (bu s (cA7 s))
  constructor
  · intro hh
    have : (cT s).data.toList = s.data.toList := by rw [hh]
    rw [L] at this
    conv at this => rhs; rw [R]
    have := List.append_cancel_left this
    simp only [List.cons.injEq] at this
    refine ⟨?_, ?_⟩
    · rw [y8, ← this.1]
      cases cYes s <;> decide
    · have h0 := congrArg List.length this.2
      rw [seg_len (show cA8 s + (s.size - cA8 s) ≤ s.size by omega)] at h0
      simp only [List.length_nil] at h0
      omega
  · rintro ⟨hy, ha⟩
    refine bytes_ext ?_
    rw [L]
    conv => rhs; rw [R]
    congr 1
    rw [ha, Nat.sub_self, seg_zero]
    congr 1
    have hbe : (bu s (cA7 s)).toNat = cY s := y8.symm
    rcases Nat.lt_or_ge (cY s) 1 with hlt | hge
    · have h0 : cY s = 0 := by omega
      have hf : cYes s = false := decide_eq_false (by omega)
      rw [hf]
      apply UInt8.toNat_inj.1
      rw [hbe, h0]; rfl
    · have h0 : cY s = 1 := by omega
      have hf : cYes s = true := decide_eq_true (by omega)
      rw [hf]
      apply UInt8.toNat_inj.1
      rw [hbe, h0]; rfl

def cOk (s : ByteArray) : Bool := (!cB8 s && cokB (cX s)) && decide (cT s = s)
def cR (s : ByteArray) : List X := if cOk s then [.agg (cX s).enc, bo true] else [.agg (mkC 0 0 0 ⟨#[]⟩ ⟨#[]⟩ 0 0 false).enc, bo false]
theorem cR_true {s : ByteArray} (h : cOk s = true) : cR s = [.agg (cX s).enc, bo true] := by simp only [cR, h, if_true]
theorem cR_false {s : ByteArray} (h : cOk s = false) : cR s = [.agg (mkC 0 0 0 ⟨#[]⟩ ⟨#[]⟩ 0 0 false).enc, bo false] := by simp only [cR, h, Bool.false_eq_true, if_false]

end Go.Proofs.YtbdjcpalpkijcaaGreatDoor

/- ReadCommand, the program's way; its law. -/
namespace Go.Proofs.YtbdjcpalpkijcaaGreatDoor
open Go.RowKit Go.Rx
set_option linter.unusedSimpArgs false
set_option maxRecDepth 100000

def dText (s : ByteArray) : ByteArray := shT s (cA3 s) (cB3 s)
def dA4 (s : ByteArray) : Nat := shA s (cA3 s) (cB3 s)
def dB4 (s : ByteArray) : Bool := shBB s (cA3 s) (cB3 s)
def dTask (s : ByteArray) : ByteArray := shT s (dA4 s) (dB4 s)
def dA5 (s : ByteArray) : Nat := shA s (dA4 s) (dB4 s)
def dB5 (s : ByteArray) : Bool := shBB s (dA4 s) (dB4 s)
def dNum (s : ByteArray) : Nat := numN s (dA5 s) (dB5 s)
def dA6 (s : ByteArray) : Nat := numA s (dA5 s) (dB5 s)
def dB6 (s : ByteArray) : Bool := numB s (dA5 s) (dB5 s)
def dTo (s : ByteArray) : Nat := numN s (dA6 s) (dB6 s)
def dA7 (s : ByteArray) : Nat := numA s (dA6 s) (dB6 s)
def dB7 (s : ByteArray) : Bool := numB s (dA6 s) (dB6 s)
def dYes (s : ByteArray) : Bool := decide ((octN s (dA7 s) (dB7 s) : Int) = 1)
def dA8 (s : ByteArray) : Nat := takeA s (dA7 s) (dB7 s) 1
def dB8 (s : ByteArray) : Bool := flagB s (dA7 s) (dB7 s)
def dX (s : ByteArray) : Cmd := mkC (cO s) (cTok s) (cSeq s) (dText s) (dTask s) (dNum s) (dTo s) (dYes s)
def dOk (s : ByteArray) : Bool := (!dB8 s && decide ((dA8 s : Int) = (s.size : Int))) && cokB (dX s)
def dR (s : ByteArray) : List X := if dOk s then [.agg (dX s).enc, bo true] else [.agg (mkC 0 0 0 ⟨#[]⟩ ⟨#[]⟩ 0 0 false).enc, bo false]
theorem dR_true {s : ByteArray} (h : dOk s = true) : dR s = [.agg (dX s).enc, bo true] := by simp only [dR, h, if_true]
theorem dR_false {s : ByteArray} (h : dOk s = false) : dR s = [.agg (mkC 0 0 0 ⟨#[]⟩ ⟨#[]⟩ 0 0 false).enc, bo false] := by simp only [dR, h, Bool.false_eq_true, if_false]
theorem shA_le {s : ByteArray} {a : Nat} {b : Bool} (ha : a ≤ s.size) : shA s a b ≤ s.size := takeA_le (numA_le ha)
theorem dA4_le (s : ByteArray) : dA4 s ≤ s.size := shA_le (cA3_le s)
theorem dA5_le (s : ByteArray) : dA5 s ≤ s.size := shA_le (dA4_le s)
theorem dA6_le (s : ByteArray) : dA6 s ≤ s.size := numA_le (dA5_le s)
theorem dA7_le (s : ByteArray) : dA7 s ≤ s.size := numA_le (dA6_le s)

/-! ### the two ways are one -/
theorem take_bad (s : ByteArray) (a n : Nat) : takeB s a true n = true := rfl
theorem num_bad (s : ByteArray) (a : Nat) : numB s a true = true := rfl
theorem sh_bad {s : ByteArray} {a : Nat} {b : Bool} (h : shB s a b = true) : shBB s a b = true := by unfold shBB; rw [h]; rfl
theorem shB_true (s : ByteArray) (a : Nat) : shB s a true = true := by unfold shB; split <;> rfl
theorem flag_bad (s : ByteArray) (a : Nat) : flagB s a true = true := by unfold flagB; split <;> rfl
theorem sh_small {s : ByteArray} {a : Nat} {b : Bool} (h : numN s a b ≤ 20000) : shT s a b = l5T s a b ∧ shA s a b = l5A s a b ∧ shBB s a b = l5B s a b := by
  have e : shB s a b = numB s a b := if_neg (by omega)
  unfold shT shA shBB l5T l5A l5B
  rw [e]; exact ⟨rfl, rfl, rfl⟩
theorem dR_eq (s : ByteArray) : dR s = cR s := by
  have bad : dB8 s = true → (cB8 s = false → cokB (cX s) = false) → dR s = cR s := fun h h2 => by
    rw [dR_false (by rw [dOk, h]; rfl)]
    cases hc : cB8 s with
    | true => rw [cR_false (by rw [cOk, hc]; rfl)]
    | false => rw [cR_false (by rw [cOk, h2 hc, Bool.and_false, Bool.false_and])]
  have down : dB5 s = true → dB8 s = true := fun h => by
    have h6 : dB6 s = true := by rw [dB6, h]; rfl
    have h7 : dB7 s = true := by rw [dB7, h6]; rfl
    rw [dB8, h7]; exact flag_bad _ _
  have up : cB8 s = false → cB5 s = false := fun h => by
    have h7 := (oct_good (show takeB s (cA7 s) (cB7 s) 1 = false from h)).1
    have h6 := (num_good (show numB s (cA6 s) (cB6 s) = false from h7)).1
    exact (num_good (show numB s (cA5 s) (cB5 s) = false from h6)).1
  by_cases n4 : numN s (cA3 s) (cB3 s) ≤ 20000
  · obtain ⟨t1, t2, t3⟩ := sh_small n4
    have e4 : dText s = cText s := t1
    have f4 : dA4 s = cA4 s := t2
    have g4 : dB4 s = cB4 s := t3
    by_cases n5 : numN s (cA4 s) (cB4 s) ≤ 20000
    · obtain ⟨u1, u2, u3⟩ := sh_small n5
      have e5 : dTask s = cTask s := by rw [dTask, f4, g4]; exact u1
      have f5 : dA5 s = cA5 s := by rw [dA5, f4, g4]; exact u2
      have g5 : dB5 s = cB5 s := by rw [dB5, f4, g4]; exact u3
      have e6 : dNum s = cNum s := by rw [dNum, f5, g5]; rfl
      have f6 : dA6 s = cA6 s := by rw [dA6, f5, g5]; rfl
      have g6 : dB6 s = cB6 s := by rw [dB6, f5, g5]; rfl
      have e7 : dTo s = cTo s := by rw [dTo, f6, g6]; rfl
      have f7 : dA7 s = cA7 s := by rw [dA7, f6, g6]; rfl
      have g7 : dB7 s = cB7 s := by rw [dB7, f6, g6]; rfl
      have e8 : dYes s = cYes s := by rw [dYes, f7, g7]; rfl
      have f8 : dA8 s = cA8 s := by rw [dA8, f7, g7]; rfl
      have g8 : dB8 s = if 1 < cY s then true else cB8 s := by rw [dB8, f7, g7]; rfl
      have eX : dX s = cX s := by unfold dX cX; rw [e4, e5, e6, e7, e8]
      have hok : dOk s = cOk s := by
        unfold dOk cOk
        rw [eX, f8, g8]
        cases hc : cB8 s with
        | true => simp
        | false =>
          have hi := c_iff hc
          by_cases h1 : 1 < cY s
          · have : decide (cT s = s) = false := decide_eq_false fun h => by have := (hi.1 h).1; omega
            rw [this, if_pos h1]; simp
          · rw [if_neg h1]
            by_cases h2 : cA8 s = s.size
            · have : decide (cT s = s) = true := decide_eq_true (hi.2 ⟨by omega, h2⟩)
              rw [this, h2]; simp
            · have h3 : decide (cT s = s) = false := decide_eq_false fun h => h2 (hi.1 h).2
              have h4 : decide ((cA8 s : Int) = (s.size : Int)) = false := decide_eq_false (by omega)
              rw [h3, h4]; simp
      unfold dR cR
      rw [hok, eX]
    · refine bad (down ?_) fun h => ?_
      · rw [dB5, f4, g4]; exact sh_bad (if_pos (by omega))
      · have h5 := up h
        have := (short_good (show l5B s (cA4 s) (cB4 s) = false from h5)).2.2.2.2
        cases hk : cokB (cX s) with
        | false => rfl
        | true =>
          have h9 := (cok_len hk).2
          change (cTask s).size ≤ 600 at h9
          change (cTask s).size = _ at this
          omega
  · have b4 : dB4 s = true := sh_bad (if_pos (by omega))
    refine bad (down ?_) fun h => ?_
    · rw [dB5, b4]; exact sh_bad (shB_true _ _)
    · have h5 := up h
      have h4 := (short_good (show l5B s (cA4 s) (cB4 s) = false from h5)).1
      have := (short_good (show l5B s (cA3 s) (cB3 s) = false from h4)).2.2.2.2
      cases hk : cokB (cX s) with
      | false => rfl
      | true =>
        have h9 := (cok_len hk).1
        change (cText s).size ≤ 600 at h9
        change (cText s).size = _ at this
        omega

theorem cR_form (s : ByteArray) : ∃ (x : Cmd) (b : Bool), cR s = [.agg x.enc, bo b] := by
  cases h : cOk s with
  | true => exact ⟨_, _, cR_true h⟩
  | false => exact ⟨_, _, cR_false h⟩
end Go.Proofs.YtbdjcpalpkijcaaGreatDoor

/- HappenOk: what its functions return, by their code; its law. -/
namespace Go.Proofs.YtbdjcpalpkijcaaGreatDoor
open Go.RowKit Go.Rx
set_option linter.unusedSimpArgs false
set_option maxRecDepth 100000

/-! ### lists of numbers -/
theorem ints_take (l : List Int) : List.take l.length (vR (ints l)) = vR (ints l) := List.take_of_length_le (by rw [vR_length, ints_length]; exact Nat.le_refl _)
def intZ (n : Nat) : List (List Value) := List.replicate n [.int .i64 0]
theorem intZ_vR (n : Nat) : List.replicate n [C.v (.int .i64 0)] = vR (intZ n) := by simp [vR, intZ]
theorem intZ_length (n : Nat) : (intZ n).length = n := by simp [intZ]
theorem intZ_getD {n i : Nat} (h : i < n) : ((intZ n).getD i []).map C.v = [.v (.int .i64 0)] := by
  simp [intZ, List.getD_eq_getElem?_getD, List.getElem?_replicate, h]
def intF (l : List Int) (i : Nat) : List Value := [.int .i64 (at_ l i)]
theorem intF_all (l : List Int) : (List.range l.length).map (intF l) = ints l := by
  apply List.ext_getElem
  · simp [ints]
  · intro i h1 h2
    simp at h1
    simp [ints, intF, at_, List.getD_eq_getElem?_getD, List.getElem?_eq_getElem h1]
theorem toIntS_ok (l : List Int) (hl : l.length ≤ 1048576) : PureFn Tryz.prog 5 [.one (.sh 1 (vR (ints l)))] [.one (.own 1 (vR (ints l)))] := by
  refine PureFn_of_Go Tryz.func5 rfl (by decide) mo (by decide +kernel) ?_
  have b1 : l.length * 8 ≤ 281474976710656 := by omega
  have b2 : l.length ≤ 9223372036854775807 := by omega
  simp only [Tryz.ntmps5, Tryz.results5, push_cast, seval, ints_length, b1, b2]
  refine Go_loop (α := {i : Nat // i ≤ l.length})
    (fun i => ⟨tp 22 [(0, .x (.one (.sh 1 (vR (ints l))))), (3, .x (.one (.rs (0, 448) [] 1 0 l.length))), (4, int i.1)], 0, [((0, 448), ⟨.sl, 1, vR (mix (intF l) (intZ l.length) i.1)⟩)], []⟩) (fun i => l.length - i.1) ⟨0, by omega⟩ ?_ ?_
  · simp only [mix_zero, ← intZ_vR]
    exact Weak.same (by simp only [push_cast, seval, Int.ofNat_zero])
  · rintro ⟨i, hi⟩ X hX
    have hml := mix_length (intF l) (intZ l.length) (i := i) (by rw [intZ_length]; exact hi)
    rw [intZ_length] at hml
    by_cases hlt : (i : Int) < (l.length : Int)
    · have hi' : i < l.length := by omega
      have ws := wsucc hi' (by omega)
      have hg := ints_getD l hi'
      rw [show l.getD i default = at_ l i from rfl] at hg
      have s1 := mix_set (intF l) (intZ l.length) (i := i) (by rw [intZ_length]; exact hi')
      have g1 := vR_mix_getD (intF l) (intZ l.length) (i := i) (by rw [intZ_length]; exact hi')
      rw [intZ_getD hi'] at g1
      simp only [intF, List.map_cons, List.map_nil] at s1
      obtain ⟨x, hx⟩ : ∃ x, x = at_ l i := ⟨_, rfl⟩
      rw [← hx] at hg s1
      obtain ⟨i', hi1⟩ : ∃ i', i' = i + 1 := ⟨_, rfl⟩
      rw [← hi1] at ws s1
      simp only [push_cast, seval, ints_length, hlt, hi', hg, g1, hml, s1, ws, vR_getD]
      refine ⟨_, ?_, hX ⟨i', by omega⟩ (by simp only; omega)⟩
      exact Weak.same (by simp only [push_cast, seval])
    · have hie : i = l.length := by omega
      have e := mix_all (intF l) (intZ l.length)
      rw [intZ_length, intF_all, ← hie] at e
      rw [← hie] at hml hlt
      simp only [Tryz.ntmps5, Tryz.results5, push_cast, seval, ints_length, hlt, ← hie, e, hml]
theorem eqIntS_ok (l : List Int) (hl : l.length ≤ 1048576) : PureFn Tryz.prog 8 [.one (.sh 1 (vR (ints l))), .one (.sh 1 (vR (ints l)))] [bo true] := by
  refine PureFn_of_Go Tryz.func8 rfl (by decide) mo (by decide +kernel) ?_
  simp only [Tryz.ntmps8, Tryz.results8, push_cast, seval, ints_length]
  refine Go_loop (α := {i : Nat // i ≤ l.length})
    (fun i => ⟨tp 26 [(0, .x (.one (.sh 1 (vR (ints l))))), (1, .x (.one (.sh 1 (vR (ints l))))), (5, int i.1)], 0, [], []⟩) (fun i => l.length - i.1) ⟨0, by omega⟩ ?_ ?_
  · exact Weak.same (by simp only [push_cast, seval, Int.ofNat_zero])
  · rintro ⟨i, hi⟩ X hX
    by_cases hlt : (i : Int) < (l.length : Int)
    · have hi' : i < l.length := by omega
      have ws := wsucc hi' (by omega)
      have hg := ints_getD l hi'
      obtain ⟨i', hi1⟩ : ∃ i', i' = i + 1 := ⟨_, rfl⟩
      rw [← hi1] at ws
      simp only [push_cast, seval, ints_length, hlt, hi', hg, ws, vR_getD]
      refine ⟨_, ?_, hX ⟨i', by omega⟩ (by simp only; omega)⟩
      exact Weak.same (by simp only [push_cast, seval])
    · simp only [Tryz.ntmps8, Tryz.results8, push_cast, seval, ints_length, hlt]
/-! ### what happens -/
theorem ints_dec (R : List (List C)) (h : ∀ r ∈ R, HasKt (.int .i64) r) : ∃ l : List Int, R = vR (ints l) := by
  obtain ⟨xs, rfl, _⟩ := rows_dec (fun n : Int => [C.v (.int .i64 n)]) (fun _ => True) (K := .int .i64) (fun r hr => by
    simp only [HasKt] at hr
    obtain ⟨n, rfl, _⟩ := hr
    exact ⟨n, rfl, trivial⟩) R h
  exact ⟨xs, by simp [vR, ints]⟩
structure Hap where
  kind : Int
  node : Int
  at_ : Int
  limit : Int
  c : Cmd
  conf : List Int
  cut : Bool
  whole : Int
  left : List Int
def Hap.enc (f : List (List C) → C) (x : Hap) : List C := [.v (.int .i64 x.kind), .v (.int .i64 x.node), .v (.int .i64 x.at_), .v (.int .i64 x.limit),
  .v (.int .i64 x.c.op), .v (.int .i64 x.c.tok), .v (.int .i64 x.c.seq), .v (.string x.c.text), .v (.string x.c.task), .v (.int .i64 x.c.num), .v (.int .i64 x.c.to_), .v (.bool x.c.yes),
  f (vR (ints x.conf)), .v (.bool x.cut), .v (.int .i64 x.whole), f (vR (ints x.left))]
def Hap.Ok (x : Hap) : Prop := x.c.Ok ∧ x.conf.length ≤ 140737488355328 ∧ x.left.length ≤ 140737488355328

def cwB (l : List Int) (n : Int) : Bool := confB l && decide (Go.Proofs.YtbdjcpalpkijcaaGreatDoor.at_ l (l.length - 1) ≤ n)
theorem confB_pos {l : List Int} (h : confB l = true) : 0 < l.length := by
  simp only [confB, Bool.and_eq_true, decide_eq_true_eq] at h; omega
def hoB (n : Int) (x : Hap) : Bool := ((((inR n 1 4 && inR x.kind 1 9) && inR x.node 1 n) && !decide (x.at_ < 0)) && !decide ((30 : Int) < (x.left.length : Int))) &&
  (if decide (x.kind = 1) || decide (x.kind = 9) then inR x.limit 1 20 else if decide (x.kind = 5) then cokB x.c else if decide (x.kind = 6) then cwB x.conf n else true)
theorem Hap.dec (r : List C) (h : HasKt (.st [.int .i64, .int .i64, .int .i64, .int .i64, .st [.int .i64, .int .i64, .int .i64, .str, .str, .int .i64, .int .i64, .bool], .sl 1 8 (.int .i64), .bool, .int .i64, .sl 1 8 (.int .i64)]) r) : ∃ x : Hap, r = x.enc (.sh 1) ∧ x.Ok := by
  simp only [HasKt, HasKts, reachBytes] at h
  obtain ⟨_, _, rfl, ⟨a, rfl, _⟩, _, _, rfl, ⟨b, rfl, _⟩, _, _, rfl, ⟨c, rfl, _⟩, _, _, rfl, ⟨c2, rfl, _⟩, _, _, rfl,
    ⟨_, _, rfl, ⟨d, rfl, _⟩, _, _, rfl, ⟨e, rfl, _⟩, _, _, rfl, ⟨f, rfl, _⟩, _, _, rfl, ⟨g, rfl, hg⟩, _, _, rfl, ⟨i, rfl, hi⟩, _, _, rfl, ⟨j, rfl, _⟩, _, _, rfl, ⟨k, rfl, _⟩, _, _, rfl, ⟨l, rfl⟩, rfl⟩,
    _, _, rfl, ⟨R1, rfl, hR1, _, hr1⟩, _, _, rfl, ⟨n, rfl⟩, _, _, rfl, ⟨o, rfl, _⟩, _, _, rfl, ⟨R2, rfl, hR2, _, hr2⟩, rfl⟩ := h
  obtain ⟨xs, rfl⟩ := ints_dec R1 hr1
  obtain ⟨ys, rfl⟩ := ints_dec R2 hr2
  rw [vR_length, ints_length] at hR1 hR2
  exact ⟨⟨a, b, c, c2, ⟨d, e, f, g, i, j, k, l⟩, xs, n, o, ys⟩, rfl, ⟨Nat.le_trans hg (by decide), Nat.le_trans hi (by decide)⟩, by simp only; omega, by simp only; omega⟩
end Go.Proofs.YtbdjcpalpkijcaaGreatDoor

/- Sealed texts; octets; snapshots' texts: by their code. -/
namespace Go.Proofs.YtbdjcpalpkijcaaGreatDoor
open Go.RowKit Go.Rx
set_option linter.unusedSimpArgs false
set_option maxRecDepth 100000

/-! ### sealed texts -/
def seB (s : ByteArray) : ByteArray := s ++ four (sumN s)
theorem seB_size (s : ByteArray) : (seB s).size = s.size + 4 := by unfold seB; rw [ByteArray.size_append, four_size]
def seX (s : ByteArray) : List X := if decide ((20000 : Int) < (s.size : Int)) then [st ⟨#[]⟩, bo false] else [st (seB s), bo true]
theorem sealedI_ok (s : ByteArray) (hs : s.size ≤ 140737488355328) : PureFn Tryz.prog 51 [st s] (seX s) := by
  refine PureFn_of_Go Tryz.func51 rfl (by decide) mo (by decide +kernel) ?_
  have k := sumText_ok s hs
  have hf : s.size + (four (sumN s)).size ≤ 9223372036854775807 := by rw [four_size]; omega
  unfold seX seB
  cases c : decide ((20000 : Int) < (s.size : Int)) with
  | true => simp only [Tryz.ntmps51, Tryz.results51, push_cast, seval, c]
  | false =>
    simp only [Tryz.ntmps51, Tryz.results51, push_cast, seval, c]
    refine GoL_call rfl rfl k rfl rfl ?_
    simp only [Tryz.ntmps51, Tryz.results51, push_cast, seval, hf, Bool.false_eq_true]
theorem sealedS_ok (s : ByteArray) (hs : s.size ≤ 140737488355328) : PureFn Tryz.prog 35 [st s] (seX s) := by
  refine PureFn_of_Go Tryz.func35 rfl (by decide) mo (by decide +kernel) ?_
  have k := sumOfS_ok s hs
  have k2 := l02Four_ok (sumN s)
  have hf : s.size + (four (sumN s)).size ≤ 9223372036854775807 := by rw [four_size]; omega
  unfold seX seB
  cases c : decide ((20000 : Int) < (s.size : Int)) with
  | true => simp only [Tryz.ntmps35, Tryz.results35, push_cast, seval, c]
  | false =>
    simp only [Tryz.ntmps35, Tryz.results35, push_cast, seval, c]
    refine GoL_call rfl rfl k rfl rfl ?_
    simp only [Tryz.ntmps35, Tryz.results35, push_cast, seval]
    refine GoL_call rfl rfl k2 rfl rfl ?_
    simp only [Tryz.ntmps35, Tryz.results35, push_cast, seval, hf, Bool.false_eq_true]
def uIn (s : ByteArray) : ByteArray := s.extract 0 (s.size - 4)
def uB (s : ByteArray) : Bool := (!decide ((s.size : Int) - 4 < 0) && !decide ((20000 : Int) < (s.size : Int) - 4)) && decide (four (sumN (uIn s)) = s.extract (s.size - 4) s.size)
def uX (s : ByteArray) : List X := if uB s then [st (uIn s), bo true] else [st ⟨#[]⟩, bo false]
theorem uX_true {s : ByteArray} (h : uB s = true) : uX s = [st (uIn s), bo true] := by simp only [uX, h, if_true]
theorem uX_false {s : ByteArray} (h : uB s = false) : uX s = [st ⟨#[]⟩, bo false] := by simp only [uX, h, Bool.false_eq_true, if_false]
theorem uIn_size (s : ByteArray) : (uIn s).size = s.size - 4 := by unfold uIn; rw [ByteArray.size_extract]; omega
/-- What is unsealed, sealed again. -/
theorem uB_spec {s : ByteArray} (h : uB s = true) : s = seB (uIn s) ∧ (uIn s).size ≤ 20000 ∧ s.size = (uIn s).size + 4 := by
  simp only [uB, Bool.and_eq_true, Bool.not_eq_true', decide_eq_false_iff_not, decide_eq_true_eq] at h
  obtain ⟨⟨h1, h2⟩, h3⟩ := h
  have e := uIn_size s
  refine ⟨?_, by omega, by omega⟩
  unfold seB
  rw [h3]
  apply bytes_ext
  rw [app_list, uIn, extract_list, extract_list, Nat.sub_zero, ← seg_all s]
  conv => lhs; rw [show s.size = (s.size - 4) + 4 by omega]
  rw [seg_append, Nat.zero_add]
  congr 2; omega
/-! ### octets -/
def oct8 (n : Int) : UInt8 := UInt8.ofNat (n % 256).toNat
theorem oct8_wrap (n : Int) : IntKind.u8.wrap n = ((oct8 n).toNat : Int) := by
  rw [IntKind.wrap_u8]; unfold oct8; simp; omega
theorem oct8_nat (b : UInt8) : oct8 (b.toNat : Int) = b := by
  apply UInt8.toNat_inj.1
  have := u8_lt b
  unfold oct8; simp; omega
def octB (l : List Int) : ByteArray := ⟨(l.map oct8).toArray⟩
theorem octB_list (l : List Int) : (octB l).data.toList = l.map oct8 := by simp [octB]
theorem octB_size (l : List Int) : (octB l).size = l.length := by simp [octB, ByteArray.size]
theorem octB_nats (s : ByteArray) : octB (natsL s) = s := by
  apply bytes_ext
  rw [octB_list, natsL, List.map_map]
  have : (oct8 ∘ fun b : UInt8 => (b.toNat : Int)) = id := funext fun b => oct8_nat b
  rw [this, List.map_id]
theorem oct_take (l : List Int) {i : Nat} (h : i < l.length) : (l.map oct8).take (i + 1) = (l.map oct8).take i ++ [oct8 (at_ l i)] := by
  rw [List.take_add_one, List.getElem?_map, List.getElem?_eq_getElem h]
  simp [at_, List.getD_eq_getElem?_getD, List.getElem?_eq_getElem h]
theorem octets_ok (l : List Int) (hl : l.length ≤ 1000000) : PureFn Tryz.prog 45 [.one (.sh 1 (vR (ints l)))] [st (octB l)] := by
  refine PureFn_of_Go Tryz.func45 rfl (by decide) mo (by decide +kernel) ?_
  obtain ⟨F, hF⟩ : ∃ F, F = l.map oct8 := ⟨_, rfl⟩
  have hFl : F.length = l.length := by rw [hF, List.length_map]
  have hfin : (⟨F.toArray⟩ : ByteArray) = octB l := by rw [hF]; rfl
  simp only [Tryz.ntmps45, Tryz.results45, push_cast, seval, ints_length]
  refine Go_loop (α := {i : Nat // i ≤ l.length})
    (fun i => ⟨tp 20 [(0, .x (.one (.sh 1 (vR (ints l))))), (3, .x (.one (.rs (0, 1024) [] 1 0 i.1))), (6, .x (.one (.sh 1 (vR (ints l))))), (7, int l.length), (8, int i.1)], 0, [((0, 1024), ⟨.sl, 1, byR (F.take i.1)⟩)], []⟩) (fun i => l.length - i.1) ⟨0, by omega⟩ ?_ ?_
  · refine Weak.trans (Weak.nilRoot (0, 1024) 1 3 rfl rfl rfl) ?_
    simp only [push_cast, seval, List.take_zero, byR_nil]
    exact Weak.same (by simp only [push_cast, seval, Int.ofNat_zero])
  · rintro ⟨i, hi⟩ X hX
    have hll : (byR (F.take i)).length = i := by rw [byR_length, List.length_take, hFl]; omega
    by_cases hlt : (i : Int) < (l.length : Int)
    · have hi' : i < l.length := by omega
      have ws := wsucc hi' (by omega)
      have hg := ints_getD l hi'
      rw [show l.getD i default = at_ l i from rfl] at hg
      have hw := oct8_wrap (at_ l i)
      have a0 : i + 1 ≤ 4294967296 := by omega
      have a1 := max_len a0
      have a2 := room_le (b := 1) a0 (by decide)
      have s1 := byR_snoc (F.take i) (oct8 (at_ l i))
      have e1 : F.take i ++ [oct8 (at_ l i)] = F.take (i + 1) := by rw [hF, oct_take l hi']
      rw [e1] at s1
      obtain ⟨y, hy⟩ : ∃ y, y = oct8 (at_ l i) := ⟨_, rfl⟩
      rw [← hy] at hw s1
      obtain ⟨x, hx⟩ : ∃ x, x = at_ l i := ⟨_, rfl⟩
      rw [← hx] at hg hw
      obtain ⟨i', hi1⟩ : ∃ i', i' = i + 1 := ⟨_, rfl⟩
      rw [← hi1] at ws s1
      simp only [push_cast, seval, ints_length, hlt, hi', vR_getD, hg, hw, hll, a1, a2, s1, ws]
      refine ⟨_, ?_, hX ⟨i', by omega⟩ (by simp only; omega)⟩
      exact Weak.drop (by simp only [push_cast, seval, hi1]) (by simp only [push_cast, seval, hi1]) (by simp only [push_cast, seval, hi1])
    · have hie : i = l.length := by omega
      have hft : F.take i = F := List.take_of_length_le (by rw [hFl, hie]; exact Nat.le_refl _)
      rw [hft] at hll
      have ht := byR_take F
      rw [byR_length] at hll
      rw [hll] at ht
      simp only [hft]
      simp only [Tryz.ntmps45, Tryz.results45, push_cast, seval, hlt, hll, ht, byR_length, hfin]
end Go.Proofs.YtbdjcpalpkijcaaGreatDoor

/- Snapshots' texts: by their code. -/
namespace Go.Proofs.YtbdjcpalpkijcaaGreatDoor
open Go.RowKit Go.Rx
set_option linter.unusedSimpArgs false
set_option maxRecDepth 100000

theorem varB_le (n : Nat) : (varB n).size ≤ n + 1 := varB_size n
theorem shortB_le (t : ByteArray) : (shortB t).size ≤ 2 * t.size + 1 := by
  unfold shortB; rw [ByteArray.size_append]; have := varB_size t.size; omega
theorem shortText_ok (t : ByteArray) (ht : t.size ≤ 4000000000) : PureFn Tryz.prog 42 [st t] [st (shortB t)] := by
  refine PureFn_of_Go Tryz.func42 rfl (by decide) mo (by decide +kernel) ?_
  simp only [Tryz.ntmps42, Tryz.results42, push_cast, seval]
  refine GoL_call rfl rfl (varText_ok t.size (by omega)) rfl rfl ?_
  have h1 := varB_size t.size
  have h2 : (varB t.size).size + t.size ≤ 9223372036854775807 := by omega
  simp only [Tryz.ntmps42, Tryz.results42, push_cast, seval, h2, shortB]
theorem l05Short_ok (t : ByteArray) (ht : t.size ≤ 4000000000) : PureFn Tryz.prog 34 [st t] [st (shortB t)] := by
  refine PureFn_of_Go Tryz.func34 rfl (by decide) mo (by decide +kernel) ?_
  simp only [Tryz.ntmps34, Tryz.results34, push_cast, seval]
  refine GoL_call rfl rfl (l01Var_ok t.size (by omega)) rfl rfl ?_
  have h1 := varB_size t.size
  have h2 : (varB t.size).size + t.size ≤ 9223372036854775807 := by omega
  simp only [Tryz.ntmps34, Tryz.results34, push_cast, seval, h2, shortB]
def ctX (l : List Int) : List X := if confB l then [st (octB l), bo true] else [st ⟨#[]⟩, bo false]
theorem confB_len {l : List Int} (h : confB l = true) : l.length ≤ 4 := by
  simp only [confB, Bool.and_eq_true, decide_eq_true_eq] at h; exact rise_len h.2
theorem confTextS_ok (l : List Int) (hl : l.length ≤ 140737488355328) : PureFn Tryz.prog 32 [.one (.sh 1 (vR (ints l)))] (ctX l) := by
  refine PureFn_of_Go Tryz.func32 rfl (by decide) mo (by decide +kernel) ?_
  have kc := confOkS_ok l hl
  unfold ctX
  cases c : confB l with
  | false =>
    rw [c] at kc
    simp only [Tryz.ntmps32, Tryz.results32, push_cast, seval]
    refine GoL_call rfl rfl kc rfl rfl ?_
    simp only [Tryz.ntmps32, Tryz.results32, push_cast, seval, Bool.false_eq_true]
  | true =>
  rw [c] at kc
  have hl4 := confB_len c
  simp only [Tryz.ntmps32, Tryz.results32, push_cast, seval]
  refine GoL_call rfl rfl kc rfl rfl ?_
  obtain ⟨F, hF⟩ : ∃ F, F = l.map oct8 := ⟨_, rfl⟩
  have hFl : F.length = l.length := by rw [hF, List.length_map]
  have hfin : (⟨F.toArray⟩ : ByteArray) = octB l := by rw [hF]; rfl
  simp only [Tryz.ntmps32, Tryz.results32, push_cast, seval, ints_length]
  refine Go_loop (α := {i : Nat // i ≤ l.length})
    (fun i => ⟨tp 26 [(0, .x (.one (.sh 1 (vR (ints l))))), (4, .x (.one (.rs (0, 1472) [] 1 0 i.1))), (5, int i.1)], 0, [((0, 1472), ⟨.sl, 1, byR (F.take i.1)⟩)], []⟩) (fun i => l.length - i.1) ⟨0, by omega⟩ ?_ ?_
  · refine Weak.trans (Weak.rename (0, 576) (0, 1472) rfl rfl (by decide) rfl) ?_
    simp only [push_cast, seval, List.take_zero, byR_nil]
    exact Weak.same (by simp only [push_cast, seval, Int.ofNat_zero, byR_nil])
  · rintro ⟨i, hi⟩ X hX
    have hll : (byR (F.take i)).length = i := by rw [byR_length, List.length_take, hFl]; omega
    by_cases hlt : (i : Int) < (l.length : Int)
    · have hi' : i < l.length := by omega
      have ws := wsucc hi' (by omega)
      have hg := ints_getD l hi'
      rw [show l.getD i default = at_ l i from rfl] at hg
      have hw := oct8_wrap (at_ l i)
      have a0 : i + 1 ≤ 4294967296 := by omega
      have a1 := max_len a0
      have a2 := room_le (b := 1) a0 (by decide)
      have s1 := byR_snoc (F.take i) (oct8 (at_ l i))
      have e1 : F.take i ++ [oct8 (at_ l i)] = F.take (i + 1) := by rw [hF, oct_take l hi']
      rw [e1] at s1
      obtain ⟨y, hy⟩ : ∃ y, y = oct8 (at_ l i) := ⟨_, rfl⟩
      rw [← hy] at hw s1
      obtain ⟨x, hx⟩ : ∃ x, x = at_ l i := ⟨_, rfl⟩
      rw [← hx] at hg hw
      obtain ⟨i', hi1⟩ : ∃ i', i' = i + 1 := ⟨_, rfl⟩
      rw [← hi1] at ws s1
      simp only [push_cast, seval, ints_length, hlt, hi', vR_getD, hg, hw, hll, a1, a2, s1, ws]
      refine ⟨_, ?_, hX ⟨i', by omega⟩ (by simp only; omega)⟩
      exact Weak.drop (by simp only [push_cast, seval, hi1]) (by simp only [push_cast, seval, hi1]) (by simp only [push_cast, seval, hi1])
    · have hie : i = l.length := by omega
      have hft : F.take i = F := List.take_of_length_le (by rw [hFl, hie]; exact Nat.le_refl _)
      rw [hft] at hll
      have ht := byR_take F
      rw [byR_length] at hll
      rw [hll] at ht
      simp only [hft]
      simp only [Tryz.ntmps32, Tryz.results32, push_cast, seval, ints_length, hlt, hll, ht, byR_length, hfin]

/-! ### snapshots -/
structure Snp where
  idx : Int
  term : Int
  conf : List Int
  body : ByteArray
def Snp.enc (f : List (List C) → C) (x : Snp) : List C := [.v (.int .i64 x.idx), .v (.int .i64 x.term), f (vR (ints x.conf)), .v (.string x.body)]
def snB (x : Snp) : Bool := ((inR x.idx 0 1000000 && inR x.term 0 100000) && confB x.conf) && !decide ((20000 : Int) < (x.body.size : Int))
def snI (x : Snp) : ByteArray := ((varB x.idx.toNat ++ varB x.term.toNat) ++ shortB (octB x.conf)) ++ shortB x.body
def snF (x : Snp) : Bool := snB x && !decide ((20000 : Int) < ((snI x).size : Int) + 4)
def snX (x : Snp) : List X := if snF x then [st (seB (snI x)), bo true] else [st ⟨#[]⟩, bo false]
theorem snX_true {x : Snp} (h : snF x = true) : snX x = [st (seB (snI x)), bo true] := by simp only [snX, h, if_true]
theorem snX_false {x : Snp} (h : snF x = false) : snX x = [st ⟨#[]⟩, bo false] := by simp only [snX, h, Bool.false_eq_true, if_false]
theorem inR_nat {n b : Int} (h : inR n 0 b = true) : ∃ m : Nat, n = (m : Int) ∧ (m : Int) ≤ b := by
  obtain ⟨h1, h2⟩ := inR_spec.1 h
  obtain ⟨m, rfl⟩ := Int.eq_ofNat_of_zero_le h1
  exact ⟨m, rfl, h2⟩
theorem snapTextI_ok (x : Snp) (hc : x.conf.length ≤ 140737488355328) : PureFn Tryz.prog 19 [.agg (x.enc (.sh 1))] (snX x) := by
  refine PureFn_of_Go Tryz.func19 rfl (by decide) mo (by decide +kernel) ?_
  obtain ⟨idx, term, conf, body⟩ := x
  have k1 := isIndex_ok idx
  have k2 := isTerm_ok term
  have k3 := confOkI_ok conf hc
  simp only [Tryz.ntmps19, Tryz.results19, push_cast, seval, Snp.enc]
  refine GoL_call rfl rfl k1 rfl rfl ?_
  cases c1 : inR idx 0 1000000 with
  | false => rw [snX_false (by rw [snF, snB, c1]; rfl)]; simp only [Tryz.ntmps19, Tryz.results19, push_cast, seval]
  | true =>
  simp only [Tryz.ntmps19, Tryz.results19, push_cast, seval]
  refine GoL_call rfl rfl k2 rfl rfl ?_
  cases c2 : inR term 0 100000 with
  | false => rw [snX_false (by rw [snF, snB, c1, c2]; rfl)]; simp only [Tryz.ntmps19, Tryz.results19, push_cast, seval]
  | true =>
  simp only [Tryz.ntmps19, Tryz.results19, push_cast, seval]
  refine GoL_call rfl rfl k3 rfl rfl ?_
  cases c3 : confB conf with
  | false => rw [snX_false (by rw [snF, snB, c1, c2, c3]; rfl)]; simp only [Tryz.ntmps19, Tryz.results19, push_cast, seval]
  | true =>
  cases c4 : decide ((20000 : Int) < (body.size : Int)) with
  | true => rw [snX_false (by rw [snF, snB, c1, c2, c3, c4]; rfl)]; simp only [Tryz.ntmps19, Tryz.results19, push_cast, seval, c4]
  | false =>
  obtain ⟨i, rfl, hi⟩ := inR_nat c1
  obtain ⟨t, rfl, ht⟩ := inR_nat c2
  have hl4 := confB_len c3
  have hb : body.size ≤ 20000 := by simp only [decide_eq_false_iff_not] at c4; omega
  have ho := octB_size conf
  have s1 := varB_size i
  have s2 := varB_size t
  have s3 := shortB_le (octB conf)
  have s4 := shortB_le body
  have r1 : (varB i).size + (varB t).size ≤ 9223372036854775807 := by omega
  have r2 : (varB i ++ varB t).size + (shortB (octB conf)).size ≤ 9223372036854775807 := by simp only [ByteArray.size_append]; omega
  have r3 : ((varB i ++ varB t) ++ shortB (octB conf)).size + (shortB body).size ≤ 9223372036854775807 := by simp only [ByteArray.size_append]; omega
  have kS := sealedI_ok (((varB i ++ varB t) ++ shortB (octB conf)) ++ shortB body) (by simp only [ByteArray.size_append]; omega)
  have hF : snF ⟨(i : Int), (t : Int), conf, body⟩ = !decide ((20000 : Int) < ((((varB i ++ varB t) ++ shortB (octB conf)) ++ shortB body).size : Int) + 4) := by
    rw [snF, snB, c1, c2, c3, c4]; rfl
  have hI : snI ⟨(i : Int), (t : Int), conf, body⟩ = ((varB i ++ varB t) ++ shortB (octB conf)) ++ shortB body := rfl
  simp only [Tryz.ntmps19, Tryz.results19, push_cast, seval, c4]
  refine GoD_call rfl rfl (varText_ok i (by omega)) rfl rfl ?_
  simp only [Tryz.ntmps19, Tryz.results19, push_cast, seval]
  refine GoD_call rfl rfl (varText_ok t (by omega)) rfl rfl ?_
  simp only [Tryz.ntmps19, Tryz.results19, push_cast, seval, r1]
  refine GoD_call rfl rfl (octets_ok conf (by omega)) rfl rfl ?_
  simp only [Tryz.ntmps19, Tryz.results19, push_cast, seval]
  refine GoD_call rfl rfl (shortText_ok (octB conf) (by omega)) rfl rfl ?_
  simp only [Tryz.ntmps19, Tryz.results19, push_cast, seval, r2]
  refine GoD_call rfl rfl (shortText_ok body (by omega)) rfl rfl ?_
  simp only [Tryz.ntmps19, Tryz.results19, push_cast, seval, r3]
  obtain ⟨T, hT⟩ : ∃ T, T = ((varB i ++ varB t) ++ shortB (octB conf)) ++ shortB body := ⟨_, rfl⟩
  rw [← hT] at kS hF hI ⊢
  have hsz := seB_size T
  unfold seX at kS
  cases d : decide ((20000 : Int) < (T.size : Int)) with
  | true =>
    have d2 : decide ((20000 : Int) < (T.size : Int) + 4) = true := by simp only [decide_eq_true_eq] at d ⊢; omega
    rw [snX_false (by rw [hF, d2]; rfl)]
    simp only [d, if_true] at kS
    refine GoD_call rfl rfl kS rfl rfl ?_
    simp only [Tryz.ntmps19, Tryz.results19, push_cast, seval]
  | false =>
    simp only [d, Bool.false_eq_true, if_false] at kS
    refine GoD_call rfl rfl kS rfl rfl ?_
    cases d2 : decide ((20000 : Int) < (T.size : Int) + 4) with
    | true =>
      have d3 : decide ((20000 : Int) < ((seB T).size : Int)) = true := by simp only [decide_eq_true_eq] at d2 ⊢; omega
      rw [snX_false (by rw [hF, d2]; rfl)]
      simp only [Tryz.ntmps19, Tryz.results19, push_cast, seval, d3]
    | false =>
      have d3 : decide ((20000 : Int) < ((seB T).size : Int)) = false := by simp only [decide_eq_false_iff_not] at d2 ⊢; omega
      rw [snX_true (by rw [hF, d2]; rfl), hI]
      simp only [Tryz.ntmps19, Tryz.results19, push_cast, seval, d3]
theorem snapTextS_ok (x : Snp) (hc : x.conf.length ≤ 140737488355328) : PureFn Tryz.prog 13 [.agg (x.enc (.sh 1))] (snX x) := by
  refine PureFn_of_Go Tryz.func13 rfl (by decide) mo (by decide +kernel) ?_
  obtain ⟨idx, term, conf, body⟩ := x
  have k1 := l01In_ok idx 0 1000000
  have k2 := l01In_ok term 0 100000
  have k3 := confTextS_ok conf hc
  rw [show (decide (0 ≤ idx) && decide (idx ≤ 1000000)) = inR idx 0 1000000 from rfl] at k1
  rw [show (decide (0 ≤ term) && decide (term ≤ 100000)) = inR term 0 100000 from rfl] at k2
  unfold ctX at k3
  simp only [Tryz.ntmps13, Tryz.results13, push_cast, seval, Snp.enc]
  cases c3 : confB conf with
  | false =>
    rw [snX_false (by rw [snF, snB, c3, Bool.and_false, Bool.false_and, Bool.false_and])]
    rw [c3] at k3
    simp only [Bool.false_eq_true, if_false] at k3
    refine GoL_call rfl rfl k3 rfl rfl ?_
    simp only [Tryz.ntmps13, Tryz.results13, push_cast, seval]
  | true =>
  rw [c3] at k3
  simp only [if_true] at k3
  refine GoL_call rfl rfl k3 rfl rfl ?_
  simp only [Tryz.ntmps13, Tryz.results13, push_cast, seval]
  refine GoL_call rfl rfl k1 rfl rfl ?_
  cases c1 : inR idx 0 1000000 with
  | false => rw [snX_false (by rw [snF, snB, c1]; rfl)]; simp only [Tryz.ntmps13, Tryz.results13, push_cast, seval]
  | true =>
  simp only [Tryz.ntmps13, Tryz.results13, push_cast, seval]
  refine GoL_call rfl rfl k2 rfl rfl ?_
  cases c2 : inR term 0 100000 with
  | false => rw [snX_false (by rw [snF, snB, c1, c2]; rfl)]; simp only [Tryz.ntmps13, Tryz.results13, push_cast, seval]
  | true =>
  cases c4 : decide ((20000 : Int) < (body.size : Int)) with
  | true => rw [snX_false (by rw [snF, snB, c1, c2, c3, c4]; rfl)]; simp only [Tryz.ntmps13, Tryz.results13, push_cast, seval, c4]
  | false =>
  obtain ⟨i, rfl, hi⟩ := inR_nat c1
  obtain ⟨t, rfl, ht⟩ := inR_nat c2
  have hl4 := confB_len c3
  have hb : body.size ≤ 20000 := by simp only [decide_eq_false_iff_not] at c4; omega
  have ho := octB_size conf
  have s1 := varB_size i
  have s2 := varB_size t
  have s3 := shortB_le (octB conf)
  have s4 := shortB_le body
  have r1 : (varB i).size + (varB t).size ≤ 9223372036854775807 := by omega
  have r2 : (varB i ++ varB t).size + (shortB (octB conf)).size ≤ 9223372036854775807 := by simp only [ByteArray.size_append]; omega
  have r3 : ((varB i ++ varB t) ++ shortB (octB conf)).size + (shortB body).size ≤ 9223372036854775807 := by simp only [ByteArray.size_append]; omega
  have kl : (((varB i ++ varB t) ++ shortB (octB conf)) ++ shortB body).size ≤ 1000000000 := by simp only [ByteArray.size_append]; omega
  have hF : snF ⟨(i : Int), (t : Int), conf, body⟩ = !decide ((20000 : Int) < ((((varB i ++ varB t) ++ shortB (octB conf)) ++ shortB body).size : Int) + 4) := by
    rw [snF, snB, c1, c2, c3, c4]; rfl
  have hI : snI ⟨(i : Int), (t : Int), conf, body⟩ = ((varB i ++ varB t) ++ shortB (octB conf)) ++ shortB body := rfl
  simp only [Tryz.ntmps13, Tryz.results13, push_cast, seval, c4]
  refine GoD_call rfl rfl (l01Var_ok i (by omega)) rfl rfl ?_
  simp only [Tryz.ntmps13, Tryz.results13, push_cast, seval]
  refine GoD_call rfl rfl (l01Var_ok t (by omega)) rfl rfl ?_
  simp only [Tryz.ntmps13, Tryz.results13, push_cast, seval, r1]
  refine GoD_call rfl rfl (l05Short_ok (octB conf) (by omega)) rfl rfl ?_
  simp only [Tryz.ntmps13, Tryz.results13, push_cast, seval, r2]
  refine GoD_call rfl rfl (l05Short_ok body (by omega)) rfl rfl ?_
  obtain ⟨T, hT⟩ : ∃ T, T = ((varB i ++ varB t) ++ shortB (octB conf)) ++ shortB body := ⟨_, rfl⟩
  rw [← hT] at kl hF hI
  have w := w64 (n := (T.size : Int) + 4) (by omega) (by omega)
  have kS := sealedS_ok T (by omega)
  unfold seX at kS
  cases d2 : decide ((20000 : Int) < (T.size : Int) + 4) with
  | true =>
    rw [snX_false (by rw [hF, d2]; rfl)]
    simp only [Tryz.ntmps13, Tryz.results13, push_cast, seval, r3, ← hT, w, d2]
  | false =>
    rw [snX_true (by rw [hF, d2]; rfl), hI]
    have d : decide ((20000 : Int) < (T.size : Int)) = false := by simp only [decide_eq_false_iff_not] at d2 ⊢; omega
    simp only [d, Bool.false_eq_true, if_false] at kS
    simp only [Tryz.ntmps13, Tryz.results13, push_cast, seval, r3, ← hT, w, d2]
    refine GoL_call rfl rfl kS rfl rfl ?_
    simp only [Tryz.ntmps13, Tryz.results13, push_cast, seval]
end Go.Proofs.YtbdjcpalpkijcaaGreatDoor

/- Entries, frames: what ReadJournal rests on. -/
namespace Go.Proofs.YtbdjcpalpkijcaaGreatDoor
open Go.RowKit Go.Rx
set_option linter.unusedSimpArgs false
set_option maxRecDepth 100000

/-! ### sums -/
/-! ### numbers in bytes -/
/-! ### frames -/
/-! ### marks -/
/-! ### numbers that rise -/
instance (l : List Int) (a b : Int) : Decidable (rise l a b) := by unfold rise; infer_instance
/-! ### a text as numbers -/
/-! ### entries -/
/-! ### where the parts stand -/
theorem eX_form (s : ByteArray) : ∃ (n t k : Int) (d : ByteArray) (b : Bool), eX s = [i64 n, .agg (entC t k d), bo b] := by
  cases h : eOk s with
  | true => exact ⟨_, _, _, _, _, eX_true h⟩
  | false => exact ⟨_, _, _, _, _, eX_false h⟩
/-! ### marks -/
/-! ### lists of entries -/
structure Ent where
  term : Int
  kind : Int
  data : ByteArray
  deriving Inhabited
def entV (e : Ent) : List Value := [.int .i64 e.term, .int .i64 e.kind, .string e.data]
def ents (l : List Ent) : List (List Value) := l.map entV
theorem ents_length (l : List Ent) : (ents l).length = l.length := by simp [ents]
theorem ents_getD (l : List Ent) {i : Nat} (h : i < l.length) : (ents l).getD i [] = entV (l.getD i default) := by
  simp [ents, List.getD_eq_getElem?_getD, List.getElem?_map, List.getElem?_eq_getElem h]
theorem ents_take (l : List Ent) : List.take l.length (vR (ents l)) = vR (ents l) := List.take_of_length_le (by rw [vR_length, ents_length]; exact Nat.le_refl _)
def marksE (k n : Nat) : List Ent := (List.range n).map fun j => ⟨((k + 3 * j : Nat) : Int), ((k + 3 * j + 1 : Nat) : Int), mkB (k + 3 * j + 2)⟩
theorem marksE_length (k n : Nat) : (marksE k n).length = n := by simp [marksE]
theorem marksE_getD (k : Nat) {n i : Nat} (h : i < n) : (marksE k n).getD i default = ⟨((k + 3 * i : Nat) : Int), ((k + 3 * i + 1 : Nat) : Int), mkB (k + 3 * i + 2)⟩ := by
  simp [marksE, List.getD_eq_getElem?_getD, List.getElem?_map, h]
def marksF (k j : Nat) : List Value := [.int .i64 ((k + 3 * j : Nat) : Int), .int .i64 ((k + 3 * j + 1 : Nat) : Int), .string (mkB (k + 3 * j + 2))]
theorem marksF_all (k : Nat) (l : List Ent) : ents (marksE k l.length) = mix (marksF k) (ents l) l.length := by
  have := mix_all (marksF k) (ents l)
  rw [ents_length] at this
  rw [this, ents, marksE, List.map_map]; rfl
theorem row_set_get {R : List (List C)} {i : Nat} (h : i < R.length) (x : List C) : (R.set i x).getD i [] = x := by
  rw [List.getD_eq_getElem?_getD, List.getElem?_set_self h]; rfl
end Go.Proofs.YtbdjcpalpkijcaaGreatDoor

/- Marks and two numbers. -/
namespace Go.Proofs.YtbdjcpalpkijcaaGreatDoor
open Go.RowKit Go.Rx
set_option linter.unusedSimpArgs false
set_option maxRecDepth 100000

/-! ### a prefix cut off -/
def preB (s c : ByteArray) : Bool := decide ((c.size : Int) ≤ (s.size : Int)) && decide (s.extract 0 c.size = c)
theorem hasPrefix_ok (s c : ByteArray) : PureFn Tryz.prog 217 [st s, st c] [bo (preB s c)] := by
  refine PureFn_of_Go Tryz.func217 rfl (by decide) mo (by decide +kernel) ?_
  unfold preB
  by_cases h : (c.size : Int) ≤ (s.size : Int)
  · have h2 : c.size ≤ s.size := by omega
    simp only [Tryz.ntmps217, Tryz.results217, push_cast, seval, h, h2, Nat.zero_le]
  · simp only [Tryz.ntmps217, Tryz.results217, push_cast, seval, h]
theorem cutPrefixL_ok (s c : ByteArray) : PureFn Tryz.prog 201 [st s, st c] [st (if preB s c then s.extract c.size s.size else s), bo (preB s c)] := by
  refine PureFn_of_Go Tryz.func201 rfl (by decide) mo (by decide +kernel) ?_
  simp only [Tryz.ntmps201, Tryz.results201, push_cast, seval]
  refine GoL_call rfl rfl (hasPrefix_ok s c) rfl rfl ?_
  cases h : preB s c with
  | true =>
    have h2 : c.size ≤ s.size := by simp [preB] at h; exact h.1
    simp only [Tryz.ntmps201, Tryz.results201, push_cast, seval, h2, Nat.le_refl]
  | false => simp only [Tryz.ntmps201, Tryz.results201, push_cast, seval, Bool.false_eq_true]
theorem cutPrefix_ok (s c : ByteArray) : PureFn Tryz.prog 191 [st s, st c] [st (if preB s c then s.extract c.size s.size else s), bo (preB s c)] := by
  refine PureFn_of_Go Tryz.func191 rfl (by decide) mo (by decide +kernel) ?_
  simp only [Tryz.ntmps191, Tryz.results191, push_cast, seval]
  refine GoL_call rfl rfl (cutPrefixL_ok s c) rfl rfl ?_
  simp only [Tryz.ntmps191, Tryz.results191, push_cast, seval]

/-! ### two numbers behind a mark -/
def pairT (s c : ByteArray) : ByteArray := c ++ varB (eN1 s) ++ varB (eN2 s)
def pairB (s c : ByteArray) : Bool := !eB3 s && decide (pairT s c = s)
def pairX (s c : ByteArray) : List X := if pairB s c then [i64 (eN1 s), i64 (eN2 s), bo true] else [i64 0, i64 0, bo false]
/-! ### the same text without its first octet -/
theorem bu_tail (s : ByteArray) (i : Nat) : bu (s.extract 1 s.size) i = bu s (i + 1) := by
  unfold bu
  rw [extract_list, seg, List.getD_eq_getElem?_getD, List.getD_eq_getElem?_getD]
  have hl : s.data.toList.length = s.size := by rw [Array.length_toList]; rfl
  by_cases h : i < s.size - 1
  · rw [List.getElem?_take_of_lt h, List.getElem?_drop, Nat.add_comm]
  · rw [List.getElem?_eq_none (by rw [List.length_take, List.length_drop, hl]; omega), List.getElem?_eq_none (by rw [hl]; omega)]
theorem tail_size {s : ByteArray} (h : 1 ≤ s.size) : (s.extract 1 s.size).size + 1 = s.size := by rw [ByteArray.size_extract]; omega
theorem rvL_tail {s : ByteArray} (h : 1 ≤ s.size) (a : Nat) : ∀ (k i n u : Nat), rvL s (a + 1) k i n u = (rvL (s.extract 1 s.size) a k i n u).map fun p => (p.1, p.2 + 1)
  | 0, _, _, _ => rfl
  | k + 1, i, n, u => by
    have hz := tail_size h
    have hb : bu (s.extract 1 s.size) (a + i) = bu s (a + 1 + i) := by rw [bu_tail]; congr 1; omega
    by_cases h1 : a + i < (s.extract 1 s.size).size
    · have h1' : a + 1 + i < s.size := by omega
      by_cases h2 : 128 ≤ (bu s (a + 1 + i)).toNat
      · rw [rvL_go h1' h2, rvL_go h1 (by rw [hb]; exact h2), hb]; exact rvL_tail h a k _ _ _
      · by_cases h3 : ((bu s (a + 1 + i)).toNat = 0 ∧ 0 < i) ∨ 1000000000 < n + (bu s (a + 1 + i)).toNat % 128 * u
        · rw [rvL_no h1' h2 h3, rvL_no h1 (by rw [hb]; exact h2) (by rw [hb]; exact h3)]; rfl
        · rw [rvL_yes h1' h2 h3, rvL_yes h1 (by rw [hb]; exact h2) (by rw [hb]; exact h3), hb]
          simp only [Option.map_some, Option.some.injEq, Prod.mk.injEq, true_and]; omega
    · rw [rvL_out h1, rvL_out (by omega)]; rfl
theorem rvO_tail {s : ByteArray} (h : 1 ≤ s.size) (a : Nat) : rvO s ((a + 1 : Nat) : Int) = (rvO (s.extract 1 s.size) a).map fun p => (p.1, p.2 + 1) := by
  have hz := tail_size h
  unfold rvO
  by_cases c : a ≤ (s.extract 1 s.size).size
  · rw [if_pos (by omega), if_pos (by omega), Int.toNat_natCast, Int.toNat_natCast]; exact rvL_tail h a _ _ _ _
  · rw [if_neg (by omega), if_neg (by omega)]; rfl
theorem num_tail {s : ByteArray} (h : 1 ≤ s.size) (a : Nat) (b : Bool) :
    numN s (a + 1) b = numN (s.extract 1 s.size) a b ∧ numA s (a + 1) b = numA (s.extract 1 s.size) a b + 1 ∧ numB s (a + 1) b = numB (s.extract 1 s.size) a b := by
  unfold numN numA numB
  cases b with
  | true => exact ⟨rfl, rfl, rfl⟩
  | false =>
    simp only [Bool.false_eq_true, if_false]
    rw [rvO_tail h a]
    cases rvO (s.extract 1 s.size) a with
    | none => exact ⟨rfl, rfl, rfl⟩
    | some p => exact ⟨rfl, rfl, rfl⟩
theorem pair_iff {s c : ByteArray} (hc : c.size = 1) (h : eB3 s = false) : pairT s c = s ↔ preB s c = true ∧ eA3 s = s.size := by
  obtain ⟨h2, n2, x3, r2, e2, f2⟩ := numB_false h
  obtain ⟨h1, n1, x2, r1, e1, f1⟩ := numB_false h2
  obtain ⟨_, hs1, ha1, ht1⟩ := takeB_false h1
  have hA1 : eA1 s = 1 := by rw [eA1, ha1]
  have hN1 : eN1 s = n1 := e1
  have hA2 : eA2 s = x2 := f1
  have hN2 : eN2 s = n2 := e2
  have hA3 : eA3 s = x3 := f2
  rw [hA1] at r1
  rw [hA2] at r2
  have c1 := rvO_canon r1
  have c2 := rvO_canon r2
  obtain ⟨_, _, b1, b1'⟩ := rvO_bound r1
  obtain ⟨_, _, b2, b2'⟩ := rvO_bound r2
  have L : (pairT s c).data.toList = c.data.toList ++ (seg s 1 (x2 - 1) ++ seg s x2 (x3 - x2)) := by
    unfold pairT
    rw [app_list, app_list, varB_list, varB_list, hN1, hN2, c1, c2, List.append_assoc]
  have R : s.data.toList = seg s 0 1 ++ (seg s 1 (x2 - 1) ++ (seg s x2 (x3 - x2) ++ seg s x3 (s.size - x3))) := by
    rw [← seg_all s, show s.size = 1 + ((x2 - 1) + ((x3 - x2) + (s.size - x3))) by omega]
    rw [seg_append, show (0 : Nat) + 1 = 1 from rfl, seg_append, show 1 + (x2 - 1) = x2 by omega, seg_append, show x2 + (x3 - x2) = x3 by omega]
    rw [show 1 + (x2 - 1 + (x3 - x2 + (s.size - x3))) - x3 = s.size - x3 by omega]
  have hpre : preB s c = true ↔ c.data.toList = seg s 0 1 := by
    have hx : (s.extract 0 c.size).data.toList = seg s 0 1 := by rw [extract_list, hc]
    unfold preB
    rw [Bool.and_eq_true, decide_eq_true_eq, decide_eq_true_eq]
    constructor
    · rintro ⟨_, h⟩; rw [← hx, h]
    · intro h; exact ⟨by omega, bytes_ext (by rw [hx, h])⟩
  have hcl : c.data.toList.length = 1 := by rw [Array.length_toList]; exact hc
  have hsl : (seg s 0 1).length = 1 := seg_len (by omega)
  rw [hA3]
  constructor
  · intro hh
    have h0 : (pairT s c).data.toList = s.data.toList := by rw [hh]
    rw [L] at h0
    conv at h0 => rhs; rw [R]
    have h3 := List.append_inj h0 (by rw [hcl, hsl])
    refine ⟨hpre.2 h3.1, ?_⟩
    have h4 := congrArg List.length h3.2
    simp only [List.length_append] at h4
    have h5 : (seg s x3 (s.size - x3)).length = s.size - x3 := seg_len (by omega)
    omega
  · rintro ⟨p, q⟩
    refine bytes_ext ?_
    rw [L]
    conv => rhs; rw [R]
    rw [hpre.1 p, q, Nat.sub_self, seg_zero, List.append_nil]
theorem eA1_pre {s c : ByteArray} (hc : c.size = 1) (h : preB s c = true) : 1 ≤ s.size ∧ eA1 s = 1 ∧ eB1 s = false := by
  have h1 : 1 ≤ s.size := by simp [preB] at h; omega
  have ho : takeOk s 0 false 1 = true := by simp [takeOk]; exact h1
  exact ⟨h1, by simp [eA1, takeA, ho], by simp [eB1, takeB, ho]⟩
end Go.Proofs.YtbdjcpalpkijcaaGreatDoor

/- Logs: right ones, a copy, one more entry. -/
namespace Go.Proofs.YtbdjcpalpkijcaaGreatDoor
open Go.RowKit Go.Rx
set_option linter.unusedSimpArgs false
set_option maxRecDepth 100000

structure Lg where
  start : Int
  sterm : Int
  es : List Ent
def lgC (l : Lg) (f : C) : List C := [.v (.int .i64 l.start), .v (.int .i64 l.sterm), f]
def entOk (e : Ent) : Bool := eoB e.term e.kind e.data
def riseB : Int → List Ent → Bool
  | _, [] => true
  | t, e :: es => (entOk e && decide (t ≤ e.term)) && riseB e.term es
def logB (l : Lg) : Bool := (inR l.start 0 1000000 && inR l.sterm 0 100000 && decide ((l.es.length : Int) ≤ 60) && decide (l.start + (l.es.length : Int) ≤ 1000000)) && riseB l.sterm l.es
def fineE (l : List Ent) : Prop := l.length ≤ 1048576 ∧ ∀ e ∈ l, e.data.size ≤ 140737488355328
theorem ents_drop {l : List Ent} {i : Nat} (h : i < l.length) : l.drop i = l.getD i default :: l.drop (i + 1) := by
  rw [List.drop_eq_getElem_cons h, List.getD_eq_getElem?_getD, List.getElem?_eq_getElem h]; rfl
theorem fine_getD {l : List Ent} (h : fineE l) {i : Nat} (hi : i < l.length) : (l.getD i default).data.size ≤ 140737488355328 := by
  rw [List.getD_eq_getElem?_getD, List.getElem?_eq_getElem hi]
  exact h.2 _ (List.getElem_mem hi)

theorem logOkS_ok (l : Lg) (h : fineE l.es) : PureFn Tryz.prog 62 [.agg (lgC l (.sh 3 (vR (ents l.es))))] [bo (logB l)] := by
  refine PureFn_of_Go Tryz.func62 rfl (by decide) mo (by decide +kernel) ?_
  obtain ⟨start, sterm, es⟩ := l
  obtain ⟨hl, hd⟩ := h
  have hfe : fineE es := ⟨hl, hd⟩
  simp only at hl hd
  have k1 := l01In_ok start 0 1000000
  have k2 := l01In_ok sterm 0 100000
  rw [show (decide ((0 : Int) ≤ start) && decide (start ≤ 1000000)) = inR start 0 1000000 from rfl] at k1
  rw [show (decide ((0 : Int) ≤ sterm) && decide (sterm ≤ 100000)) = inR sterm 0 100000 from rfl] at k2
  simp only [Tryz.ntmps62, Tryz.results62, push_cast, seval, lgC]
  refine GoL_call rfl rfl k1 rfl rfl ?_
  unfold logB
  simp only
  cases c1 : inR start 0 1000000 with
  | false => simp only [Tryz.ntmps62, Tryz.results62, push_cast, seval]
  | true =>
    have hst := inR_spec.1 c1
    simp only [Tryz.ntmps62, Tryz.results62, push_cast, seval]
    refine GoL_call rfl rfl k2 rfl rfl ?_
    cases c2 : inR sterm 0 100000 with
    | false => simp only [Tryz.ntmps62, Tryz.results62, push_cast, seval]
    | true =>
      have hw : IntKind.i64.wrap (start + (es.length : Int)) = start + (es.length : Int) := w64 (by omega) (by omega)
      by_cases c3 : (es.length : Int) ≤ 60
      · have c3' : ¬ (60 : Int) < (es.length : Int) := by omega
        by_cases c4 : start + (es.length : Int) ≤ 1000000
        · have c4' : ¬ (1000000 : Int) < start + (es.length : Int) := by omega
          simp only [Tryz.ntmps62, Tryz.results62, push_cast, seval, ents_length, c3, c3', hw, c4, c4']
          refine Go_loop (α := {p : Nat × Int // p.1 ≤ es.length ∧ riseB sterm es = riseB p.2 (es.drop p.1)})
            (fun p => ⟨tp 62 [(1, .x (.one (.pt (0, 64) [] 3 0 0))), (2, .x (bo false)), (3, .x (i64 p.1.2)), (4, int p.1.1)], 0, [((0, 64), ⟨.box, 3, [[.v (.int .i64 start), .v (.int .i64 sterm), .sh 3 (vR (ents es))]]⟩)], []⟩)
            (fun p => es.length - p.1.1) ⟨(0, sterm), Nat.zero_le _, by simp⟩ ?_ ?_
          · exact Weak.same (by simp only [push_cast, seval, Int.ofNat_zero])
          · rintro ⟨⟨i, t⟩, hi, hr⟩ X hX
            simp only at hi hr
            by_cases hlt : (i : Int) < (es.length : Int)
            · have hi' : i < es.length := by omega
              have hg := ents_getD es hi'
              have hsz := fine_getD hfe hi'
              rw [ents_drop hi'] at hr
              obtain ⟨e, he⟩ : ∃ e, e = es.getD i default := ⟨_, rfl⟩
              rw [← he] at hg hr hsz
              have k3 := entryOkS_ok e.term e.kind e.data hsz
              rw [show eoB e.term e.kind e.data = entOk e from rfl] at k3
              obtain ⟨i', hi1⟩ : ∃ i', i' = i + 1 := ⟨_, rfl⟩
              have ws := wsucc hi' (by omega)
              rw [← hi1] at ws hr
              simp only [push_cast, seval, ents_length, hlt, hi', vR_getD, hg, entV]
              refine GoL_call rfl rfl k3 rfl rfl ?_
              cases c5 : entOk e with
              | false =>
                rw [hr]
                simp only [Tryz.ntmps62, Tryz.results62, push_cast, seval, riseB, c5]
              | true =>
                by_cases c6 : t ≤ e.term
                · have c6' : ¬ e.term < t := by omega
                  simp only [push_cast, seval, ents_length, hlt, hi', vR_getD, hg, entV, c6', ws]
                  refine ⟨_, ?_, hX ⟨(i', e.term), by simp only; omega, by simp only; rw [hr, riseB, c5, decide_eq_true c6]; rfl⟩ (by simp only; omega)⟩
                  exact Weak.same (by simp only [push_cast, seval])
                · have c6' : e.term < t := by omega
                  rw [hr, riseB, c5, decide_eq_false c6]
                  simp only [Tryz.ntmps62, Tryz.results62, push_cast, seval, ents_length, hlt, hi', vR_getD, hg, entV, c6']
            · have hil : i = es.length := by omega
              rw [hil, List.drop_length] at hr
              simp only [Tryz.ntmps62, Tryz.results62, push_cast, seval, ents_length, hlt, hr, riseB]
        · have c4' : (1000000 : Int) < start + (es.length : Int) := by omega
          simp only [Tryz.ntmps62, Tryz.results62, push_cast, seval, ents_length, c3, c3', hw, c4, c4']
      · have c3' : (60 : Int) < (es.length : Int) := by omega
        simp only [Tryz.ntmps62, Tryz.results62, push_cast, seval, ents_length, c3, c3']
theorem logOkI_ok (l : Lg) (h : fineE l.es) : PureFn Tryz.prog 86 [.agg (lgC l (.sh 3 (vR (ents l.es))))] [bo (logB l)] := by
  refine PureFn_of_Go Tryz.func86 rfl (by decide) mo (by decide +kernel) ?_
  obtain ⟨start, sterm, es⟩ := l
  obtain ⟨hl, hd⟩ := h
  have hfe : fineE es := ⟨hl, hd⟩
  simp only at hl hd
  have k1 := isIndex_ok start
  have k2 := isTerm_ok sterm
  simp only [Tryz.ntmps86, Tryz.results86, push_cast, seval, lgC]
  refine GoL_call rfl rfl k1 rfl rfl ?_
  unfold logB
  simp only
  cases c1 : inR start 0 1000000 with
  | false => simp only [Tryz.ntmps86, Tryz.results86, push_cast, seval]
  | true =>
    have hst := inR_spec.1 c1
    simp only [Tryz.ntmps86, Tryz.results86, push_cast, seval]
    refine GoL_call rfl rfl k2 rfl rfl ?_
    cases c2 : inR sterm 0 100000 with
    | false => simp only [Tryz.ntmps86, Tryz.results86, push_cast, seval]
    | true =>
      have hw : IntKind.i64.wrap (start + (es.length : Int)) = start + (es.length : Int) := w64 (by omega) (by omega)
      by_cases c3 : (es.length : Int) ≤ 60
      · have c3' : ¬ (60 : Int) < (es.length : Int) := by omega
        by_cases c4 : start + (es.length : Int) ≤ 1000000
        · have c4' : ¬ (1000000 : Int) < start + (es.length : Int) := by omega
          simp only [Tryz.ntmps86, Tryz.results86, push_cast, seval, ents_length, c3, c3', hw, c4, c4']
          refine Go_loop (α := {p : Nat × Int // p.1 ≤ es.length ∧ riseB sterm es = riseB p.2 (es.drop p.1)})
            (fun p => ⟨tp 52 [(1, .x (.one (.pt (0, 64) [] 3 0 0))), (2, .x (bo false)), (3, .x (i64 p.1.2)), (34, .x (.one (.sh 3 (vR (ents es))))), (35, int es.length), (36, int p.1.1)], 0, [((0, 64), ⟨.box, 3, [[.v (.int .i64 start), .v (.int .i64 sterm), .sh 3 (vR (ents es))]]⟩)], []⟩)
            (fun p => es.length - p.1.1) ⟨(0, sterm), Nat.zero_le _, by simp⟩ ?_ ?_
          · exact Weak.same (by simp only [push_cast, seval, Int.ofNat_zero])
          · rintro ⟨⟨i, t⟩, hi, hr⟩ X hX
            simp only at hi hr
            by_cases hlt : (i : Int) < (es.length : Int)
            · have hi' : i < es.length := by omega
              have hg := ents_getD es hi'
              have hsz := fine_getD hfe hi'
              rw [ents_drop hi'] at hr
              obtain ⟨e, he⟩ : ∃ e, e = es.getD i default := ⟨_, rfl⟩
              rw [← he] at hg hr hsz
              have k3 := entryOkI_ok e.term e.kind e.data hsz
              rw [show eoB e.term e.kind e.data = entOk e from rfl] at k3
              obtain ⟨i', hi1⟩ : ∃ i', i' = i + 1 := ⟨_, rfl⟩
              have ws := wsucc hi' (by omega)
              rw [← hi1] at ws hr
              simp only [push_cast, seval, ents_length, hlt, hi', vR_getD, hg, entV]
              refine GoL_call rfl rfl k3 rfl rfl ?_
              cases c5 : entOk e with
              | false =>
                rw [hr]
                simp only [Tryz.ntmps86, Tryz.results86, push_cast, seval, riseB, c5]
              | true =>
                by_cases c6 : t ≤ e.term
                · have c6' : ¬ e.term < t := by omega
                  simp only [push_cast, seval, ents_length, hlt, hi', vR_getD, hg, entV, c6', ws]
                  refine ⟨_, ?_, hX ⟨(i', e.term), by simp only; omega, by simp only; rw [hr, riseB, c5, decide_eq_true c6]; rfl⟩ (by simp only; omega)⟩
                  exact Weak.drop (by simp only [push_cast, seval]) (by simp only [push_cast, seval]) (by simp only [push_cast, seval])
                · have c6' : e.term < t := by omega
                  rw [hr, riseB, c5, decide_eq_false c6]
                  simp only [Tryz.ntmps86, Tryz.results86, push_cast, seval, ents_length, hlt, hi', vR_getD, hg, entV, c6']
            · have hil : i = es.length := by omega
              rw [hil, List.drop_length] at hr
              simp only [Tryz.ntmps86, Tryz.results86, push_cast, seval, ents_length, hlt, hr, riseB]
        · have c4' : (1000000 : Int) < start + (es.length : Int) := by omega
          simp only [Tryz.ntmps86, Tryz.results86, push_cast, seval, ents_length, c3, c3', hw, c4, c4']
      · have c3' : (60 : Int) < (es.length : Int) := by omega
        simp only [Tryz.ntmps86, Tryz.results86, push_cast, seval, ents_length, c3, c3']

/-! ### a copy -/
theorem ents_flat (es : List Ent) : (vR (ents es)).all flatRow = true := by
  rw [List.all_eq_true]
  intro r hr
  simp only [vR, ents, List.map_map, List.mem_map, Function.comp_apply] at hr
  obtain ⟨e, _, rfl⟩ := hr
  rfl
theorem entT (es : List Ent) : toShRR (vR (ents es)) = vR (ents es) := by simp only [push_cast]
end Go.Proofs.YtbdjcpalpkijcaaGreatDoor

/- Logs: one more entry. -/
namespace Go.Proofs.YtbdjcpalpkijcaaGreatDoor
open Go.RowKit Go.Rx
set_option linter.unusedSimpArgs false
set_option maxRecDepth 100000

def putL (l : Lg) (index : Int) (e : Ent) : Lg := ⟨l.start, l.sterm, l.es.take (index - l.start - 1).toNat ++ [e]⟩
def putB (l : Lg) (index : Int) (e : Ent) : Bool := (logB l && inR index (l.start + 1) (l.start + (l.es.length : Int) + 1)) && logB (putL l index e)
def lgZ : List C := [.v (.int .i64 0), .v (.int .i64 0), .v (.slice none 0 0)]
def putX (l : Lg) (index : Int) (e : Ent) : List X := if putB l index e then [.agg (lgC (putL l index e) (.own 3 (vR (ents (putL l index e).es)))), bo true] else [.agg lgZ, bo false]
theorem logB_spec {l : Lg} (h : logB l = true) : 0 ≤ l.start ∧ l.start ≤ 1000000 ∧ l.es.length ≤ 60 ∧ l.start + (l.es.length : Int) ≤ 1000000 := by
  simp only [logB, Bool.and_eq_true, decide_eq_true_eq, inR_spec] at h
  omega
theorem fine_put {l : Lg} (h : fineE l.es) (index : Int) (e : Ent) (he : e.data.size ≤ 140737488355328) (h60 : l.es.length ≤ 60) : fineE (putL l index e).es := by
  obtain ⟨h1, h2⟩ := h
  refine ⟨?_, fun x hx => ?_⟩
  · show (l.es.take _ ++ [e]).length ≤ _
    rw [List.length_append, List.length_take]
    simp only [List.length_cons, List.length_nil]; omega
  · have hx' : x ∈ l.es.take (index - l.start - 1).toNat ++ [e] := hx
    rw [List.mem_append] at hx'
    rcases hx' with hx' | hx'
    · exact h2 x (List.mem_of_mem_take hx')
    · rw [List.mem_singleton.1 hx']; exact he
end Go.Proofs.YtbdjcpalpkijcaaGreatDoor

/- Journals: what a record tells; the program's reader. -/
namespace Go.Proofs.YtbdjcpalpkijcaaGreatDoor
open Go.RowKit Go.Rx
set_option linter.unusedSimpArgs false
set_option maxRecDepth 100000

theorem logB_nil (start sterm : Int) : logB ⟨start, sterm, []⟩ = (inR start 0 1000000 && inR sterm 0 100000) := by
  unfold logB
  cases c1 : inR start 0 1000000 with
  | false => rfl
  | true =>
    have := inR_spec.1 c1
    have h : start + (([] : List Ent).length : Int) ≤ 1000000 := by simp; omega
    simp [riseB, h]
    intro _
    exact this.2
theorem logOkS_nil (start sterm : Int) : PureFn Tryz.prog 62 [.agg [.v (.int .i64 start), .v (.int .i64 sterm), .v (.slice none 0 0)]] [bo (logB ⟨start, sterm, []⟩)] := by
  refine PureFn_of_Go Tryz.func62 rfl (by decide) mo (by decide +kernel) ?_
  have k1 := l01In_ok start 0 1000000
  have k2 := l01In_ok sterm 0 100000
  rw [show (decide ((0 : Int) ≤ start) && decide (start ≤ 1000000)) = inR start 0 1000000 from rfl] at k1
  rw [show (decide ((0 : Int) ≤ sterm) && decide (sterm ≤ 100000)) = inR sterm 0 100000 from rfl] at k2
  rw [logB_nil]
  simp only [Tryz.ntmps62, Tryz.results62, push_cast, seval]
  refine GoL_call rfl rfl k1 rfl rfl ?_
  cases c1 : inR start 0 1000000 with
  | false => simp only [Tryz.ntmps62, Tryz.results62, push_cast, seval]
  | true =>
    have hst := inR_spec.1 c1
    simp only [Tryz.ntmps62, Tryz.results62, push_cast, seval]
    refine GoL_call rfl rfl k2 rfl rfl ?_
    cases c2 : inR sterm 0 100000 with
    | false => simp only [Tryz.ntmps62, Tryz.results62, push_cast, seval]
    | true =>
      have hw : IntKind.i64.wrap start = start := w64 (by omega) (by omega)
      have c4 : ¬ (1000000 : Int) < start := by omega
      simp only [Tryz.ntmps62, Tryz.results62, push_cast, seval, Int.add_zero, hw, c4]
      refine Go_loop (α := Unit) (fun _ => ⟨tp 62 [(1, .x (.one (.pt (0, 64) [] 3 0 0))), (2, .x (bo false)), (4, int 0)], 0, [((0, 64), ⟨.box, 3, [[.v (.int .i64 start), .v (.int .i64 sterm), .v (.slice none 0 0)]]⟩)], []⟩) (fun _ => 0) () ?_ ?_
      · exact Weak.same (by simp only [push_cast, seval, Int.ofNat_zero])
      · rintro _ X hX
        simp only [Tryz.ntmps62, Tryz.results62, push_cast, seval]
theorem logOkI_nil (start sterm : Int) : PureFn Tryz.prog 86 [.agg [.v (.int .i64 start), .v (.int .i64 sterm), .v (.slice none 0 0)]] [bo (logB ⟨start, sterm, []⟩)] := by
  refine PureFn_of_Go Tryz.func86 rfl (by decide) mo (by decide +kernel) ?_
  have k1 := isIndex_ok start
  have k2 := isTerm_ok sterm
  rw [logB_nil]
  simp only [Tryz.ntmps86, Tryz.results86, push_cast, seval]
  refine GoL_call rfl rfl k1 rfl rfl ?_
  cases c1 : inR start 0 1000000 with
  | false => simp only [Tryz.ntmps86, Tryz.results86, push_cast, seval]
  | true =>
    have hst := inR_spec.1 c1
    simp only [Tryz.ntmps86, Tryz.results86, push_cast, seval]
    refine GoL_call rfl rfl k2 rfl rfl ?_
    cases c2 : inR sterm 0 100000 with
    | false => simp only [Tryz.ntmps86, Tryz.results86, push_cast, seval]
    | true =>
      have hw : IntKind.i64.wrap start = start := w64 (by omega) (by omega)
      have c4 : ¬ (1000000 : Int) < start := by omega
      simp only [Tryz.ntmps86, Tryz.results86, push_cast, seval, Int.add_zero, hw, c4]
      refine Go_loop (α := Unit) (fun _ => ⟨tp 52 [(1, .x (.one (.pt (0, 64) [] 3 0 0))), (2, .x (bo false)), (34, .x (.one (.v (.slice none 0 0)))), (35, int 0), (36, int 0)], 0, [((0, 64), ⟨.box, 3, [[.v (.int .i64 start), .v (.int .i64 sterm), .v (.slice none 0 0)]]⟩)], []⟩) (fun _ => 0) () ?_ ?_
      · exact Weak.same (by simp only [push_cast, seval, Int.ofNat_zero])
      · rintro _ X hX
        simp only [Tryz.ntmps86, Tryz.results86, push_cast, seval]
theorem journalOk_nil (n start sterm : Int) : PureFn Tryz.prog 52 [.agg [.v (.int .i64 n), .v (.int .i64 0), .v (.int .i64 0), .v (.int .i64 start), .v (.int .i64 sterm), .v (.slice none 0 0)]] [bo (inR n 0 999 && logB ⟨start, sterm, []⟩)] := by
  refine PureFn_of_Go Tryz.func52 rfl (by decide) mo (by decide +kernel) ?_
  have k1 := inRange_ok n 0 999
  rw [show (decide ((0 : Int) ≤ n) && decide (n ≤ 999)) = inR n 0 999 from rfl] at k1
  have k2 := isTerm_ok 0
  have k3 := inRange_ok 0 0 4
  have k4 := logOkI_nil start sterm
  simp only [Tryz.ntmps52, Tryz.results52, push_cast, seval]
  refine GoL_call rfl rfl k1 rfl rfl ?_
  cases c1 : inR n 0 999 with
  | false => simp only [Tryz.ntmps52, Tryz.results52, push_cast, seval]
  | true =>
    simp only [Tryz.ntmps52, Tryz.results52, push_cast, seval]
    refine GoL_call rfl rfl k2 rfl rfl ?_
    rw [show inR 0 0 100000 = true from rfl]
    simp only [Tryz.ntmps52, Tryz.results52, push_cast, seval]
    refine GoL_call rfl rfl k3 rfl rfl ?_
    rw [show (decide ((0 : Int) ≤ 0) && decide ((0 : Int) ≤ 4)) = true from rfl]
    simp only [Tryz.ntmps52, Tryz.results52, push_cast, seval]
    refine GoL_call rfl rfl k4 rfl rfl ?_
    simp only [Tryz.ntmps52, Tryz.results52, push_cast, seval]

/-! ### records -/
structure Jn where
  number : Int
  term : Int
  vote : Int
  log : Lg
def mkH : ByteArray := ⟨#[72]⟩
def mkB' : ByteArray := ⟨#[66]⟩
def entOf (s : ByteArray) : Ent := ⟨eN2 s, eK s, eD s⟩
def moreO (j : Jn) (s : ByteArray) : Option Jn :=
  if pairB s mkH then (if inR (eN1 s) 0 100000 && inR (eN2 s) 0 4 then some ⟨j.number, eN1 s, eN2 s, j.log⟩ else none)
  else if eOk s then (if putB j.log (eN1 s) (entOf s) then some ⟨j.number, j.term, j.vote, putL j.log (eN1 s) (entOf s)⟩ else none) else none
def tellL : Jn → Nat → List (ByteArray × Nat) → Jn × Nat
  | j, e, [] => (j, e)
  | j, e, (t, x) :: r => match moreO j t with
    | some j' => tellL j' x r
    | none => (j, e)
def rjO (n : Int) (s : ByteArray) : Option (Jn × Nat) :=
  if inR n 0 999 then match frs s with
    | [] => none
    | (t, x) :: r => if pairB t mkB' && logB ⟨eN1 t, eN2 t, []⟩ then some (tellL ⟨n, 0, 0, ⟨eN1 t, eN2 t, []⟩⟩ x r) else none
  else none
def jnC (j : Jn) (f : C) : List C := [.v (.int .i64 j.number), .v (.int .i64 j.term), .v (.int .i64 j.vote), .v (.int .i64 j.log.start), .v (.int .i64 j.log.sterm), f]
def jnZ : Jn := ⟨0, 0, 0, ⟨0, 0, []⟩⟩
def rjX : Option (Jn × Nat) → List X
  | none => [.agg (jnC jnZ (.own 3 (vR (ents jnZ.log.es)))), i64 0, bo false]
  | some (j, e) => [.agg (jnC j (.own 3 (vR (ents j.log.es)))), i64 e, bo true]
theorem rjX_form (o : Option (Jn × Nat)) : ∃ j e b, rjX o = [.agg (jnC j (.own 3 (vR (ents j.log.es)))), i64 e, bo b] := by
  cases o with
  | none => exact ⟨_, 0, _, rfl⟩
  | some p => exact ⟨_, p.2, _, rfl⟩
theorem eD_size (s : ByteArray) : (eD s).size ≤ s.size := by unfold eD; rw [ByteArray.size_extract]; omega
theorem fine_more {j j' : Jn} {s : ByteArray} (h : fineE j.log.es) (hs : s.size ≤ 140737488355328) (hm : moreO j s = some j') : fineE j'.log.es := by
  unfold moreO at hm
  split at hm
  · split at hm
    · cases hm; exact h
    · cases hm
  · split at hm
    · split at hm
      · rename_i hp
        cases hm
        have hp2 := hp
        simp only [putB, Bool.and_eq_true] at hp2
        exact fine_put h _ _ (Nat.le_trans (eD_size s) hs) (logB_spec hp2.1.1).2.2.1
      · cases hm
    · cases hm
end Go.Proofs.YtbdjcpalpkijcaaGreatDoor

/- Journals: the program's reader. -/
namespace Go.Proofs.YtbdjcpalpkijcaaGreatDoor
open Go.RowKit Go.Rx
set_option linter.unusedSimpArgs false
set_option maxRecDepth 100000

theorem frTs_length (l : List (ByteArray × Nat)) : (strs (frTs l)).length = l.length := by simp [strs, frTs]
theorem frEs_length (l : List (ByteArray × Nat)) : (ints (frEs l)).length = l.length := by simp [ints, frEs]
theorem frTs_getD {l : List (ByteArray × Nat)} {i : Nat} (h : i < l.length) : (strs (frTs l)).getD i [] = [.string (l.getD i default).1] := by
  simp [strs, frTs, List.getD_eq_getElem?_getD, List.getElem?_map, List.getElem?_eq_getElem h]
theorem frEs_getD {l : List (ByteArray × Nat)} {i : Nat} (h : i < l.length) : (ints (frEs l)).getD i [] = [.int .i64 ((l.getD i default).2 : Int)] := by
  simp [ints, frEs, List.getD_eq_getElem?_getD, List.getElem?_map, List.getElem?_eq_getElem h]
theorem frO_size {s : ByteArray} {a x : Nat} {t : ByteArray} (h : frO s a = some (t, x)) : t.size ≤ s.size ∧ x = a + (frameB t).size ∧ okLen t = true := by
  unfold frO at h
  split at h
  · rename_i n y hr
    split at h
    · rename_i hc
      obtain ⟨rfl, rfl⟩ := Prod.mk.inj (Option.some.inj h)
      obtain ⟨q1, q2, q3, q4⟩ := hc
      have hz : (s.extract (y + 4) (y + 4 + n)).size = n := by rw [ByteArray.size_extract]; omega
      have hb := rvO_bound hr
      have he := (frame_iff hr q1).2 q4
      refine ⟨extract_size _ _ _, ?_, ?_⟩
      · rw [he, ByteArray.size_extract]; omega
      · unfold okLen; rw [hz]; simp; omega
    · cases h
  · cases h
theorem frL_sizes {s : ByteArray} : ∀ (k a : Nat), ∀ p ∈ frL s k a, p.1.size ≤ s.size
  | 0, _, p, h => by cases h
  | k + 1, a, p, h => by
    rw [frL] at h
    cases hf : frO s a with
    | none => rw [hf] at h; cases h
    | some q =>
      obtain ⟨t, x⟩ := q
      rw [hf] at h
      rcases List.mem_cons.1 h with rfl | h
      · exact (frO_size hf).1
      · exact frL_sizes k x p h
theorem frs_sizes {s : ByteArray} : ∀ p ∈ frs s, p.1.size ≤ s.size := by
  intro p h
  unfold frs at h
  split at h
  · exact frL_sizes _ _ p h
  · cases h
theorem drop_getD {α : Type} [Inhabited α] {l : List α} {i : Nat} (h : i < l.length) : l.drop i = l.getD i default :: l.drop (i + 1) := by
  rw [List.drop_eq_getElem_cons h, List.getD_eq_getElem?_getD, List.getElem?_eq_getElem h]; rfl

end Go.Proofs.YtbdjcpalpkijcaaGreatDoor

/- Journals: the document's reader. -/
namespace Go.Proofs.YtbdjcpalpkijcaaGreatDoor
open Go.RowKit Go.Rx
set_option linter.unusedSimpArgs false
set_option maxRecDepth 100000

def endAt (F : List (ByteArray × Nat)) : Nat → Nat
  | 0 => 0
  | i + 1 => (F.getD i default).2
theorem frL_ends {s : ByteArray} : ∀ (k a i : Nat), i < (frL s k a).length → okLen ((frL s k a).getD i default).1 = true ∧
    ((frL s k a).getD i default).2 = (match i with | 0 => a | j + 1 => ((frL s k a).getD j default).2) + (frameB ((frL s k a).getD i default).1).size
  | 0, _, i, h => by simp [frL] at h
  | k + 1, a, i, h => by
    rw [frL] at h ⊢
    cases hf : frO s a with
    | none => rw [hf] at h; simp at h
    | some q =>
      obtain ⟨t, x⟩ := q
      rw [hf] at h
      have hz := frO_size hf
      cases i with
      | zero => exact ⟨hz.2.2, hz.2.1⟩
      | succ i =>
        have ih := frL_ends k x i (by simpa using h)
        refine ⟨ih.1, ?_⟩
        have h2 := ih.2
        cases i with
        | zero => exact h2
        | succ i => exact h2
theorem frs_ends {s : ByteArray} {i : Nat} (h : i < (frs s).length) : okLen ((frs s).getD i default).1 = true ∧ endAt (frs s) (i + 1) = endAt (frs s) i + (frameB ((frs s).getD i default).1).size := by
  unfold frs at h ⊢
  split at h
  · rename_i hs
    rw [if_pos hs]
    have := frL_ends _ _ i h
    refine ⟨this.1, ?_⟩
    cases i with
    | zero => exact this.2
    | succ i => exact this.2
  · simp at h

theorem frL_le {s : ByteArray} : ∀ (k a : Nat), ∀ p ∈ frL s k a, p.2 ≤ s.size
  | 0, _, p, h => by cases h
  | k + 1, a, p, h => by
    rw [frL] at h
    cases hf : frO s a with
    | none => rw [hf] at h; cases h
    | some q =>
      obtain ⟨t, x⟩ := q
      rw [hf] at h
      rcases List.mem_cons.1 h with rfl | h
      · exact (frO_bound hf).2
      · exact frL_le k x p h
theorem frs_le {s : ByteArray} : ∀ p ∈ frs s, p.2 ≤ s.size := by
  intro p h
  unfold frs at h
  split at h
  · exact frL_le _ _ p h
  · cases h

end Go.Proofs.YtbdjcpalpkijcaaGreatDoor

/- Lists: what several texts rest on. -/
namespace Go.Proofs.YtbdjcpalpkijcaaGreatDoor
open Go.RowKit Go.Rx
theorem getD_mem' {α : Type} [Inhabited α] (xs : List α) (i : Nat) (h : i < xs.length) : xs.getD i default ∈ xs := by
  rw [List.getD_eq_getElem?_getD, List.getElem?_eq_getElem h]; exact List.getElem_mem h
theorem drop_cons {α : Type} [Inhabited α] (xs : List α) (i : Nat) (h : i < xs.length) : xs.drop i = xs.getD i default :: xs.drop (i + 1) := by
  rw [List.getD_eq_getElem?_getD, List.getElem?_eq_getElem h]; exact List.drop_eq_getElem_cons h
end Go.Proofs.YtbdjcpalpkijcaaGreatDoor

/- Decimal numerals. -/
namespace Go.Proofs.YtbdjcpalpkijcaaGreatDoor
open Go.RowKit Go.Rx
set_option linter.unusedSimpArgs false
set_option maxRecDepth 100000

def decB (n : Nat) : ByteArray := ⟨(Lib.decDigits n).toArray⟩
theorem decB_list (n : Nat) : (decB n).data.toList = Lib.decDigits n := by simp [decB]
theorem decB_pos : ∀ {n : Nat}, n ≠ 0 → decB n = digB n := by
  intro n
  induction n using Nat.strongRecOn with
  | _ n ih =>
    intro h
    refine bytes_ext ?_
    rw [digB_pos h, app_list, decB_list, Lib.decDigits]
    by_cases h10 : n < 10
    · rw [dif_pos h10, show n / 10 = 0 by omega, digB_zero, Nat.mod_eq_of_lt h10]
      rfl
    · rw [dif_neg h10, ← ih (n / 10) (by omega) (by omega), decB_list]
theorem decB_zero : decB 0 = ⟨#[48]⟩ := by
  refine bytes_ext ?_
  rw [decB_list, Lib.decDigits]; rfl

def isD (b : UInt8) : Bool := decide (48 ≤ b.toNat) && decide (b.toNat ≤ 57)
theorem isD_iff {b : UInt8} : isD b = true ↔ 48 ≤ b.toNat ∧ b.toNat ≤ 57 := by simp [isD]
def dvL (l : List UInt8) : Nat := l.foldl (fun a b => a * 10 + (b.toNat - 48)) 0
theorem dvL_snoc (l : List UInt8) (b : UInt8) : dvL (l ++ [b]) = dvL l * 10 + (b.toNat - 48) := by simp [dvL]
theorem dvL_lt : ∀ (n : Nat) (l : List UInt8), l.length = n → l.all isD = true → dvL l < 10 ^ n
  | 0, l, h, _ => by rw [List.eq_nil_of_length_eq_zero h]; decide
  | n + 1, l, h, hd => by
    obtain ⟨l', b, rfl⟩ : ∃ l' b, l = l' ++ [b] := by
      rcases List.eq_nil_or_concat l with rfl | ⟨l', b, e⟩
      · cases h
      · exact ⟨l', b, by rw [e, List.concat_eq_append]⟩
    rw [List.all_append, Bool.and_eq_true] at hd
    have h1 := dvL_lt n l' (by simpa using h) hd.1
    have h2 : isD b = true := by simpa using hd.2
    rw [isD_iff] at h2
    rw [dvL_snoc, Nat.pow_succ]; omega
theorem ofNat_digit {d : Nat} (h : d < 10) : (UInt8.ofNat (48 + d)).toNat = 48 + d := by
  simp only [UInt8.toNat_ofNat']; omega
theorem dvL_dec (n : Nat) : dvL (Lib.decDigits n) = n ∧ (Lib.decDigits n).all isD = true := by
  induction n using Nat.strongRecOn with
  | _ n ih =>
    rw [Lib.decDigits]
    by_cases h10 : n < 10
    · rw [dif_pos h10]
      have := ofNat_digit h10
      refine ⟨?_, ?_⟩
      · show 0 * 10 + ((UInt8.ofNat (48 + n)).toNat - 48) = n
        rw [this]; omega
      · simp only [List.all_cons, List.all_nil, Bool.and_true]; rw [isD_iff, this]; omega
    · rw [dif_neg h10, dvL_snoc, List.all_append, (ih (n / 10) (by omega)).1, (ih (n / 10) (by omega)).2]
      have := ofNat_digit (show n % 10 < 10 by omega)
      refine ⟨by rw [this]; omega, ?_⟩
      simp only [List.all_cons, List.all_nil, Bool.and_true, Bool.true_and]; rw [isD_iff, this]; omega
def rdN (s : ByteArray) : Nat := dvL s.data.toList
def rdB (s : ByteArray) : Bool := (decide (s.size ≤ 10) && s.data.toList.all isD) && (decide (rdN s ≤ 1000000000) && decide (decB (rdN s) = s))
def rdX (s : ByteArray) : List X := if rdB s then [i64 (rdN s), bo true] else [i64 0, bo false]
theorem rdX_true {s : ByteArray} (h : rdB s = true) : rdX s = [i64 (rdN s), bo true] := by simp only [rdX, h, if_true]
theorem rdX_false {s : ByteArray} (h : rdB s = false) : rdX s = [i64 0, bo false] := by simp only [rdX, h, Bool.false_eq_true, if_false]
theorem rdB_spec {s : ByteArray} (h : rdB s = true) : rdN s ≤ 1000000000 ∧ decB (rdN s) = s := by
  simp only [rdB, Bool.and_eq_true, decide_eq_true_eq] at h
  exact h.2
theorem rdN_dec (n : Nat) : rdN (decB n) = n := by rw [rdN, decB_list]; exact (dvL_dec n).1
theorem decDigits_le : ∀ (k n : Nat), n < 10 ^ (k + 1) → (Lib.decDigits n).length ≤ k + 1
  | 0, n, h => by rw [Lib.decDigits, dif_pos (by simpa using h)]; simp
  | k + 1, n, h => by
    rw [Lib.decDigits]
    by_cases h10 : n < 10
    · rw [dif_pos h10]; simp
    · rw [dif_neg h10, List.length_append]
      have := decDigits_le k (n / 10) (by rw [Nat.pow_succ] at h; omega)
      simp only [List.length_cons, List.length_nil]; omega
theorem decB_size (n : Nat) (h : n < 10 ^ 10) : (decB n).size ≤ 10 := by
  have := decDigits_le 9 n h
  rw [ByteArray.size, ← Array.length_toList, decB_list]; exact this
theorem rdB_dec {n : Nat} (h : n ≤ 1000000000) : rdB (decB n) = true := by
  have h1 := decB_size n (by omega)
  have h2 := dvL_dec n
  simp [rdB, rdN_dec, h, h1, decB_list, h2.2]

/-! ### strconv.Itoa -/
theorem itoa_ok (n : Nat) (hn : n ≤ 9223372036854775807) : PureFn Tryz.prog 90 [i64 n] [st (decB n)] := by
  refine PureFn_v (vs := [.int .i64 n]) ⟨_, Tryz.func90, by decide, rfl⟩ fun w h => ?_
  have hv : (Tryz.prog.globalNamed "internal/strconv.uint64pow10").isSome = true := by kernel_rfl
  obtain ⟨v, hv⟩ := Option.isSome_iff_exists.1 hv
  have ht := (h.tab _ _ _ _ (.head _) hv).2
  have := Any.strconv_Itoa laysItoa n (by omega) (by omega) w ht
  rwa [Lib.itoa_nonneg] at this
end Go.Proofs.YtbdjcpalpkijcaaGreatDoor

/- Files. -/
namespace Go.Proofs.YtbdjcpalpkijcaaGreatDoor
open Go.RowKit Go.Rx
set_option linter.unusedSimpArgs false
set_option maxRecDepth 100000
structure Fil where
  name : ByteArray
  text : ByteArray
  kept : Int
  deriving Inhabited, DecidableEq
def filV (a : Fil) : List Value := [.string a.name, .string a.text, .int .i64 a.kept]
def filC (a : Fil) : List C := [.v (.string a.name), .v (.string a.text), .v (.int .i64 a.kept)]
def fils (l : List Fil) : List (List Value) := l.map filV
theorem fils_length (l : List Fil) : (fils l).length = l.length := by simp [fils]
theorem fils_getD (l : List Fil) {i : Nat} (h : i < l.length) : (fils l).getD i [] = filV (l.getD i default) := by
  simp [fils, List.getD_eq_getElem?_getD, List.getElem?_map, List.getElem?_eq_getElem h]
theorem fils_take (l : List Fil) : List.take l.length (vR (fils l)) = vR (fils l) := List.take_of_length_le (by rw [vR_length, fils_length]; exact Nat.le_refl _)
theorem fils_snoc (l : List Fil) (a : Fil) : vR (fils l) ++ [filC a] = vR (fils (l ++ [a])) := by simp [vR, fils, filV, filC]
def Fil.small (a : Fil) : Prop := a.name.size ≤ 140737488355328 ∧ a.text.size ≤ 140737488355328
def filSm (l : List Fil) : Prop := l.length ≤ 140737488355328 ∧ ∀ a ∈ l, a.small
def Fil.tot (a : Fil) : Nat := a.name.size + a.text.size
def filSz : Int → List Fil → Int
  | n, [] => n
  | n, a :: l => if n - a.tot < 0 then -1 else filSz (n - a.tot) l
theorem filSz_bound : ∀ (l : List Fil) (n : Int), -1 ≤ n → -1 ≤ filSz n l ∧ filSz n l ≤ n
  | [], n, h => ⟨h, Int.le_refl _⟩
  | a :: l, n, h => by
    unfold filSz
    split
    · omega
    · rename_i c
      have := filSz_bound l (n - a.tot) (by omega)
      omega
def filZ (n : Nat) : List (List Value) := List.replicate n [.string ⟨#[]⟩, .string ⟨#[]⟩, .int .i64 0]
theorem filZ_vR (n : Nat) : List.replicate n [C.v (.string ⟨#[]⟩), .v (.string ⟨#[]⟩), .v (.int .i64 0)] = vR (filZ n) := by simp [vR, filZ]
theorem filZ_length (n : Nat) : (filZ n).length = n := by simp [filZ]
theorem filZ_getD {n i : Nat} (h : i < n) : ((filZ n).getD i []).map C.v = [C.v (.string ⟨#[]⟩), .v (.string ⟨#[]⟩), .v (.int .i64 0)] := by
  simp [filZ, List.getD_eq_getElem?_getD, List.getElem?_replicate, h]
def filF (l : List Fil) (i : Nat) : List Value := filV (l.getD i default)
theorem filF_all (l : List Fil) : (List.range l.length).map (filF l) = fils l := by
  apply List.ext_getElem
  · simp [fils]
  · intro i h1 h2
    simp at h1
    simp [fils, filF, List.getD_eq_getElem?_getD, List.getElem?_eq_getElem h1]
theorem eqFile_ok (a : Fil) : PureFn Tryz.prog 60 [.agg (filC a), .agg (filC a)] [bo true] := by
  refine PureFn_of_Go Tryz.func60 rfl (by decide) mo (by decide +kernel) ?_
  simp only [Tryz.ntmps60, Tryz.results60, push_cast, seval, filC]
theorem eqFileS_ok (l : List Fil) (hl : l.length ≤ 1048576) : PureFn Tryz.prog 24 [.one (.sh 3 (vR (fils l))), .one (.sh 3 (vR (fils l)))] [bo true] := by
  refine PureFn_of_Go Tryz.func24 rfl (by decide) mo (by decide +kernel) ?_
  simp only [Tryz.ntmps24, Tryz.results24, push_cast, seval, fils_length]
  refine Go_loop (α := {i : Nat // i ≤ l.length})
    (fun i => ⟨tp 27 [(0, .x (.one (.sh 3 (vR (fils l))))), (1, .x (.one (.sh 3 (vR (fils l))))), (5, int i.1)], 0, [], []⟩) (fun i => l.length - i.1) ⟨0, by omega⟩ ?_ ?_
  · exact Weak.same (by simp only [push_cast, seval, Int.ofNat_zero])
  · rintro ⟨i, hi⟩ X hX
    by_cases hlt : (i : Int) < (l.length : Int)
    · have hi' : i < l.length := by omega
      have ws := wsucc hi' (by omega)
      have hg := fils_getD l hi'
      obtain ⟨a, ha⟩ : ∃ a, a = l.getD i default := ⟨_, rfl⟩
      rw [← ha] at hg
      have k := eqFile_ok a
      simp only [filC] at k
      obtain ⟨i', hi1⟩ : ∃ i', i' = i + 1 := ⟨_, rfl⟩
      rw [← hi1] at ws
      simp only [push_cast, seval, fils_length, hlt, hi', hg, filV, vR_getD]
      refine GoD_call rfl rfl k rfl rfl ?_
      simp only [push_cast, seval, ws]
      refine ⟨_, ?_, hX ⟨i', by omega⟩ (by simp only; omega)⟩
      exact Weak.same (by simp only [push_cast, seval])
    · simp only [Tryz.ntmps24, Tryz.results24, push_cast, seval, fils_length, hlt]
def marksFile (k n : Nat) : List Fil := (List.range n).map fun j => ⟨mkB (k + 3 * j), mkB (k + 3 * j + 1), ((k + 3 * j + 2 : Nat) : Int)⟩
theorem marksFile_length (k n : Nat) : (marksFile k n).length = n := by simp [marksFile]
theorem marksFile_getD (k : Nat) {n i : Nat} (h : i < n) : (marksFile k n).getD i default = ⟨mkB (k + 3 * i), mkB (k + 3 * i + 1), ((k + 3 * i + 2 : Nat) : Int)⟩ := by
  simp [marksFile, List.getD_eq_getElem?_getD, List.getElem?_map, h]
def marksFFile (k j : Nat) : List Value := [.string (mkB (k + 3 * j)), .string (mkB (k + 3 * j + 1)), .int .i64 ((k + 3 * j + 2 : Nat) : Int)]
theorem marksFFile_all (k : Nat) (l : List Fil) : fils (marksFile k l.length) = mix (marksFFile k) (fils l) l.length := by
  have := mix_all (marksFFile k) (fils l)
  rw [fils_length] at this
  rw [this, fils, marksFile, List.map_map]; rfl
theorem markFileS_ok (l : List Fil) (hl : l.length ≤ 1048576) (k : Nat) (hk : 0 < k) (hk2 : k ≤ 1073741824) (e : Nat) (he : e = k + 3 * l.length) :
    IoFn Tryz.prog 25 .sl 3 (fils l) [i64 k] (fils (marksFile k l.length)) [i64 e] := by
  have hlen : (fils (marksFile k l.length)).length = (fils l).length := by rw [fils_length, fils_length, marksFile_length]
  refine IoFn_of_Go Tryz.func25 rfl (by decide) mo (by decide +kernel) (ioOk_sl filV (fun _ => rfl) l) (ioOk_sl filV (fun _ => rfl) (marksFile k l.length)) rfl hlen ?_
  rw [marksFFile_all]
  simp only [Tryz.ntmps25, Tryz.results25, push_cast, seval, fils_length]
  refine Go_loop (α := {i : Nat // i ≤ l.length})
    (fun i => ⟨tp 36 [(0, .x (.one (.rs (0, 1) [] 3 0 l.length))), (1, int (k + 3 * i.1 : Nat)), (5, int i.1)], 1, [], [((0, 1), ⟨.sl, 3, vR (mix (marksFFile k) (fils l) i.1)⟩)]⟩) (fun i => l.length - i.1) ⟨0, by omega⟩ ?_ ?_
  · rw [mix_zero]
    exact Weak.same (by simp only [push_cast, seval, Int.ofNat_zero, Int.add_zero, Nat.add_zero, Nat.mul_zero])
  · rintro ⟨i, hi⟩ X hX
    obtain ⟨m, hmk⟩ : ∃ m, m = k + 3 * i := ⟨_, rfl⟩
    simp only
    rw [← hmk]
    by_cases hlt : (i : Int) < (l.length : Int)
    · have hi' : i < l.length := by omega
      have ws := wsucc hi' (by omega)
      have his : i < (fils l).length := by rw [fils_length]; exact hi'
      have hmix := mix_length (marksFFile k) (fils l) (Nat.le_of_lt his)
      rw [fils_length] at hmix
      have hg := vR_mix_getD (marksFFile k) (fils l) his
      rw [fils_getD l hi'] at hg
      have hset := mix_set (marksFFile k) (fils l) his
      simp only [marksFFile] at hset
      rw [← hmk] at hset
      obtain ⟨i', hi1⟩ : ∃ i', i' = i + 1 := ⟨_, rfl⟩
      rw [← hi1] at ws hset
      have w1 : IntKind.i64.wrap ((m : Int) + 1) = ((m + 1 : Nat) : Int) := wN (by omega) (by omega)
      obtain ⟨m1, hm1⟩ : ∃ m1, m1 = m + 1 := ⟨_, rfl⟩
      rw [← hm1] at w1
      rw [← hm1] at hset
      have w2 : IntKind.i64.wrap ((m1 : Int) + 1) = ((m + 2 : Nat) : Int) := wN (by omega) (by omega)
      obtain ⟨m2, hm2⟩ : ∃ m2, m2 = m + 2 := ⟨_, rfl⟩
      rw [← hm2] at w2
      rw [← hm2] at hset
      have w3 : IntKind.i64.wrap ((m2 : Int) + 1) = ((m + 3 : Nat) : Int) := wN (by omega) (by omega)
      obtain ⟨m3, hm3⟩ : ∃ m3, m3 = m + 3 := ⟨_, rfl⟩
      rw [← hm3] at w3
      simp only [List.map_cons, List.map_nil] at hset
      obtain ⟨⟨o0, o1, o2⟩, he0⟩ : ∃ x, x = l.getD i default := ⟨_, rfl⟩
      rw [← he0] at hg
      simp only [filV, List.map_cons, List.map_nil] at hg
      have km0 := markText_ok m (by omega) (by omega)
      obtain ⟨M0, hM0⟩ : ∃ M0, M0 = mkB m := ⟨_, rfl⟩
      rw [← hM0] at km0 hset
      have km1 := markText_ok m1 (by omega) (by omega)
      obtain ⟨M1, hM1⟩ : ∃ M1, M1 = mkB m1 := ⟨_, rfl⟩
      rw [← hM1] at km1 hset
      obtain ⟨R, hR⟩ : ∃ R, R = vR (mix (marksFFile k) (fils l) i) := ⟨_, rfl⟩
      obtain ⟨R', hR'⟩ : ∃ R', R' = vR (mix (marksFFile k) (fils l) i') := ⟨_, rfl⟩
      have hRl : R.length = l.length := by rw [hR, vR_length, hmix]
      rw [← hR] at hg hset
      rw [← hR'] at hset
      have hiR : i < R.length := by omega
      have g1 := row_set_get hiR [C.v (.string M0), .v (.string o1), .v (.int .i64 o2)]
      have g2 := row_set_get hiR [C.v (.string M0), .v (.string M1), .v (.int .i64 o2)]
      simp only [← hR]
      simp only [push_cast, seval, hlt, hi', hRl, hg, g1, g2, List.set_set, List.length_set, hset, w1, w2, w3, ws]
      refine GoL_call rfl rfl km0 rfl rfl ?_
      simp only [push_cast, seval, hlt, hi', hRl, hg, g1, g2, List.set_set, List.length_set, hset, w1, w2, w3, ws]
      refine GoL_call rfl rfl km1 rfl rfl ?_
      simp only [push_cast, seval, hlt, hi', hRl, hg, g1, g2, List.set_set, List.length_set, hset, w1, w2, w3, ws]
      refine ⟨_, ?_, hX ⟨i', by omega⟩ (by simp only; omega)⟩
      have hmm : m3 = k + 3 * i' := by omega
      simp only [← hmm, ← hR']
      exact Weak.same (by simp only [push_cast, seval])
    · have hii : i = l.length := by omega
      have hfin : e = m := by rw [he, hmk, hii]
      subst hfin
      simp only [hii] at hlt ⊢
      simp only [Tryz.ntmps25, Tryz.results25, push_cast, seval, hlt]
theorem heldFileS_ok (k n : Nat) (hn : n ≤ 1048576) (hk : 0 < k) (hk2 : k ≤ 1073741824) (e : Nat) (he : e = k + 3 * n) :
    PureFn Tryz.prog 26 [.one (.sh 3 (vR (fils (marksFile k n)))), i64 k] [i64 e] := by
  refine PureFn_of_Go Tryz.func26 rfl (by decide) mo (by decide +kernel) ?_
  simp only [Tryz.ntmps26, Tryz.results26, push_cast, seval, fils_length, marksFile_length]
  refine Go_loop (α := {i : Nat // i ≤ n})
    (fun i => ⟨tp 42 [(0, .x (.one (.sh 3 (vR (fils (marksFile k n)))))), (1, int (k + 3 * i.1 : Nat)), (5, int i.1)], 0, [], []⟩) (fun i => n - i.1) ⟨0, by omega⟩ ?_ ?_
  · exact Weak.same (by simp only [push_cast, seval, Int.ofNat_zero, Int.add_zero, Nat.add_zero, Nat.mul_zero])
  · rintro ⟨i, hi⟩ X hX
    obtain ⟨m, hmk⟩ : ∃ m, m = k + 3 * i := ⟨_, rfl⟩
    simp only
    rw [← hmk]
    by_cases hlt : (i : Int) < (n : Int)
    · have hi' : i < n := by omega
      have ws := wsucc hi' (by omega)
      have hg := fils_getD (marksFile k n) (i := i) (by rw [marksFile_length]; exact hi')
      rw [marksFile_getD k hi', ← hmk] at hg
      simp only [filV] at hg
      obtain ⟨i', hi1⟩ : ∃ i', i' = i + 1 := ⟨_, rfl⟩
      rw [← hi1] at ws
      have w1 : IntKind.i64.wrap ((m : Int) + 1) = ((m + 1 : Nat) : Int) := wN (by omega) (by omega)
      obtain ⟨m1, hm1⟩ : ∃ m1, m1 = m + 1 := ⟨_, rfl⟩
      rw [← hm1] at w1
      rw [← hm1] at hg
      have w2 : IntKind.i64.wrap ((m1 : Int) + 1) = ((m + 2 : Nat) : Int) := wN (by omega) (by omega)
      obtain ⟨m2, hm2⟩ : ∃ m2, m2 = m + 2 := ⟨_, rfl⟩
      rw [← hm2] at w2
      rw [← hm2] at hg
      have w3 : IntKind.i64.wrap ((m2 : Int) + 1) = ((m + 3 : Nat) : Int) := wN (by omega) (by omega)
      obtain ⟨m3, hm3⟩ : ∃ m3, m3 = m + 3 := ⟨_, rfl⟩
      rw [← hm3] at w3
      simp only [push_cast, seval, fils_length, marksFile_length, hlt, hi', vR_getD, hg, w1, w2, w3, ws]
      refine GoD_call rfl rfl (markText_ok m (by omega) (by omega)) rfl rfl ?_
      simp only [push_cast, seval, fils_length, marksFile_length, hlt, hi', vR_getD, hg, w1, w2, w3, ws]
      refine GoD_call rfl rfl (markText_ok m1 (by omega) (by omega)) rfl rfl ?_
      simp only [push_cast, seval, fils_length, marksFile_length, hlt, hi', vR_getD, hg, w1, w2, w3, ws]
      refine ⟨_, ?_, hX ⟨i', by omega⟩ (by simp only; omega)⟩
      have hmm : m3 = k + 3 * i' := by omega
      simp only [← hmm]
      exact Weak.same (by simp only [push_cast, seval])
    · have hii : i = n := by omega
      have hfin : e = m := by rw [he, hmk, hii]
      subst hfin
      simp only [Tryz.ntmps26, Tryz.results26, push_cast, seval, fils_length, marksFile_length, hlt]
end Go.Proofs.YtbdjcpalpkijcaaGreatDoor

/- Decimal numerals: the code. -/
namespace Go.Proofs.YtbdjcpalpkijcaaGreatDoor
open Go.RowKit Go.Rx
set_option linter.unusedSimpArgs false
set_option maxRecDepth 100000

theorem l01Figure_ok (x : Nat) (h : x < 10) : PureFn Tryz.prog 72 [i64 x] [.one (.v (.int .u8 ((48 + x : Nat) : Int)))] := by
  refine PureFn_of_Go Tryz.func72 rfl (by decide) mo (by decide +kernel) ?_
  have h1 : (x : Int) < 10 := by omega
  have hw1 : IntKind.i64.wrap (48 + (x : Int)) = ((48 + x : Nat) : Int) := wN (by omega) (by omega)
  have hw2 : IntKind.u8.wrap ((48 + x : Nat) : Int) = ((48 + x : Nat) : Int) := by rw [IntKind.wrap_u8]; omega
  obtain ⟨z, hz⟩ : ∃ z, z = 48 + x := ⟨_, rfl⟩
  rw [← hz] at hw1 hw2 ⊢
  simp only [Tryz.ntmps72, Tryz.results72, push_cast, seval, h1, hw1, hw2]
theorem decimalI_ok (n : Nat) (hn : n ≤ 9223372036854775807) : PureFn Tryz.prog 59 [i64 n] [st (decB n)] := by
  refine PureFn_of_Go Tryz.func59 rfl (by decide) mo (by decide +kernel) ?_
  simp only [Tryz.ntmps59, Tryz.results59, push_cast, seval]
  refine GoL_call rfl rfl (itoa_ok n hn) rfl rfl ?_
  simp only [Tryz.ntmps59, Tryz.results59, push_cast, seval]
theorem decimalS_ok (n : Nat) (hn : n ≤ 1000000000000000000) : PureFn Tryz.prog 38 [i64 n] [st (decB n)] := by
  refine PureFn_of_Go Tryz.func38 rfl (by decide) mo (by decide +kernel) ?_
  by_cases h0 : n = 0
  · subst h0
    rw [decB_zero]
    simp only [Tryz.ntmps38, Tryz.results38, push_cast, seval, Int.ofNat_zero]
  have h1 : ¬ ((n : Int) = 0) := by omega
  have h2 : ¬ ((n : Int) < 0) := by omega
  rw [decB_pos h0]
  simp only [Tryz.ntmps38, Tryz.results38, push_cast, seval, h1, h2]
  refine Go_loop (α := {p : Nat × ByteArray // digB p.1 ++ p.2 = digB n ∧ p.1 + p.2.size ≤ n})
    (fun p => ⟨tp 30 [(0, int p.1.1), (3, .x (bo false)), (4, .x (st p.1.2))], 0, [], []⟩) (fun p => p.1.1) ⟨(n, ⟨#[]⟩), bytes_ext (by simp [ByteArray.data_append]), by simp [ByteArray.size]⟩ ?_ ?_
  · exact Weak.same (by simp only [push_cast, seval])
  · rintro ⟨⟨m, out⟩, hp, hm⟩ X hX
    simp only at hp hm
    by_cases hlt : (m : Int) = 0
    · have hm0 : m = 0 := by omega
      rw [hm0, digB_zero, empty_append] at hp
      simp only [Tryz.ntmps38, Tryz.results38, push_cast, seval, hlt, hp]
    · have hrem := tmodN m 10
      rw [show ((10 : Nat) : Int) = 10 from rfl] at hrem
      obtain ⟨q, hq⟩ : ∃ q, q = m % 10 := ⟨_, rfl⟩
      have hq10 : q < 10 := by omega
      have hb : UInt8.ofNat (48 + q) = UInt8.ofNat (48 + m % 10) := by rw [hq]
      rw [← hq] at hrem
      have hq0 : ¬ ((q : Int) < 0) := by omega
      have kf := l01Figure_ok q hq10
      have hw2 := ofNat_digit hq10
      obtain ⟨z, hz⟩ : ∃ z, z = 48 + q := ⟨_, rfl⟩
      rw [← hz] at hb kf hw2
      obtain ⟨c, hc⟩ : ∃ c, c = UInt8.ofNat z := ⟨_, rfl⟩
      rw [← hc] at hb hw2
      rw [← hw2] at kf
      have hdiv := tdivN m 10
      rw [show ((10 : Nat) : Int) = 10 from rfl] at hdiv
      have hw3 : IntKind.i64.wrap ((m : Int).tdiv 10) = ((m / 10 : Nat) : Int) := wN hdiv (by omega)
      obtain ⟨m', hm'⟩ : ∃ m', m' = m / 10 := ⟨_, rfl⟩
      rw [← hm'] at hw3
      have hf := str_natsOf [c]
      simp only [natsOf, List.map_cons, List.map_nil] at hf
      obtain ⟨cc, hcc⟩ : ∃ cc : ByteArray, cc = ⟨[c].toArray⟩ := ⟨_, rfl⟩
      rw [← hcc] at hf
      have hcs : cc.size = 1 := by rw [hcc]; rfl
      have hroom : cc.size + out.size ≤ 9223372036854775807 := by omega
      have hinv : digB m' ++ (cc ++ out) = digB n := by
        rw [← hp, digB_pos (n := m) (by omega), hm', hcc, hb, ByteArray.append_assoc]
      have hsz : m' + (cc ++ out).size ≤ n := by rw [ByteArray.size_append]; omega
      simp only [push_cast, seval, hlt, hrem, hq0]
      refine GoL_call rfl rfl kf rfl rfl ?_
      simp only [push_cast, seval, hf, hroom, hw3]
      refine ⟨_, ?_, hX ⟨(m', cc ++ out), hinv, hsz⟩ (by simp only; omega)⟩
      exact Weak.drop (by simp only [push_cast, seval]) (by simp only [push_cast, seval]) (by simp only [push_cast, seval])
theorem isD_bu {s : ByteArray} (h : s.data.toList.all isD = true) {i : Nat} (hi : i < s.size) : isD (bu s i) = true := by
  have hl : i < s.data.toList.length := by rw [Array.length_toList]; exact hi
  have := List.all_eq_true.1 h (s.data.toList[i]) (List.getElem_mem hl)
  have he : bu s i = s.data.toList[i] := by simp only [bu, List.getD_eq_getElem?_getD, List.getElem?_eq_getElem hl, Option.getD_some]
  rw [he]; exact this
end Go.Proofs.YtbdjcpalpkijcaaGreatDoor

/- Numbers read from decimal numerals. -/
namespace Go.Proofs.YtbdjcpalpkijcaaGreatDoor
open Go.RowKit Go.Rx
set_option linter.unusedSimpArgs false
set_option maxRecDepth 100000

def dT (s : ByteArray) (i : Nat) : Nat := dvL (seg s 0 i)
theorem dT_zero (s : ByteArray) : dT s 0 = 0 := by rw [dT, seg_zero]; rfl
theorem dT_succ {s : ByteArray} {i : Nat} (h : i < s.size) : dT s (i + 1) = dT s i * 10 + ((bu s i).toNat - 48) := by
  rw [dT, seg_succ (by omega), Nat.zero_add, dvL_snoc]; rfl
theorem dT_all (s : ByteArray) : dT s s.size = rdN s := by rw [dT, seg_all]; rfl
theorem seg_all_isD {s : ByteArray} {i : Nat} (h : i < s.size) : (seg s 0 (i + 1)).all isD = ((seg s 0 i).all isD && isD (bu s i)) := by
  rw [seg_succ (by omega), Nat.zero_add, List.all_append]; simp
theorem dT_lt {s : ByteArray} {i : Nat} (hi : i ≤ s.size) (h : (seg s 0 i).all isD = true) : dT s i < 10 ^ i := dvL_lt i _ (seg_len (by omega)) h
theorem pow10_le {i : Nat} (h : i ≤ 10) : 10 ^ i ≤ 10000000000 := Nat.le_trans (Nat.pow_le_pow_right (by decide) h) (by decide)
theorem rd_bad {s : ByteArray} {i : Nat} (hi : i < s.size) (h : isD (bu s i) = false) : rdX s = [i64 0, bo false] := by
  refine rdX_false ?_
  cases ha : s.data.toList.all isD with
  | false => simp [rdB, ha]
  | true => rw [isD_bu ha hi] at h; cases h
theorem rd_long {s : ByteArray} (h : ¬ s.size ≤ 10) : rdX s = [i64 0, bo false] := rdX_false (by simp [rdB, h])
theorem rd_empty {s : ByteArray} (h : s.size = 0) : rdB s = false := by
  have he : s.data.toList = [] := List.eq_nil_of_length_eq_zero (by rw [Array.length_toList]; exact h)
  have h0 : rdN s = 0 := by rw [rdN, he]; rfl
  have : decB 0 ≠ s := fun e => by rw [← e, decB_zero] at h; cases h
  simp [rdB, h0, this]
theorem isD_no {b : UInt8} (h : (b.toNat : Int) < 48 ∨ (57 : Int) < (b.toNat : Int)) : isD b = false := by
  cases hb : isD b with
  | false => rfl
  | true => rw [isD_iff] at hb; omega
theorem rd_end {s : ByteArray} (h1 : s.size ≤ 10) (h : (seg s 0 s.size).all isD = true) : rdB s = (decide (rdN s ≤ 1000000000) && decide (decB (rdN s) = s)) := by
  rw [seg_all] at h
  simp [rdB, h1, h]

theorem readDecI_ok (s : ByteArray) (hs : s.size ≤ 140737488355328) : PureFn Tryz.prog 192 [st s] (rdX s) := by
  refine PureFn_of_Go Tryz.func192 rfl (by decide) mo (by decide +kernel) ?_
  by_cases h0 : s.size = 0
  · rw [rdX_false (rd_empty h0)]
    have h0' : ((s.size : Nat) : Int) = 0 := by omega
    simp only [Tryz.ntmps192, Tryz.results192, push_cast, seval, h0']
  have h0' : ¬ ((s.size : Nat) : Int) = 0 := by omega
  by_cases h10 : (10 : Int) < (s.size : Int)
  · rw [rd_long (by omega)]
    simp only [Tryz.ntmps192, Tryz.results192, push_cast, seval, h0', h10]
  have h10n : s.size ≤ 10 := by omega
  simp only [Tryz.ntmps192, Tryz.results192, push_cast, seval, h0', h10]
  refine Go_loop (α := {i : Nat // i ≤ s.size ∧ (seg s 0 i).all isD = true}) (fun i => ⟨tp 47 [(0, .x (st s)), (4, int (dT s i.1)), (5, int i.1)], 0, [], []⟩) (fun i => s.size - i.1) ⟨0, Nat.zero_le _, by rw [seg_zero]; rfl⟩ ?_ ?_
  · exact Weak.same (by simp only [push_cast, seval, dT_zero, Int.ofNat_zero])
  · rintro ⟨i, hi, hd⟩ X hX
    simp only
    have hlt9 := dT_lt hi hd
    have hp := pow10_le (Nat.le_trans hi h10n)
    by_cases hlt : (i : Int) < (s.size : Int)
    · have hi' : i < s.size := by omega
      have hb := bu_get hi'
      have hu := u8_lt (bu s i)
      have hws : IntKind.i64.wrap ((i : Int) + 1) = ((i + 1 : Nat) : Int) := wN (by omega) (by omega)
      have hds := dT_succ hi'
      have hal := seg_all_isD hi'
      rw [hd, Bool.true_and] at hal
      obtain ⟨i', hi1⟩ : ∃ i', i' = i + 1 := ⟨_, rfl⟩
      rw [← hi1] at hws hds hal
      by_cases c1 : ((bu s i).toNat : Int) < 48
      · rw [rd_bad hi' (isD_no (.inl c1))]
        simp only [Tryz.ntmps192, Tryz.results192, push_cast, seval, hlt, hb, c1]
      by_cases c2 : (57 : Int) < ((bu s i).toNat : Int)
      · rw [rd_bad hi' (isD_no (.inr c2))]
        simp only [Tryz.ntmps192, Tryz.results192, push_cast, seval, hlt, hb, c1, c2]
      have hal : (seg s 0 i').all isD = true := by rw [hal, isD_iff]; omega
      obtain ⟨b, hbn⟩ : ∃ b, b = (bu s i).toNat := ⟨_, rfl⟩
      rw [← hbn] at c1 c2 hds
      obtain ⟨z, hz⟩ : ∃ z, z = dT s i := ⟨_, rfl⟩
      rw [← hz] at hds hlt9
      rw [← hz]
      have w1 : IntKind.i64.wrap ((z : Int) * 10) = ((z * 10 : Nat) : Int) := wN (by omega) (by omega)
      have w2 : IntKind.u8.wrap ((b : Int) - 48) = ((b - 48 : Nat) : Int) := by rw [IntKind.wrap_u8]; omega
      have w3 : IntKind.i64.wrap ((b - 48 : Nat) : Int) = ((b - 48 : Nat) : Int) := wN rfl (by omega)
      obtain ⟨z10, hz10⟩ : ∃ z10, z10 = z * 10 := ⟨_, rfl⟩
      obtain ⟨b48, hb48⟩ : ∃ b48, b48 = b - 48 := ⟨_, rfl⟩
      obtain ⟨z', hz'⟩ : ∃ z', z' = dT s i' := ⟨_, rfl⟩
      rw [← hz10, ← hb48, ← hz'] at hds
      rw [← hz10] at w1
      rw [← hb48] at w2 w3
      have w4 : IntKind.i64.wrap ((z10 : Int) + (b48 : Int)) = (z' : Int) := wN (by omega) (by omega)
      simp only [push_cast, seval, hlt, hb, ← hbn, c1, c2, w1, w2, w3, w4, hws]
      refine ⟨_, ?_, hX ⟨i', by omega, hal⟩ (by simp only; omega)⟩
      simp only [← hz']
      exact Weak.same (by simp only [push_cast, seval])
    · obtain rfl : i = s.size := by omega
      have he := rd_end h10n hd
      rw [dT_all] at hlt9 ⊢
      obtain ⟨z, hz⟩ : ∃ z, z = rdN s := ⟨_, rfl⟩
      have hX2 : rdX s = if rdB s then [i64 z, bo true] else [i64 0, bo false] := by rw [hz]; rfl
      rw [hX2, he]
      rw [← hz] at hlt9 ⊢
      by_cases c3 : (1000000000 : Int) < (z : Int)
      · rw [if_neg (by simp; omega)]
        simp only [Tryz.ntmps192, Tryz.results192, push_cast, seval, hlt, c3]
      · have c4 : z ≤ 1000000000 := by omega
        have kd := decimalI_ok z (by omega)
        simp only [Tryz.ntmps192, Tryz.results192, push_cast, seval, hlt, c3]
        refine GoL_call rfl rfl kd rfl rfl ?_
        by_cases c5 : decB z = s
        · simp only [Tryz.ntmps192, Tryz.results192, push_cast, seval, c5, c4]
        · simp only [Tryz.ntmps192, Tryz.results192, push_cast, seval, c5, c4]
theorem readDecS_ok (s : ByteArray) (hs : s.size ≤ 140737488355328) : PureFn Tryz.prog 189 [st s] (rdX s) := by
  refine PureFn_of_Go Tryz.func189 rfl (by decide) mo (by decide +kernel) ?_
  by_cases h10 : (10 : Int) < (s.size : Int)
  · rw [rd_long (by omega)]
    simp only [Tryz.ntmps189, Tryz.results189, push_cast, seval, h10]
  have h10n : s.size ≤ 10 := by omega
  simp only [Tryz.ntmps189, Tryz.results189, push_cast, seval, h10]
  refine Go_loop (α := {i : Nat // i ≤ s.size ∧ (seg s 0 i).all isD = true}) (fun i => ⟨tp 42 [(0, .x (st s)), (4, int (dT s i.1)), (5, int i.1)], 0, [], []⟩) (fun i => s.size - i.1) ⟨0, Nat.zero_le _, by rw [seg_zero]; rfl⟩ ?_ ?_
  · exact Weak.same (by simp only [push_cast, seval, dT_zero, Int.ofNat_zero])
  · rintro ⟨i, hi, hd⟩ X hX
    simp only
    have hlt9 := dT_lt hi hd
    have hp := pow10_le (Nat.le_trans hi h10n)
    by_cases hlt : (i : Int) < (s.size : Int)
    · have hi' : i < s.size := by omega
      have hb := bu_get hi'
      have hu := u8_lt (bu s i)
      have hws : IntKind.i64.wrap ((i : Int) + 1) = ((i + 1 : Nat) : Int) := wN (by omega) (by omega)
      have hds := dT_succ hi'
      have hal := seg_all_isD hi'
      rw [hd, Bool.true_and] at hal
      obtain ⟨i', hi1⟩ : ∃ i', i' = i + 1 := ⟨_, rfl⟩
      rw [← hi1] at hws hds hal
      by_cases c1 : ((bu s i).toNat : Int) < 48
      · rw [rd_bad hi' (isD_no (.inl c1))]
        simp only [Tryz.ntmps189, Tryz.results189, push_cast, seval, hlt, hb, c1]
      by_cases c2 : (57 : Int) < ((bu s i).toNat : Int)
      · rw [rd_bad hi' (isD_no (.inr c2))]
        simp only [Tryz.ntmps189, Tryz.results189, push_cast, seval, hlt, hb, c1, c2]
      have hal : (seg s 0 i').all isD = true := by rw [hal, isD_iff]; omega
      obtain ⟨b, hbn⟩ : ∃ b, b = (bu s i).toNat := ⟨_, rfl⟩
      rw [← hbn] at c1 c2 hds
      obtain ⟨z, hz⟩ : ∃ z, z = dT s i := ⟨_, rfl⟩
      rw [← hz] at hds hlt9
      rw [← hz]
      have w1 : IntKind.i64.wrap (10 * (z : Int)) = ((z * 10 : Nat) : Int) := wN (by omega) (by omega)
      have w3 : IntKind.i64.wrap (b : Int) = (b : Int) := wN rfl (by omega)
      obtain ⟨z10, hz10⟩ : ∃ z10, z10 = z * 10 := ⟨_, rfl⟩
      have w2 : IntKind.i64.wrap ((z10 : Int) + (b : Int)) = ((z10 + b : Nat) : Int) := wN (by omega) (by omega)
      obtain ⟨zb, hzb⟩ : ∃ zb, zb = z10 + b := ⟨_, rfl⟩
      obtain ⟨z', hz'⟩ : ∃ z', z' = dT s i' := ⟨_, rfl⟩
      rw [← hz10, ← hz'] at hds
      rw [← hz10] at w1
      rw [← hzb] at w2
      have w4 : IntKind.i64.wrap ((zb : Int) - 48) = (z' : Int) := wN (by omega) (by omega)
      simp only [push_cast, seval, hlt, hb, ← hbn, c1, c2, w1, w2, w3, w4, hws]
      refine ⟨_, ?_, hX ⟨i', by omega, hal⟩ (by simp only; omega)⟩
      simp only [← hz']
      exact Weak.same (by simp only [push_cast, seval])
    · obtain rfl : i = s.size := by omega
      have he := rd_end h10n hd
      rw [dT_all] at hlt9 ⊢
      obtain ⟨z, hz⟩ : ∃ z, z = rdN s := ⟨_, rfl⟩
      have hX2 : rdX s = if rdB s then [i64 z, bo true] else [i64 0, bo false] := by rw [hz]; rfl
      rw [hX2, he]
      rw [← hz] at hlt9 ⊢
      by_cases c3 : (1000000000 : Int) < (z : Int)
      · rw [if_neg (by simp; omega)]
        simp only [Tryz.ntmps189, Tryz.results189, push_cast, seval, hlt, c3]
      · have c4 : z ≤ 1000000000 := by omega
        have kd := decimalS_ok z (by omega)
        simp only [Tryz.ntmps189, Tryz.results189, push_cast, seval, hlt, c3]
        refine GoL_call rfl rfl kd rfl rfl ?_
        by_cases c5 : decB z = s
        · simp only [Tryz.ntmps189, Tryz.results189, push_cast, seval, c5, c4]
        · simp only [Tryz.ntmps189, Tryz.results189, push_cast, seval, c5, c4]
end Go.Proofs.YtbdjcpalpkijcaaGreatDoor

/- Names with numbers; right disks. -/
namespace Go.Proofs.YtbdjcpalpkijcaaGreatDoor
open Go.RowKit Go.Rx
set_option linter.unusedSimpArgs false
set_option maxRecDepth 100000

/-! ### a mark cut off -/
/-! ### names: a letter and a number -/
def ltr1 (b : UInt8) : ByteArray := ⟨#[b]⟩
def nmR (c : UInt8) (s : ByteArray) : ByteArray := if preB s (ltr1 c) then s.extract 1 s.size else s
def nmB (c : UInt8) (M : Int) (s : ByteArray) : Bool := (preB s (ltr1 c) && rdB (nmR c s)) && inR (rdN (nmR c s)) 0 M
def nmN (c : UInt8) (s : ByteArray) : Nat := rdN (nmR c s)
def nmT (c : UInt8) (n : Nat) : ByteArray := ltr1 c ++ decB n
theorem pre_iff {c : UInt8} {s : ByteArray} : preB s (ltr1 c) = true ↔ 1 ≤ s.size ∧ s.extract 0 1 = ltr1 c := by
  have h1 : (ltr1 c).size = 1 := rfl
  simp only [preB, h1, Bool.and_eq_true, decide_eq_true_eq]
  constructor
  · rintro ⟨a, b⟩; exact ⟨by omega, b⟩
  · rintro ⟨a, b⟩; exact ⟨by omega, b⟩
theorem cut_app (s : ByteArray) (h : 1 ≤ s.size) : s.extract 0 1 ++ s.extract 1 s.size = s := by
  refine bytes_ext ?_
  rw [app_list, extract_list, extract_list, ← seg_append, show 1 - 0 + (s.size - 1) = s.size by omega, seg_all]
theorem app_cut (c : UInt8) (t : ByteArray) : preB (ltr1 c ++ t) (ltr1 c) = true ∧ (ltr1 c ++ t).extract 1 (ltr1 c ++ t).size = t := by
  have hs : (ltr1 c ++ t).size = 1 + t.size := by rw [ByteArray.size_append]; rfl
  have h0 : (ltr1 c ++ t).extract 0 1 = ltr1 c := by
    refine bytes_ext ?_
    rw [extract_list, seg, app_list]
    rfl
  refine ⟨pre_iff.2 ⟨by omega, h0⟩, ?_⟩
  refine bytes_ext ?_
  rw [extract_list, seg, app_list, hs]
  show ((c :: t.data.toList).drop 1).take _ = _
  rw [List.drop_succ_cons, List.drop_zero]
  exact List.take_of_length_le (by rw [Array.length_toList]; show t.size ≤ _; omega)
theorem nm_spec {c : UInt8} {M : Int} {s : ByteArray} (h : nmB c M s = true) : s = nmT c (nmN c s) ∧ (nmN c s : Int) ≤ M ∧ nmN c s ≤ 1000000000 := by
  simp only [nmB, Bool.and_eq_true] at h
  obtain ⟨⟨h1, h2⟩, h3⟩ := h
  obtain ⟨h4, h5⟩ := rdB_spec h2
  refine ⟨?_, (inR_spec.1 h3).2, h4⟩
  have h6 := pre_iff.1 h1
  have hr : nmR c s = s.extract 1 s.size := by unfold nmR; rw [if_pos h1]
  unfold nmT nmN
  rw [h5, hr, ← h6.2, cut_app s h6.1]
theorem nm_of {c : UInt8} {M : Int} {n : Nat} (h1 : (n : Int) ≤ M) (h2 : n ≤ 1000000000) : nmB c M (nmT c n) = true ∧ nmN c (nmT c n) = n := by
  obtain ⟨k1, k2⟩ := app_cut c (decB n)
  have hr : nmR c (nmT c n) = decB n := by unfold nmR nmT; rw [if_pos k1, k2]
  refine ⟨?_, by unfold nmN; rw [hr, rdN_dec]⟩
  simp only [nmB, Bool.and_eq_true]
  refine ⟨⟨k1, by rw [hr]; exact rdB_dec h2⟩, ?_⟩
  rw [hr, rdN_dec]
  exact inR_spec.2 ⟨by omega, h1⟩
theorem nmR_size (c : UInt8) (s : ByteArray) : (nmR c s).size ≤ s.size := by
  unfold nmR; split
  · exact extract_size _ _ _
  · exact Nat.le_refl _
theorem rdX_eq (s : ByteArray) : rdX s = [i64 (if rdB s then (rdN s : Int) else 0), bo (rdB s)] := by
  unfold rdX; split <;> simp_all

theorem snapNameI_ok (n : Nat) (hn : n ≤ 1000000) : PureFn Tryz.prog 23 [i64 n] [st (nmT 115 n)] := by
  refine PureFn_of_Go Tryz.func23 rfl (by decide) mo (by decide +kernel) ?_
  have k1 := isIndex_ok n
  rw [inR_spec.2 ⟨by omega, by omega⟩] at k1
  have hs := decB_size n (by omega)
  have hr : (ltr1 115).size + (decB n).size ≤ 9223372036854775807 := by have : (ltr1 115).size = 1 := rfl; omega
  unfold nmT
  have hc : (⟨#[115]⟩ : ByteArray) = ltr1 115 := rfl
  simp only [Tryz.ntmps23, Tryz.results23, push_cast, seval]
  refine GoL_call rfl rfl k1 rfl rfl ?_
  simp only [Tryz.ntmps23, Tryz.results23, push_cast, seval]
  refine GoL_call rfl rfl (decimalI_ok n (by omega)) rfl rfl ?_
  simp only [Tryz.ntmps23, Tryz.results23, push_cast, seval, hc, hr]
theorem snapNameS_ok (n : Nat) : PureFn Tryz.prog 16 [i64 n] [st (if n ≤ 1000000 then nmT 115 n else ⟨#[]⟩)] := by
  refine PureFn_of_Go Tryz.func16 rfl (by decide) mo (by decide +kernel) ?_
  have k1 := l01In_ok n 0 1000000
  rw [show (decide ((0 : Int) ≤ (n : Int)) && decide ((n : Int) ≤ 1000000)) = inR n 0 1000000 from rfl] at k1
  simp only [Tryz.ntmps16, Tryz.results16, push_cast, seval]
  refine GoL_call rfl rfl k1 rfl rfl ?_
  by_cases h : n ≤ 1000000
  · rw [if_pos h, inR_spec.2 ⟨by omega, by omega⟩]
    have hs := decB_size n (by omega)
    have hr : (ltr1 115).size + (decB n).size ≤ 9223372036854775807 := by have : (ltr1 115).size = 1 := rfl; omega
    unfold nmT
    have hc : (⟨#[115]⟩ : ByteArray) = ltr1 115 := rfl
    simp only [Tryz.ntmps16, Tryz.results16, push_cast, seval]
    refine GoL_call rfl rfl (decimalS_ok n (by omega)) rfl rfl ?_
    simp only [Tryz.ntmps16, Tryz.results16, push_cast, seval, hc, hr]
  · have : inR (n : Int) 0 1000000 = false := by
      cases e : inR (n : Int) 0 1000000 with
      | false => rfl
      | true => have := inR_spec.1 e; omega
    rw [if_neg h, this]
    simp only [Tryz.ntmps16, Tryz.results16, push_cast, seval]
end Go.Proofs.YtbdjcpalpkijcaaGreatDoor

/- Acts. -/
namespace Go.Proofs.YtbdjcpalpkijcaaGreatDoor
open Go.RowKit Go.Rx
set_option linter.unusedSimpArgs false
set_option maxRecDepth 100000
structure Acd where
  kind : Int
  name : ByteArray
  text : ByteArray
  to : ByteArray
  deriving Inhabited, DecidableEq
def acdV (a : Acd) : List Value := [.int .i64 a.kind, .string a.name, .string a.text, .string a.to]
def acdC (a : Acd) : List C := [.v (.int .i64 a.kind), .v (.string a.name), .v (.string a.text), .v (.string a.to)]
def acds (l : List Acd) : List (List Value) := l.map acdV
theorem acds_length (l : List Acd) : (acds l).length = l.length := by simp [acds]
theorem acds_getD (l : List Acd) {i : Nat} (h : i < l.length) : (acds l).getD i [] = acdV (l.getD i default) := by
  simp [acds, List.getD_eq_getElem?_getD, List.getElem?_map, List.getElem?_eq_getElem h]
theorem acds_take (l : List Acd) : List.take l.length (vR (acds l)) = vR (acds l) := List.take_of_length_le (by rw [vR_length, acds_length]; exact Nat.le_refl _)
theorem acds_snoc (l : List Acd) (a : Acd) : vR (acds l) ++ [acdC a] = vR (acds (l ++ [a])) := by simp [vR, acds, acdV, acdC]
def Acd.small (a : Acd) : Prop := a.name.size ≤ 140737488355328 ∧ a.text.size ≤ 140737488355328 ∧ a.to.size ≤ 140737488355328
def acdSm (l : List Acd) : Prop := l.length ≤ 140737488355328 ∧ ∀ a ∈ l, a.small
def Acd.tot (a : Acd) : Nat := a.name.size + a.text.size + a.to.size
def acdSz : Int → List Acd → Int
  | n, [] => n
  | n, a :: l => if n - a.tot < 0 then -1 else acdSz (n - a.tot) l
theorem acdSz_bound : ∀ (l : List Acd) (n : Int), -1 ≤ n → -1 ≤ acdSz n l ∧ acdSz n l ≤ n
  | [], n, h => ⟨h, Int.le_refl _⟩
  | a :: l, n, h => by
    unfold acdSz
    split
    · omega
    · rename_i c
      have := acdSz_bound l (n - a.tot) (by omega)
      omega
def acdZ (n : Nat) : List (List Value) := List.replicate n [.int .i64 0, .string ⟨#[]⟩, .string ⟨#[]⟩, .string ⟨#[]⟩]
theorem acdZ_vR (n : Nat) : List.replicate n [C.v (.int .i64 0), .v (.string ⟨#[]⟩), .v (.string ⟨#[]⟩), .v (.string ⟨#[]⟩)] = vR (acdZ n) := by simp [vR, acdZ]
theorem acdZ_length (n : Nat) : (acdZ n).length = n := by simp [acdZ]
theorem acdZ_getD {n i : Nat} (h : i < n) : ((acdZ n).getD i []).map C.v = [C.v (.int .i64 0), .v (.string ⟨#[]⟩), .v (.string ⟨#[]⟩), .v (.string ⟨#[]⟩)] := by
  simp [acdZ, List.getD_eq_getElem?_getD, List.getElem?_replicate, h]
def acdF (l : List Acd) (i : Nat) : List Value := acdV (l.getD i default)
theorem acdF_all (l : List Acd) : (List.range l.length).map (acdF l) = acds l := by
  apply List.ext_getElem
  · simp [acds]
  · intro i h1 h2
    simp at h1
    simp [acds, acdF, List.getD_eq_getElem?_getD, List.getElem?_eq_getElem h1]
def marksAct (k n : Nat) : List Acd := (List.range n).map fun j => ⟨((k + 4 * j : Nat) : Int), mkB (k + 4 * j + 1), mkB (k + 4 * j + 2), mkB (k + 4 * j + 3)⟩
theorem marksAct_length (k n : Nat) : (marksAct k n).length = n := by simp [marksAct]
theorem marksAct_getD (k : Nat) {n i : Nat} (h : i < n) : (marksAct k n).getD i default = ⟨((k + 4 * i : Nat) : Int), mkB (k + 4 * i + 1), mkB (k + 4 * i + 2), mkB (k + 4 * i + 3)⟩ := by
  simp [marksAct, List.getD_eq_getElem?_getD, List.getElem?_map, h]
def marksFAct (k j : Nat) : List Value := [.int .i64 ((k + 4 * j : Nat) : Int), .string (mkB (k + 4 * j + 1)), .string (mkB (k + 4 * j + 2)), .string (mkB (k + 4 * j + 3))]
theorem marksFAct_all (k : Nat) (l : List Acd) : acds (marksAct k l.length) = mix (marksFAct k) (acds l) l.length := by
  have := mix_all (marksFAct k) (acds l)
  rw [acds_length] at this
  rw [this, acds, marksAct, List.map_map]; rfl
end Go.Proofs.YtbdjcpalpkijcaaGreatDoor

/- Right disks; the newest snapshot. -/
namespace Go.Proofs.YtbdjcpalpkijcaaGreatDoor
open Go.RowKit Go.Rx
set_option linter.unusedSimpArgs false
set_option maxRecDepth 100000

def fOk (f : Fil) : Bool := (inR f.name.size 1 8 && decide ((f.text.size : Int) ≤ 20000)) && inR f.kept 0 f.text.size
def fAt (l : List Fil) (i : Nat) : Fil := l.getD i default
def stepsUp (l : List Fil) (i : Nat) : Bool := decide (i = 0) || ltB (fAt l (i - 1)).name (fAt l i).name
def dkTo (l : List Fil) (n : Nat) : Bool := (List.range n).all fun i => fOk (fAt l i) && stepsUp l i
def dkB (l : List Fil) : Bool := decide ((l.length : Int) ≤ 30) && dkTo l l.length
theorem dkTo_zero (l : List Fil) : dkTo l 0 = true := rfl
theorem dkTo_succ (l : List Fil) (i : Nat) : dkTo l (i + 1) = (dkTo l i && (fOk (fAt l i) && stepsUp l i)) := by
  simp [dkTo, List.range_succ, List.all_append]
theorem dkTo_false {l : List Fil} {i : Nat} (h : dkTo l (i + 1) = false) : ∀ {n}, i + 1 ≤ n → dkTo l n = false := by
  intro n hn
  cases h2 : dkTo l n with
  | false => rfl
  | true =>
    have : dkTo l (i + 1) = true := by
      unfold dkTo at h2 ⊢
      rw [List.all_eq_true] at h2 ⊢
      intro x hx
      exact h2 x (List.mem_range.2 (Nat.lt_of_lt_of_le (List.mem_range.1 hx) hn))
    rw [h] at this; cases this
theorem dk_spec {l : List Fil} (h : dkB l = true) : l.length ≤ 30 ∧ ∀ i, i < l.length → fOk (fAt l i) = true ∧ (0 < i → ltB (fAt l (i - 1)).name (fAt l i).name = true) := by
  simp only [dkB, dkTo, Bool.and_eq_true, decide_eq_true_eq, List.all_eq_true, List.mem_range] at h
  refine ⟨by omega, fun i hi => ?_⟩
  obtain ⟨h1, h2⟩ := h.2 i hi
  refine ⟨h1, fun h0 => ?_⟩
  simp only [stepsUp, Bool.or_eq_true, decide_eq_true_eq] at h2
  rcases h2 with h2 | h2
  · omega
  · exact h2
theorem dk_rise {l : List Fil} (h : dkB l = true) : ∀ (d i : Nat), i + d + 1 < l.length → ltB (fAt l i).name (fAt l (i + d + 1)).name = true
  | 0, i, hi => by have := ((dk_spec h).2 (i + 1) hi).2 (by omega); exact this
  | d + 1, i, hi => by
    have h1 := dk_rise h d i (by omega)
    have h2 := ((dk_spec h).2 (i + d + 1 + 1) (by omega)).2 (by omega)
    exact ltB_trans h1 h2
theorem dk_ne {l : List Fil} (h : dkB l = true) {i j : Nat} (hij : i < j) (hj : j < l.length) : (fAt l i).name ≠ (fAt l j).name := by
  obtain ⟨d, rfl⟩ : ∃ d, j = i + d + 1 := ⟨j - i - 1, by omega⟩
  exact ltB_ne (dk_rise h d i hj)

end Go.Proofs.YtbdjcpalpkijcaaGreatDoor

/- strings.Builder: what its methods do, in the model itself. -/
namespace Go.Proofs.YtbdjcpalpkijcaaGreatDoor
open Go.RowKit Go.Rx
set_option linter.unusedSimpArgs false
set_option linter.unusedVariables false
set_option maxRecDepth 100000

theorem bld_info : ∃ j, Tryz.prog.info? 69 = some j ∧ j.size ≠ 0 := by
  have h : (Tryz.prog.info? 69).map (·.size) = some 2 := by kernel_rfl
  obtain ⟨j, h1, h2⟩ := Option.map_eq_some_iff.1 h
  exact ⟨j, h1, by omega⟩
theorem byte_info : ∃ i, Tryz.prog.info? 5 = some i ∧ i.zero = some (.int .u8 0) ∧ i.size = 1 ∧ i.bytes = 1 := by
  have h : (Tryz.prog.info? 5).map (fun i => (i.zero, i.size, i.bytes)) = some (some (.int .u8 0), 1, 1) := by kernel_rfl
  obtain ⟨j, h1, h2⟩ := Option.map_eq_some_iff.1 h
  simp only [Prod.mk.injEq] at h2
  exact ⟨j, h1, h2⟩
theorem bld_lies : liesAt Tryz.prog Tryz.prog.depth 69 (2 / Tryz.prog.cellsOf 69) 0 69 1 = true := by kernel_rfl
theorem u_pb : Tryz.prog.underlying 66 = some (.pointer 69) := by kernel_rfl
theorem u_up : Tryz.prog.underlying 128 = some .unsafePointer := by kernel_rfl
theorem u_bs : Tryz.prog.underlying 67 = some (.slice 5) := by kernel_rfl
theorem u_p8 : Tryz.prog.underlying 116 = some (.pointer 5) := by kernel_rfl
theorem byte_cells : Tryz.prog.cellsOf 5 = 1 := by kernel_rfl
theorem u_st : Tryz.prog.underlying 9 = some .string := by kernel_rfl

theorem noesc (args : Array Value) (w : World) : (callFunc 106 args).run Tryz.prog w = ((Extern.AbiNoEscape.same args).run Tryz.prog w).andThen fun v w' => .ok (.value v) w' :=
  run_callFunc_extern Tryz.func106 (by kernel_rfl) (by kernel_rfl) (by kernel_rfl) (by kernel_rfl) args w

theorem copy_used (b : Nat) (w : World) (h0 : w.cell? ⟨b, 0, none⟩ = some (.pointer (some ⟨b, 0, none⟩))) :
    Calls Tryz.prog 81 #[.pointer (some ⟨b, 0, none⟩)] w fun e w' => e = .returned (.tuple #[]) ∧ w' = w := by
  obtain ⟨j, hj, _⟩ := bld_info
  go_enter Tryz.func81, Tryz.ntmps81
  go_wp2
  rw [Lib.run_neq_ptr_same w _ u_pb hj]
  go_wp2
  go_end0
  exact ⟨rfl, rfl⟩

theorem copy_fresh (b : Nat) (w : World) (h0 : w.cell? ⟨b, 0, none⟩ = some (.pointer none)) (hsh : w.shape? b = some (69, 2)) (hfz : w.frozen? ⟨b, 0, none⟩ = false) :
    Calls Tryz.prog 81 #[.pointer (some ⟨b, 0, none⟩)] w fun e w' => e = .returned (.tuple #[]) ∧ w' = w.setCell ⟨b, 0, none⟩ (.pointer (some ⟨b, 0, none⟩)) := by
  obtain ⟨j, hj, hjs⟩ := bld_info
  go_enter Tryz.func81, Tryz.ntmps81
  go_wp2
  rw [Lib.run_to_unsafe w ⟨b, 0, none⟩ u_pb u_up hj hjs hsh (Nat.zero_lt_succ 1)]
  simp only [Result.andThen]
  rw [Oper.upon_value]
  go_wp2
  rw [noesc, Lib.run_noEscape]
  simp only [Result.andThen]
  rw [Oper.upon_value]
  go_wp2
  rw [Lib.run_from_unsafe w ⟨b, 0, none⟩ u_up u_pb hj hsh bld_lies]
  simp only [Result.andThen]
  rw [Oper.upon_value]
  go_wp2
  go_end0
  exact ⟨rfl, rfl⟩

/-- behind copyCheck -/
theorem bl_check {w : World} {b : Nat} {row : Option Nat} {s : ByteArray} (h : BlAt w 69 5 b row s) :
    Calls Tryz.prog 81 #[.pointer (some ⟨b, 0, none⟩)] w fun e w' => e = .returned (.tuple #[]) ∧ BFr w w' b row ∧ w'.heap.size = w.heap.size ∧
      ∃ v, w'.heap[b]? = some (.cells #[.pointer (some ⟨b, 0, none⟩), v] 69 (0, 0)) ∧ w'.ownsRow 0 5 1 v s.size (Lib.strCells s) ∧ v.ownBlock = row := by
  obtain ⟨hT, p, v, hb, hp, hown, hrow⟩ := h
  have hne := Lib.ownBlock_ne hown hb hT
  rcases hp with rfl | rfl
  · refine (copy_fresh b w (by rw [Lib.cell_of_heap hb]; rfl) (by simp [World.shape?, hb]) (Lib.frozen_of_heap hb 0)).mono ?_
    rintro e w' ⟨rfl, rfl⟩
    refine ⟨rfl, ⟨rfl, rfl, rfl, by simp [World.setCell], fun k _ hk _ => Below.heap_setCell _ _ _ _ hk⟩, by simp [World.setCell], v, ?_, ?_, hrow⟩
    · simp [World.setCell, Array.getElem?_modify, hb]
    · exact hown.kept (row := some b) ⟨rfl, rfl, rfl, by simp [World.setCell], fun k _ hk => Below.heap_setCell _ _ _ _ (fun e => hk (by simp [e]))⟩ (Or.inr hne)
  · refine (copy_used b w (by rw [Lib.cell_of_heap hb]; rfl)).mono ?_
    rintro e w' ⟨rfl, rfl⟩
    exact ⟨rfl, BFr.refl _ _ _, rfl, v, hb, hown, hrow⟩

theorem strCells_append (s t : ByteArray) : Lib.strCells (s ++ t) = Lib.strCells s ++ Lib.strCells t := by
  simp [Lib.strCells, ByteArray.data_append]

theorem fn_ok {f : FuncId} {fn : Func} (h : Tryz.prog.funcs[f]? = some fn) (h1 : fn.name ≠ "runtime.NumGoroutine") (h2 : fn.body.isSome = true) : ∃ fn, Tryz.prog.funcs[f]? = some fn ∧ fn.name ≠ "runtime.NumGoroutine" ∧ fn.body.isSome = true := ⟨fn, h, h1, h2⟩

set_option maxHeartbeats 2000000 in
theorem bl_write (s t : ByteArray) (hsz : s.size + t.size ≤ 140737488355328) :
    BlFn Tryz.prog 40 (fun b => #[.pointer (some ⟨b, 0, none⟩), .string t]) 69 5 s (s ++ t) (.tuple #[.int .i64 t.size, .nilIface]) := by
  refine ⟨fn_ok Tryz.func40 (by decide) rfl, fun w b row h => ?_⟩
  obtain ⟨i0, hi, hz0, hz1, hz2⟩ := byte_info
  have hT := h.1
  have hlt : b < w.heap.size := by
    obtain ⟨_, p, v, hb, _⟩ := h
    exact (Array.getElem?_eq_some_iff.1 hb).1
  go_enter Tryz.func40, Tryz.ntmps40
  go_wp2_with (go_at_call 81; refine (bl_check h).mono ?_)
  rintro e w1 ⟨rfl, hF, hs1, v, hbk, hown, hrow⟩
  have c0 : w1.cell? ⟨b, 0, none⟩ = some (.pointer (some ⟨b, 0, none⟩)) := by rw [Lib.cell_of_heap hbk]; rfl
  have c1 : w1.cell? ⟨b, 1, none⟩ = some v := by rw [Lib.cell_of_heap hbk]; rfl
  go_wp2_with (at_builtin; refine wpList_append_bl rfl _ _ 67 9 rfl 5 i0 u_bs u_st hi hz0 hz1 hz2 _ _ _ rfl hown t rfl hsz ?_)
  intro v' w2 hown' hgrow hloc
  have hne := Lib.ownBlock_ne hown hbk hT
  have hb2 : w2.heap[b]? = some (.cells #[.pointer (some ⟨b, 0, none⟩), v] 69 (0, 0)) := by
    rw [hgrow.block b (by omega) (fun e => hne (hrow.trans e.symm))]
    exact hbk
  have d0 : w2.cell? ⟨b, 0, none⟩ = some (.pointer (some ⟨b, 0, none⟩)) := by rw [Lib.cell_of_heap hb2]; rfl
  have d1 : w2.cell? ⟨b, 1, none⟩ = some v := by rw [Lib.cell_of_heap hb2]; rfl
  have f1 : w2.frozen? ⟨b, 1, none⟩ = false := Lib.frozen_of_heap hb2 1
  have hne2 := Lib.ownBlock_ne hown' hb2 hT
  obtain ⟨ao, n', cap, rfl⟩ : ∃ ao n' cap, v' = .slice ao n' cap := by
    rcases hown'.2 with ⟨hv, _⟩ | ⟨g, cap, cur, hv, _⟩
    · exact ⟨_, _, _, hv⟩
    · exact ⟨_, _, _, hv⟩
  go_wp2
  go_ret2
  refine ⟨rfl, Value.ownBlock (.slice ao n' cap), ⟨hT, _, _, ?_, .inr rfl, ?_, rfl⟩, ?_, fun k hk => ?_⟩
  · simp [World.setCell, Array.getElem?_modify, hb2]
  · have hk := hown'.kept (w' := w2.setCell ⟨b, 1, none⟩ (.slice ao n' cap)) (row := some b) ⟨rfl, rfl, rfl, by simp [World.setCell], fun k _ hk => Below.heap_setCell _ _ _ _ (fun e => hk (by simp [e]))⟩ (Or.inr hne2)
    rw [strCells_append, ByteArray.size_append]
    exact hk
  · refine ⟨hgrow.os.trans hF.os, hgrow.tape.trans hF.tape, hgrow.output.trans hF.output, ?_, fun k hk h1 h2 => ?_⟩
    · have := hgrow.size; simp [World.setCell]; omega
    · rw [Below.heap_setCell _ _ _ _ h1, hgrow.block k (by omega) (fun e => h2 e.symm)]
      exact hF.block k hk h1 h2
  · rcases hloc k hk with h5 | h5
    · exact .inl (hrow ▸ h5)
    · exact .inr (by omega)

set_option maxHeartbeats 2000000 in
theorem bl_string (s : ByteArray) : BlEnd Tryz.prog 47 69 5 s := by
  refine ⟨fn_ok Tryz.func47 (by decide) rfl, fun w b row h => ?_⟩
  obtain ⟨hT, p, v, hb, hp, hown, hrow⟩ := h
  have hne := Lib.ownBlock_ne hown hb hT
  have hlt : b < w.heap.size := (Array.getElem?_eq_some_iff.1 hb).1
  rcases hown.2 with ⟨rfl, h0⟩ | ⟨g, cap, cur, rfl, _, hg, hnc, hcm, hcs, htake⟩
  · have c1 : w.drew.cell? ⟨b, 1, none⟩ = some (.slice none 0 0) := by
      have : w.drew.heap[b]? = some (.cells #[p, .slice none 0 0] 69 (0, 0)) := hb
      rw [Lib.cell_of_heap this]; rfl
    have c0 : w.cell? ⟨b, 1, none⟩ = some (.slice none 0 0) := c1
    have hSD : (Builtin.unsafeSliceData_ #[67] 116 #[.slice none 0 0]).run Tryz.prog w.drew = .ok (.pointer none) w.drew := rfl
    have hUS := fun w p => Lib.run_unsafeString_none (P := Tryz.prog) w 116 3 9 p
    have hs : s = ByteArray.empty := by
      have : s.data = #[] := Array.eq_empty_of_size_eq_zero h0
      cases s; cases this; rfl
    subst hs
    go_enter Tryz.func47, Tryz.ntmps47
    go_wp2
    go_region
    all_goals (go_wp2; go_ret; exact ⟨rfl, ⟨rfl, rfl, rfl, Nat.le_refl _, fun _ _ _ _ => rfl⟩⟩)
  · have c1 : w.drew.cell? ⟨b, 1, none⟩ = some (.slice (some ⟨g, 0, none⟩) s.size cap) := by
      have : w.drew.heap[b]? = some (.cells #[p, .slice (some ⟨g, 0, none⟩) s.size cap] 69 (0, 0)) := hb
      rw [Lib.cell_of_heap this]; rfl
    have c0 : w.cell? ⟨b, 1, none⟩ = some (.slice (some ⟨g, 0, none⟩) s.size cap) := c1
    have hgd : w.drew.heap[g]? = some (.cells cur 5 (0, 0)) := hg
    obtain rfl : row = some g := hrow.symm
    by_cases hs0 : s.size = 0
    · have hs : s = ByteArray.empty := by
        have : s.data = #[] := Array.eq_empty_of_size_eq_zero hs0
        cases s; cases this; rfl
      subst hs
      have hUS := fun w p => Lib.run_unsafeString_none (P := Tryz.prog) w 116 3 9 p
      by_cases hcap : cap = 0
      · subst hcap
        have hSD : (Builtin.unsafeSliceData_ #[67] 116 #[.slice (some ⟨g, 0, none⟩) 0 0]).run Tryz.prog w.drew = .ok (.pointer (some ⟨w.drew.heap.size, 0, none⟩)) (w.drew.alloc (.view ⟨g, 0, none⟩ 5)) :=
          Lib.run_unsafeSliceData_zero w.drew _ _ 5 u_p8 ⟨g, 0, none⟩ 0 (5, cur.size) (by simp [World.shape?, hgd])
        have c2 : (w.drew.alloc (.view ⟨g, 0, none⟩ 5)).cell? ⟨b, 1, none⟩ = some (.slice (some ⟨g, 0, none⟩) 0 0) := by
          have : (w.drew.alloc (.view ⟨g, 0, none⟩ 5)).heap[b]? = _ := (Lib.alloc_old w.drew _ b hlt).trans hb
          rw [Lib.cell_of_heap this]; rfl
        have c3 : (w.alloc (.view ⟨g, 0, none⟩ 5)).drew.cell? ⟨b, 1, none⟩ = some (.slice (some ⟨g, 0, none⟩) 0 0) := c2
        go_enter Tryz.func47, Tryz.ntmps47
        go_wp2
        go_region
        all_goals (go_wp2; go_ret; exact ⟨rfl, ⟨rfl, rfl, rfl, by simp, fun k hk _ _ => Lib.alloc_old w.drew _ k hk⟩⟩)
      · have hSD : (Builtin.unsafeSliceData_ #[67] 116 #[.slice (some ⟨g, 0, none⟩) 0 cap]).run Tryz.prog w.drew = .ok (.pointer (some ⟨g, 0, none⟩)) w.drew :=
          Lib.run_unsafeSliceData_row _ _ _ _ _ _ hcap
        go_enter Tryz.func47, Tryz.ntmps47
        go_wp2
        go_region
        all_goals (go_wp2; go_ret; exact ⟨rfl, ⟨rfl, rfl, rfl, Nat.le_refl _, fun _ _ _ _ => rfl⟩⟩)
    · have hSD : (Builtin.unsafeSliceData_ #[67] 116 #[.slice (some ⟨g, 0, none⟩) s.size cap]).run Tryz.prog w.drew = .ok (.pointer (some ⟨g, 0, none⟩)) w.drew :=
        Lib.run_unsafeSliceData_row _ _ _ _ _ _ (by omega)
      have hlen : s.data.toList.length = s.size := by rw [Array.length_toList]; rfl
      have hUS : (Builtin.unsafeString_ #[116, 3] 9 #[.pointer (some ⟨g, 0, none⟩), .int .i64 s.size]).run Tryz.prog w.drew = .ok (.string s) (w.drew.freeze ⟨g, 0, none⟩ s.size) := by
        have h := Lib.run_unsafeString_row (P := Tryz.prog) w.drew 116 3 9 5 u_p8 byte_cells g cur.size (by simp [World.shape?, hgd]) s.data.toList (fun e => hs0 (by rw [← hlen, e]; rfl)) (by rw [hlen]; omega) (by rw [hlen]; unfold maxLen at hcm; omega) ?_
        · rw [hlen] at h
          simpa using h
        · intro j x hx
          have := hown.cells (g := g) rfl j (.int .u8 x.toNat) (by simp only [Lib.strCells, List.getElem?_map, hx]; rfl)
          exact this
      have hfr : BFr w (w.drew.freeze ⟨g, 0, none⟩ s.size) b (some g) := by
        unfold World.freeze
        rw [if_neg hs0]
        refine ⟨rfl, rfl, rfl, by simp, fun k _ _ hk => ?_⟩
        simp only [Array.getElem?_modify]
        rw [if_neg (fun e => hk (by rw [e]))]; rfl
      go_enter Tryz.func47, Tryz.ntmps47
      go_wp2
      go_region
      all_goals (go_wp2; go_ret; exact ⟨rfl, hfr⟩)
end Go.Proofs.YtbdjcpalpkijcaaGreatDoor

/- Frames of entries: what both ways rest on. -/
namespace Go.Proofs.YtbdjcpalpkijcaaGreatDoor
open Go.RowKit Go.Rx
set_option linter.unusedSimpArgs false
set_option maxRecDepth 100000

/-! ### octets -/
/-! ### an entry's text, by the program -/
theorem entryTextI_ok (index term kind : Nat) (hi : index ≤ 1000000000) (ht : term ≤ 1000000000) (data : ByteArray) (hd : data.size ≤ 140737488355328) : PureFn Tryz.prog 87 [i64 index, .agg (entC term kind data)] [st (etB index term kind data)] := by
  refine PureFn_of_Go Tryz.func87 rfl (by decide) mo (by decide +kernel) ?_
  have h1 := varB_size index
  have h2 := varB_size term
  have r1 : (⟨#[69]⟩ : ByteArray).size + (varB index).size ≤ 9223372036854775807 := by have e1 : (⟨#[69]⟩ : ByteArray).size = 1 := rfl; omega
  have r2 : (⟨#[69]⟩ ++ varB index).size + (varB term).size ≤ 9223372036854775807 := by have e1 : (⟨#[69]⟩ : ByteArray).size = 1 := rfl; rw [ByteArray.size_append]; omega
  have hk : PureFn Tryz.prog 45 [.one (.sh 1 [[.v (.int .i64 (kind : Int))]])] [st (octB [(kind : Int)])] := octets_ok [(kind : Int)] (by simp)
  have e2 : (octB [(kind : Int)]).size = 1 := octB_size _
  have hoct : octB [(kind : Int)] = ⟨[UInt8.ofNat kind].toArray⟩ := by
    unfold octB oct8
    have : UInt8.ofNat (((kind : Int) % 256).toNat) = UInt8.ofNat kind := by
      apply UInt8.toNat_inj.1
      simp
      omega
    simp [this]
  have r3 : ((⟨#[69]⟩ ++ varB index) ++ varB term).size + (octB [(kind : Int)]).size ≤ 9223372036854775807 := by have e1 : (⟨#[69]⟩ : ByteArray).size = 1 := rfl; rw [ByteArray.size_append, ByteArray.size_append]; omega
  have r4 : (((⟨#[69]⟩ ++ varB index) ++ varB term) ++ octB [(kind : Int)]).size + data.size ≤ 9223372036854775807 := by have e1 : (⟨#[69]⟩ : ByteArray).size = 1 := rfl; rw [ByteArray.size_append, ByteArray.size_append, ByteArray.size_append]; omega
  unfold etB
  rw [← hoct]
  generalize hq : octB [(kind : Int)] = q at *
  simp only [Tryz.ntmps87, Tryz.results87, push_cast, seval, entC]
  refine GoD_call rfl rfl (varText_ok index (by omega)) rfl rfl ?_
  simp only [Tryz.ntmps87, Tryz.results87, push_cast, seval, r1]
  refine GoD_call rfl rfl (varText_ok term (by omega)) rfl rfl ?_
  simp only [Tryz.ntmps87, Tryz.results87, push_cast, seval, r1, r2]
  refine GoD_call rfl rfl hk rfl rfl ?_
  simp only [Tryz.ntmps87, Tryz.results87, push_cast, seval, r1, r2, r3, r4]
end Go.Proofs.YtbdjcpalpkijcaaGreatDoor

/- Frames of a log's entries, by both ways. -/
namespace Go.Proofs.YtbdjcpalpkijcaaGreatDoor
open Go.RowKit Go.Rx
set_option linter.unusedSimpArgs false
set_option maxRecDepth 100000

theorem varLk_le : ∀ (k n : Nat), n < 128 ^ (k + 1) → (varL n).length ≤ k + 1
  | 0, n, h => by rw [varL_small (by simpa using (by omega : n ≤ 127))]; simp
  | k + 1, n, h => by
    by_cases c : n ≤ 127
    · rw [varL_small c]; simp
    · rw [varL_big c, List.length_cons]
      have : n / 128 < 128 ^ (k + 1) := by rw [Nat.div_lt_iff_lt_mul (by decide), ← Nat.pow_succ]; exact h
      have := varLk_le k (n / 128) this
      omega
theorem varBk_le (k n : Nat) (h : n < 128 ^ (k + 1)) : (varB n).size ≤ k + 1 := by
  have := varLk_le k n h
  simpa [varB, ByteArray.size] using this

/-- One entry's frame. -/
def efr (i : Int) (e : Ent) : ByteArray := frameB (etB i.toNat e.term.toNat e.kind.toNat e.data)
def efT (l : Lg) (from_ : Nat) : Nat → ByteArray
  | 0 => ⟨#[]⟩
  | n + 1 => efT l from_ n ++ efr (l.start + 1 + (from_ : Int) + (n : Int)) (l.es.getD (from_ + n) default)
structure LgF (l : Lg) : Prop where
  s0 : 0 ≤ l.start
  s1 : l.start + l.es.length ≤ 1000000
  n : l.es.length ≤ 60
  es : ∀ e ∈ l.es, entOk e = true
theorem LgF.of {l : Lg} (h : logB l = true) (h2 : ∀ e ∈ l.es, entOk e = true) : LgF l := by
  simp only [logB, Bool.and_eq_true, decide_eq_true_eq, inR] at h
  exact ⟨by omega, by omega, by omega, h2⟩
theorem entOk_spec {e : Ent} (h : entOk e = true) : 0 ≤ e.term ∧ e.term ≤ 100000 ∧ 1 ≤ e.kind ∧ e.kind ≤ 3 ∧ e.data.size ≤ 640 := by
  simp only [entOk, eoB, Bool.and_eq_true, inR, decide_eq_true_eq] at h
  obtain ⟨⟨h1, h2⟩, h3⟩ := h
  refine ⟨h1, h2, ?_⟩
  by_cases k1 : e.kind = 1
  · simp only [k1, if_true, decide_eq_true_eq] at h3
    have : e.data.size = 0 := by rw [h3]; rfl
    omega
  · by_cases k2 : e.kind = 2
    · simp [k2, rcB] at h3
      omega
    · by_cases k3 : e.kind = 3
      · simp [k3] at h3
        omega
      · simp [k1, k2, k3] at h3
theorem et_size {i : Int} (h0 : 0 ≤ i) (h1 : i ≤ 1000000) {e : Ent} (h : entOk e = true) : 1 ≤ (etB i.toNat e.term.toNat e.kind.toNat e.data).size ∧ (etB i.toNat e.term.toNat e.kind.toNat e.data).size ≤ 700 := by
  obtain ⟨a, b, c, d, f⟩ := entOk_spec h
  have v1 := varBk_le 2 i.toNat (by omega)
  have v2 := varBk_le 2 e.term.toNat (by omega)
  unfold etB
  rw [ByteArray.size_append, ByteArray.size_append, ByteArray.size_append, ByteArray.size_append]
  have e1 : (⟨#[69]⟩ : ByteArray).size = 1 := rfl
  have e2 : (⟨[UInt8.ofNat e.kind.toNat].toArray⟩ : ByteArray).size = 1 := rfl
  omega
theorem efr_size {i : Int} (h0 : 0 ≤ i) (h1 : i ≤ 1000000) {e : Ent} (h : entOk e = true) : (efr i e).size ≤ 720 := by
  obtain ⟨a, b⟩ := et_size h0 h1 h
  have v := varBk_le 2 (etB i.toNat e.term.toNat e.kind.toNat e.data).size (by omega)
  unfold efr frameB
  rw [ByteArray.size_append, ByteArray.size_append, four_size]
  omega
theorem efT_size {l : Lg} (h : LgF l) (from_ : Nat) : ∀ n, from_ + n ≤ l.es.length → (efT l from_ n).size ≤ 720 * n
  | 0, _ => Nat.zero_le _
  | n + 1, hn => by
    have h1 := efT_size h from_ n (by omega)
    have := h.s0; have := h.s1
    have h2 := efr_size (i := l.start + 1 + (from_ : Int) + (n : Int)) (by omega) (by omega) (h.es _ (getD_mem' l.es (from_ + n) (by omega)))
    unfold efT
    rw [ByteArray.size_append]
    omega

theorem l07Frames_ok (l : Lg) (h : LgF l) (hf : fineE l.es) (from_ : Nat) (hfr : from_ ≤ l.es.length) :
    PureFn Tryz.prog 31 [.agg (lgC l (.sh 3 (vR (ents l.es)))), i64 from_] [st (efT l from_ (l.es.length - from_))] := by
  refine PureFn_of_Go Tryz.func31 rfl (by decide) mo (by decide +kernel) ?_
  simp only [Tryz.ntmps31, Tryz.results31, push_cast, seval, lgC]
  obtain ⟨start, sterm, es⟩ := l
  obtain ⟨h0, h1, h2, h3⟩ := h
  simp only at h0 h1 h2 h3 hf hfr ⊢
  obtain ⟨F, hF⟩ : ∃ F : Nat → ByteArray, F = fun i => efT ⟨start, sterm, es⟩ from_ (i - from_) := ⟨_, rfl⟩
  have hsz : ∀ i, i ≤ es.length → (F i).size ≤ 720 * 60 := fun i hi => by
    by_cases hfi : from_ ≤ i
    · have := efT_size (l := ⟨start, sterm, es⟩) ⟨h0, h1, h2, h3⟩ from_ (i - from_) (show from_ + (i - from_) ≤ es.length by omega)
      rw [hF]; simp only; omega
    · rw [hF]
      simp only [show i - from_ = 0 by omega]
      exact Nat.zero_le _
  have hFz : F from_ = ⟨#[]⟩ := by rw [hF]; simp only [Nat.sub_self]; rfl
  have hFn : ∀ i, from_ ≤ i → F (i + 1) = F i ++ efr (start + 1 + (i : Int)) (es.getD i default) := fun i hi => by
    rw [hF]
    simp only [show i + 1 - from_ = (i - from_) + 1 by omega, efT]
    rw [show start + 1 + (from_ : Int) + ((i - from_ : Nat) : Int) = start + 1 + (i : Int) by omega, show from_ + (i - from_) = i by omega]
  have hend : efT ⟨start, sterm, es⟩ from_ (es.length - from_) = F es.length := by rw [hF]
  rw [hend]
  clear hend hF
  refine Go_loop (α := {i : Nat // from_ ≤ i ∧ i ≤ es.length})
    (fun i => ⟨tp 45 [(2, .x (.one (.pt (0, 128) [] 3 0 0))), (5, .x (.one (.rs (0, 2688) [] 1 0 (F i.1).size))), (6, int i.1)], 0, [((0, 2688), ⟨.sl, 1, byR (F i.1).data.toList⟩), ((0, 128), ⟨.box, 3, [[.v (.int .i64 start), .v (.int .i64 sterm), .sh 3 (vR (ents es))]]⟩)], []⟩)
    (fun i => es.length - i.1) ⟨from_, by omega⟩ ?_ ?_
  · refine Weak.trans (Weak.rename (0, 704) (0, 2688) rfl rfl (by decide) rfl) ?_
    have e1 : (⟨#[]⟩ : ByteArray).size = 0 := rfl
    simp only [hFz, e1]
    simp only [push_cast, seval]
    exact Weak.same (by simp only [push_cast, seval, Int.ofNat_zero])
  · rintro ⟨i, hfi, hi⟩ X hX
    have hs := hsz i hi
    have hFl : (F i).data.toList.length = (F i).size := by rw [Array.length_toList]; rfl
    by_cases hlt : (i : Int) < (es.length : Int)
    · have hi' : i < es.length := by omega
      have hg := ents_getD es hi'
      have hok := h3 _ (getD_mem' es i (by omega))
      have hFs := hFn i hfi
      obtain ⟨e, he⟩ : ∃ e, e = es.getD i default := ⟨_, rfl⟩
      rw [← he] at hg hok hFs
      obtain ⟨p1, p2, p3, p4, p5⟩ := entOk_spec hok
      obtain ⟨term, kind, data⟩ := e
      simp only at p1 p2 p3 p4 p5
      obtain ⟨t, rfl⟩ := Int.eq_ofNat_of_zero_le p1
      obtain ⟨kd, rfl⟩ := Int.eq_ofNat_of_zero_le (show 0 ≤ kind by omega)
      obtain ⟨idx, hidx⟩ : ∃ idx : Nat, (idx : Int) = start + 1 + (i : Int) := ⟨(start + 1 + (i : Int)).toNat, by omega⟩
      rw [← hidx] at hFs
      have w1 : IntKind.i64.wrap (start + 1) = start + 1 := w64 (by omega) (by omega)
      have w2 : IntKind.i64.wrap (start + 1 + (i : Int)) = (idx : Int) := wN (by omega) (by omega)
      have hto : etOk idx t kd data = true := by
        have : eoB t kd data = true := hok
        simp only [etOk, this, Bool.true_and, inR, Bool.and_eq_true, decide_eq_true_eq]
        omega
      have k1 := entryTextS_ok idx t kd (by omega) (by omega) data (by omega)
      rw [show etX idx t kd data = [st (etB idx t kd data), bo true] from by simp only [etX, hto, if_true]] at k1
      obtain ⟨q1, q2⟩ := et_size (i := idx) (by omega) (by omega) hok
      simp only [Int.toNat_natCast] at q1 q2
      have k2 := frameS_ok (etB idx t kd data) (by omega)
      rw [show frameX (etB idx t kd data) = [st (frameB (etB idx t kd data)), bo true] from by
        have : okLen (etB idx t kd data) = true := by simp only [okLen, Bool.and_eq_true, decide_eq_true_eq]; omega
        simp only [frameX, this, if_true]] at k2
      have hefr : efr (idx : Int) ⟨(t : Int), (kd : Int), data⟩ = frameB (etB idx t kd data) := by simp [efr]
      have hfs := efr_size (i := idx) (by omega) (by omega) hok
      rw [hefr] at hFs hfs
      obtain ⟨y, hy⟩ : ∃ y, y = frameB (etB idx t kd data) := ⟨_, rfl⟩
      rw [← hy] at k2 hFs hfs
      obtain ⟨i', hi1⟩ : ∃ i', i' = i + 1 := ⟨_, rfl⟩
      rw [← hi1] at hFs
      have hyl : y.data.toList.length = y.size := by rw [Array.length_toList]; rfl
      have hsy : (F i).size + y.size = (F i').size := by rw [hFs, ByteArray.size_append]
      have a0 : (F i').size ≤ 4294967296 := by omega
      have a1 := max_len a0
      have a2 := room_le (b := 1) a0 (by decide)
      have ws : IntKind.i64.wrap ((i : Int) + 1) = (i' : Int) := by rw [hi1]; exact wsucc hi' (by omega)
      have hap : byR (F i).data.toList ++ byR y.data.toList = byR (F i').data.toList := by
        rw [hFs, ByteArray.data_append, Array.toList_append]; simp [byR]
      have hyb : y.size ≤ 281474976710656 := by omega
      have htk : (byR y.data.toList).take y.size = byR y.data.toList := by rw [← hyl]; exact byR_take _
      have hfl : (byR y.data.toList).all flatRow = true := byR_flat _
      simp only [entC] at k1
      simp only [push_cast, seval, hlt, ents_length, hi', vR_getD, hg, entV, w1, w2]
      refine GoD_call rfl rfl k1 rfl rfl ?_
      simp only [push_cast, seval]
      refine GoL_call rfl rfl k2 rfl rfl ?_
      simp only [push_cast, seval, byteRows_byR, byR_length, hFl, hyl, hyb, a1, a2, htk, hfl, hap, hsy, ws]
      refine ⟨_, ?_, hX ⟨i', by omega⟩ (by simp only; omega)⟩
      exact Weak.drop (by simp only [push_cast, seval, hi1]) (by simp only [push_cast, seval, hi1]) (by simp only [push_cast, seval, hi1])
    · have hie : i = es.length := by omega
      subst hie
      have hfin : (⟨(F es.length).data.toList.toArray⟩ : ByteArray) = F es.length := by simp
      have htk : (byR (F es.length).data.toList).take (F es.length).size = byR (F es.length).data.toList := by rw [← hFl]; exact byR_take _
      simp only [push_cast, seval, hlt, ents_length, byR_length, hFl, htk, hfin]
end Go.Proofs.YtbdjcpalpkijcaaGreatDoor

/- Frames of a log's entries, by the program: over a strings.Builder. -/
namespace Go.Proofs.YtbdjcpalpkijcaaGreatDoor
open Go.RowKit Go.Rx
set_option linter.unusedSimpArgs false
set_option maxRecDepth 100000

theorem entryFrames_ok (l : Lg) (h : LgF l) (hf : fineE l.es) (from_ : Nat) (hfr : from_ ≤ l.es.length) :
    PureFn Tryz.prog 55 [.agg (lgC l (.sh 3 (vR (ents l.es)))), i64 from_] [st (efT l from_ (l.es.length - from_))] := by
  refine PureFn_of_Go Tryz.func55 rfl (by decide) mo (by decide +kernel) ?_
  obtain ⟨start, sterm, es⟩ := l
  obtain ⟨h0, h1, h2, h3⟩ := h
  simp only at h0 h1 h2 h3 hf hfr ⊢
  obtain ⟨F, hF⟩ : ∃ F : Nat → ByteArray, F = efT ⟨start, sterm, es⟩ from_ := ⟨_, rfl⟩
  have hsz : ∀ n, from_ + n ≤ es.length → (F n).size ≤ 720 * 60 := fun n hn => by
    have := efT_size (l := ⟨start, sterm, es⟩) ⟨h0, h1, h2, h3⟩ from_ n hn
    rw [hF]; omega
  have hFz : F 0 = ⟨#[]⟩ := by rw [hF]; rfl
  have hFn : ∀ n, F (n + 1) = F n ++ efr (start + 1 + (from_ : Int) + (n : Int)) (es.getD (from_ + n) default) := fun n => by rw [hF]; rfl
  have hdr : List.take (es.length - from_) (List.drop from_ (vR (ents es))) = vR (ents (es.drop from_)) := by
    rw [List.take_of_length_le (by rw [List.length_drop, vR_length, ents_length]; exact Nat.le_refl _)]
    simp [vR, ents, List.map_drop]
  obtain ⟨E, hE⟩ : ∃ E, E = es.drop from_ := ⟨_, rfl⟩
  have hEl : E.length = es.length - from_ := by rw [hE, List.length_drop]
  have hEg : ∀ n, n < E.length → E.getD n default = es.getD (from_ + n) default := fun n hn => by
    rw [hE, List.getD_eq_getElem?_getD, List.getElem?_drop, ← List.getD_eq_getElem?_getD]
  rw [← hE] at hdr
  simp only [Tryz.ntmps55, Tryz.results55, push_cast, seval, lgC]
  refine GoL_blNew (e := 5) rfl (by decide +kernel) (z := .agg #[.pointer none, .slice none 0 0]) (by kernel_rfl) rfl rfl rfl (by decide) fun b => ?_
  simp only [Tryz.ntmps55, Tryz.results55, push_cast, seval, hfr, hdr, ents_length]
  refine Go_loop (α := {p : Nat × Option Nat // p.1 ≤ E.length})
    (fun p => ⟨tp 31 [(1, int from_), (2, .x (.one (.pt (0, 128) [] 3 0 0))), (5, .x (.one (.v (.pointer (some ⟨b, 0, none⟩))))), (11, .x (.one (.sh 3 (vR (ents E))))), (12, int E.length), (13, int p.1.1)], 0, [((0, 320), ⟨.bl 69 5 b p.1.2 (F p.1.1), 0, []⟩), ((0, 128), ⟨.box, 3, [[.v (.int .i64 start), .v (.int .i64 sterm), .sh 3 (vR (ents es))]]⟩)], []⟩)
    (fun p => E.length - p.1.1) ⟨(0, none), Nat.zero_le _⟩ ?_ ?_
  · simp only [hFz]
    exact Weak.same (by simp only [push_cast, seval, Int.ofNat_zero])
  · rintro ⟨⟨n, row⟩, hn⟩ X hX
    simp only at hn
    have hs := hsz n (by omega)
    by_cases hlt : (n : Int) < (E.length : Int)
    · have hn' : n < E.length := by omega
      have hg := ents_getD E hn'
      have hok := h3 _ (getD_mem' es (from_ + n) (by omega))
      have hFs := hFn n
      rw [← hEg n hn'] at hok hFs
      obtain ⟨e, he⟩ : ∃ e, e = E.getD n default := ⟨_, rfl⟩
      rw [← he] at hg hok hFs
      obtain ⟨p1, p2, p3, p4, p5⟩ := entOk_spec hok
      obtain ⟨term, kind, data⟩ := e
      simp only at p1 p2 p3 p4 p5
      obtain ⟨t, rfl⟩ := Int.eq_ofNat_of_zero_le p1
      obtain ⟨kd, rfl⟩ := Int.eq_ofNat_of_zero_le (show 0 ≤ kind by omega)
      obtain ⟨idx, hidx⟩ : ∃ idx : Nat, (idx : Int) = start + 1 + (from_ : Int) + (n : Int) := ⟨(start + 1 + (from_ : Int) + (n : Int)).toNat, by omega⟩
      rw [← hidx] at hFs
      have w1 : IntKind.i64.wrap (start + 1) = start + 1 := w64 (by omega) (by omega)
      have w2 : IntKind.i64.wrap (start + 1 + (from_ : Int)) = start + 1 + (from_ : Int) := w64 (by omega) (by omega)
      have w3 : IntKind.i64.wrap (start + 1 + (from_ : Int) + (n : Int)) = (idx : Int) := wN (by omega) (by omega)
      have k1 := entryTextI_ok idx t kd (by omega) (by omega) data (by omega)
      obtain ⟨q1, q2⟩ := et_size (i := idx) (by omega) (by omega) hok
      simp only [Int.toNat_natCast] at q1 q2
      have k2 := frame_ok (etB idx t kd data) (by omega)
      have hefr : efr (idx : Int) ⟨(t : Int), (kd : Int), data⟩ = frameB (etB idx t kd data) := by simp [efr]
      have hfs := efr_size (i := idx) (by omega) (by omega) hok
      rw [hefr] at hFs hfs
      obtain ⟨y, hy⟩ : ∃ y, y = frameB (etB idx t kd data) := ⟨_, rfl⟩
      rw [← hy] at k2 hFs hfs
      obtain ⟨n', hn1⟩ : ∃ n', n' = n + 1 := ⟨_, rfl⟩
      rw [← hn1] at hFs
      have ws : IntKind.i64.wrap ((n : Int) + 1) = (n' : Int) := by rw [hn1]; exact wsucc hn' (by omega)
      simp only [entC] at k1
      simp only [push_cast, seval, hlt, ents_length, hn', vR_getD, hg, entV, w1, w2, w3]
      refine GoL_call rfl rfl k1 rfl rfl ?_
      simp only [push_cast, seval]
      refine GoL_call rfl rfl k2 rfl rfl ?_
      simp only [push_cast, seval]
      refine GoL_bl (r := (0, 320)) (bl_write (F n) y (by omega)) rfl rfl rfl (zx := .tup [.one (.v (.int .i64 y.size)), .one (.v .nilIface)]) (fun w o g => ⟨_, rfl, rfl, fun j hj => ?_⟩) fun row' => ?_
      · match j, hj with
        | 0, _ => exact rfl
        | 1, _ => exact rfl
      rw [← hFs]
      simp only [push_cast, seval, ws]
      refine ⟨_, ?_, hX ⟨(n', row'), by simp only; omega⟩ (by simp only; omega)⟩
      exact Weak.drop (by simp only [push_cast, seval, hn1]) (by simp only [push_cast, seval, hn1]) (by simp only [push_cast, seval, hn1])
    · have hne : n = E.length := by omega
      subst hne
      simp only [push_cast, seval, hlt]
      refine GoL_blEnd (r := (0, 320)) (bl_string (F E.length)) rfl rfl rfl ?_
      rw [← hEl, ← hF]
      simp only [push_cast, seval]
end Go.Proofs.YtbdjcpalpkijcaaGreatDoor

