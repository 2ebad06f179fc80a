/- Words and sums: what these functions return, by their code. -/
import Derived.Test.YtennhlaibefacaaDoorTy
import Derived.Test.YtennhlaibefacaaDoorRxIV
namespace Go.Proofs.YtennhlaibefacaaDoor
open Go.RowKit Go.Rx
set_option linter.unusedSimpArgs false
set_option maxRecDepth 100000
abbrev i64 (n : Int) : X := .one (.v (.int .i64 n))
abbrev bo (b : Bool) : X := .one (.v (.bool b))
abbrev st (s : ByteArray) : X := .one (.v (.string s))
abbrev u32 (n : Nat) : X := .one (.v (.int .u32 n))
abbrev bad : V := .x (.one .bad)
theorem mo : Tryd.prog.follows .mixedOrders = true := by kernel_rfl

theorem inRange_ok (n a b : Int) : PureFn Tryd.prog 71 [i64 n, i64 a, i64 b] [bo (decide (a ≤ n) && decide (n ≤ b))] := by
  refine PureFn_of_Go Tryd.func71 rfl (by decide) mo (by decide +kernel) ?_
  simp only [Tryd.ntmps71, Tryd.results71, push_cast, seval]
  by_cases h : a ≤ n
  · simp [h, push_cast, resOk, Tryd.results71]
  · simp [h, push_cast, resOk, Tryd.results71]
theorem l01In_ok (n a b : Int) : PureFn Tryd.prog 39 [i64 n, i64 a, i64 b] [bo (decide (a ≤ n) && decide (n ≤ b))] := by
  refine PureFn_of_Go Tryd.func39 rfl (by decide) mo (by decide +kernel) ?_
  simp only [Tryd.ntmps39, Tryd.results39, push_cast, seval]
  by_cases h : a ≤ n
  · simp [h, push_cast, resOk, Tryd.results39]
  · simp [h, push_cast, resOk, Tryd.results39]

/-! ### sums -/
def crcBit (x : Nat) : Nat := if x % 2 = 1 then (x / 2) ^^^ 3558460437 else x / 2
def crcBits (x : Nat) : Nat → Nat
  | 0 => x
  | k + 1 => crcBit (crcBits x k)
def crcTo (s : ByteArray) (x : Nat) : Nat → Nat
  | 0 => x
  | i + 1 => crcBits (crcTo s x i ^^^ (bu s i).toNat) 8
theorem crcBit_lt {x : Nat} (h : x < 4294967296) : crcBit x < 4294967296 := by
  unfold crcBit
  split
  · exact Nat.xor_lt_two_pow (n := 32) (by omega) (by omega)
  · omega
theorem crcBits_lt {x : Nat} (h : x < 4294967296) (k : Nat) : crcBits x k < 4294967296 := by
  induction k with
  | zero => exact h
  | succ k ih => exact crcBit_lt ih
theorem u8_lt (b : UInt8) : b.toNat < 256 := by have := b.toNat_lt; omega
theorem crcTo_lt {s : ByteArray} {x : Nat} (h : x < 4294967296) (i : Nat) : crcTo s x i < 4294967296 := by
  induction i with
  | zero => exact h
  | succ i ih =>
    have := u8_lt (bu s i)
    exact crcBits_lt (Nat.xor_lt_two_pow (n := 32) (by omega) (by omega)) 8

theorem sumMoreI_ok (x : Nat) (hx : x < 4294967296) (s : ByteArray) (hs : s.size ≤ 140737488355328) : PureFn Tryd.prog 90 [u32 x, st s] [u32 (crcTo s x s.size)] := by
  refine PureFn_of_Go Tryd.func90 rfl (by decide) mo (by decide +kernel) ?_
  simp only [Tryd.ntmps90, Tryd.results90, push_cast, seval]
  refine Go_loop (α := {i : Nat // i ≤ s.size}) (fun i => ⟨tp 31 [(0, .x (u32 (crcTo s x i.1))), (1, .x (st s)), (5, int i.1)], 0, [], []⟩) (fun i => s.size - i.1) ⟨0, Nat.zero_le _⟩ ?_ ?_
  · exact Weak.same (by simp only [push_cast, seval, crcTo, Int.ofNat_zero])
  · rintro ⟨i, hi⟩ X hX
    by_cases hlt : (i : Int) < (s.size : Int)
    · have hi' : i < s.size := by omega
      have hb := bu_get hi'
      have hc := crcTo_lt (s := s) hx i
      have hu := u8_lt (bu s i)
      have hw : IntKind.u32.wrap ((bu s i).toNat : Int) = ((bu s i).toNat : Int) := w32 rfl (by omega)
      have hx1 := xor32 hc (show (bu s i).toNat < 4294967296 by omega)
      obtain ⟨y, hy⟩ : ∃ y, y = crcTo s x i ^^^ (bu s i).toNat := ⟨_, rfl⟩
      rw [← hy] at hx1
      have hyl : y < 4294967296 := by rw [hy]; exact Nat.xor_lt_two_pow (n := 32) (by omega) (by omega)
      simp only [push_cast, seval, hlt, hb, hw, hx1]
      refine Go_loop (α := {k : Nat // k ≤ 8}) (fun k => ⟨tp 31 [(0, .x (u32 (crcBits y k.1))), (1, .x (st s)), (5, int i), (19, int k.1)], 0, [], []⟩) (fun k => 8 - k.1) ⟨0, Nat.zero_le _⟩ ?_ ?_
      · exact Weak.same (by simp only [push_cast, seval, crcBits, Int.ofNat_zero])
      · rintro ⟨k, hk⟩ X2 hX2
        by_cases hk8 : (k : Int) < 8
        · have hz := crcBits_lt hyl k
          have hstep : crcBits y (k + 1) = crcBit (crcBits y k) := rfl
          obtain ⟨z, hz'⟩ : ∃ z, z = crcBits y k := ⟨_, rfl⟩
          rw [← hz'] at hz hstep ⊢
          have hand := and32 (b := 1) hz (by omega)
          have hand2 : ((z &&& 1 : Nat) : Int) = ((z % 2 : Nat) : Int) := by rw [show (1 : Nat) = 2 ^ 1 - 1 from rfl, Nat.and_two_pow_sub_one_eq_mod]
          rw [hand2, show ((1 : Nat) : Int) = 1 from rfl] at hand
          have hshr := shr32 z 1 (by omega)
          rw [show ((1 : Nat) : Int) = 1 from rfl, Nat.pow_one] at hshr
          have hwk : IntKind.i64.wrap ((k : Int) + 1) = ((k + 1 : Nat) : Int) := wN (by omega) (by omega)
          obtain ⟨k', hk'⟩ : ∃ k', k' = k + 1 := ⟨_, rfl⟩
          obtain ⟨h2, hh2⟩ : ∃ h2, h2 = z / 2 := ⟨_, rfl⟩
          rw [← hh2] at hshr
          rw [← hk'] at hwk hstep
          rcases Nat.mod_two_eq_zero_or_one z with e | e
          · rw [e, show ((0 : Nat) : Int) = 0 from rfl] at hand
            have hfin : crcBits y k' = h2 := by rw [hstep, crcBit, if_neg (by omega), hh2]
            simp only [push_cast, seval, hk8, hand, hshr, hwk]
            refine ⟨_, ?_, hX2 ⟨k', by omega⟩ (by simp only; omega)⟩
            exact Weak.same (by simp only [push_cast, seval, hfin])
          · rw [e, show ((1 : Nat) : Int) = 1 from rfl] at hand
            have hx2 := xor32 (a := h2) (b := 3558460437) (by omega) (by omega)
            rw [show ((3558460437 : Nat) : Int) = 3558460437 from rfl] at hx2
            have hfin : crcBits y k' = h2 ^^^ 3558460437 := by rw [hstep, crcBit, if_pos e, hh2]
            rw [← hfin] at hx2
            simp only [push_cast, seval, hk8, hand, hshr, hwk, hx2]
            refine ⟨_, ?_, hX2 ⟨k', by omega⟩ (by simp only; omega)⟩
            exact Weak.same (by simp only [push_cast, seval])
        · have hke : k = 8 := by omega
          have hwi : IntKind.i64.wrap ((i : Int) + 1) = ((i + 1 : Nat) : Int) := wN (by omega) (by omega)
          have hfin : crcTo s x (i + 1) = crcBits y k := by rw [hy, hke]; rfl
          obtain ⟨i', hi1⟩ : ∃ i', i' = i + 1 := ⟨_, rfl⟩
          rw [← hi1] at hwi hfin
          simp only [push_cast, seval, hk8, hwi]
          refine ⟨_, ?_, hX ⟨i', by omega⟩ (by simp only; omega)⟩
          exact Weak.same (by simp only [push_cast, seval, hfin])
    · obtain rfl : i = s.size := by omega
      simp only [Tryd.ntmps90, Tryd.results90, push_cast, seval, hlt]

theorem sumMoreS_ok (x : Nat) (hx : x < 4294967296) (s : ByteArray) (hs : s.size ≤ 140737488355328) : PureFn Tryd.prog 84 [u32 x, st s] [u32 (crcTo s x s.size)] := by
  refine PureFn_of_Go Tryd.func84 rfl (by decide) mo (by decide +kernel) ?_
  simp only [Tryd.ntmps84, Tryd.results84, push_cast, seval]
  refine Go_loop (α := {i : Nat // i ≤ s.size}) (fun i => ⟨tp 33 [(0, .x (u32 (crcTo s x i.1))), (1, .x (st s)), (5, int i.1)], 0, [], []⟩) (fun i => s.size - i.1) ⟨0, Nat.zero_le _⟩ ?_ ?_
  · exact Weak.same (by simp only [push_cast, seval, crcTo, Int.ofNat_zero])
  · rintro ⟨i, hi⟩ X hX
    by_cases hlt : (i : Int) < (s.size : Int)
    · have hi' : i < s.size := by omega
      have hb := bu_get hi'
      have hc := crcTo_lt (s := s) hx i
      have hu := u8_lt (bu s i)
      have hw : IntKind.u32.wrap ((bu s i).toNat : Int) = ((bu s i).toNat : Int) := w32 rfl (by omega)
      have hx1 := xor32 hc (show (bu s i).toNat < 4294967296 by omega)
      obtain ⟨y, hy⟩ : ∃ y, y = crcTo s x i ^^^ (bu s i).toNat := ⟨_, rfl⟩
      rw [← hy] at hx1
      have hyl : y < 4294967296 := by rw [hy]; exact Nat.xor_lt_two_pow (n := 32) (by omega) (by omega)
      simp only [push_cast, seval, hlt, hb, hw, hx1]
      refine Go_loop (α := {k : Nat // k ≤ 8}) (fun k => ⟨tp 33 [(0, .x (u32 (crcBits y k.1))), (1, .x (st s)), (5, int i), (6, int k.1)], 0, [], []⟩) (fun k => 8 - k.1) ⟨0, Nat.zero_le _⟩ ?_ ?_
      · exact Weak.same (by simp only [push_cast, seval, crcBits, Int.ofNat_zero])
      · rintro ⟨k, hk⟩ X2 hX2
        by_cases hk8 : (k : Int) < 8
        · have hz := crcBits_lt hyl k
          have hstep : crcBits y (k + 1) = crcBit (crcBits y k) := rfl
          obtain ⟨z, hz'⟩ : ∃ z, z = crcBits y k := ⟨_, rfl⟩
          rw [← hz'] at hz hstep ⊢
          have hrem := tmodN z 2
          rw [show ((2 : Nat) : Int) = 2 from rfl] at hrem
          have hwk : IntKind.i64.wrap ((k : Int) + 1) = ((k + 1 : Nat) : Int) := wN (by omega) (by omega)
          obtain ⟨k', hk'⟩ : ∃ k', k' = k + 1 := ⟨_, rfl⟩
          obtain ⟨h2, hh2⟩ : ∃ h2, h2 = z / 2 := ⟨_, rfl⟩
          have hq := tdivN z 2
          rw [show ((2 : Nat) : Int) = 2 from rfl, ← hh2] at hq
          have hwq : IntKind.u32.wrap ((z : Int).tdiv 2) = (h2 : Int) := by rw [hq]; exact w32 rfl (by omega)
          rw [← hk'] at hwk hstep
          rcases Nat.mod_two_eq_zero_or_one z with e | e
          · rw [e, show ((0 : Nat) : Int) = 0 from rfl] at hrem
            have hfin : crcBits y k' = h2 := by rw [hstep, crcBit, if_neg (by omega), hh2]
            simp only [push_cast, seval, hk8, hrem, hwq, hwk]
            refine ⟨_, ?_, hX2 ⟨k', by omega⟩ (by simp only; omega)⟩
            exact Weak.same (by simp only [push_cast, seval, hfin])
          · rw [e, show ((1 : Nat) : Int) = 1 from rfl] at hrem
            have hx2 := xor32 (a := h2) (b := 3558460437) (by omega) (by omega)
            rw [show ((3558460437 : Nat) : Int) = 3558460437 from rfl] at hx2
            have hfin : crcBits y k' = h2 ^^^ 3558460437 := by rw [hstep, crcBit, if_pos e, hh2]
            rw [← hfin] at hx2
            simp only [push_cast, seval, hk8, hrem, hwq, hwk, hx2]
            refine ⟨_, ?_, hX2 ⟨k', by omega⟩ (by simp only; omega)⟩
            exact Weak.same (by simp only [push_cast, seval])
        · have hke : k = 8 := by omega
          have hwi : IntKind.i64.wrap ((i : Int) + 1) = ((i + 1 : Nat) : Int) := wN (by omega) (by omega)
          have hfin : crcTo s x (i + 1) = crcBits y k := by rw [hy, hke]; rfl
          obtain ⟨i', hi1⟩ : ∃ i', i' = i + 1 := ⟨_, rfl⟩
          rw [← hi1] at hwi hfin
          simp only [push_cast, seval, hk8, hwi]
          refine ⟨_, ?_, hX ⟨i', by omega⟩ (by simp only; omega)⟩
          exact Weak.same (by simp only [push_cast, seval, hfin])
    · obtain rfl : i = s.size := by omega
      simp only [Tryd.ntmps84, Tryd.results84, push_cast, seval, hlt]

def sumN (s : ByteArray) : Nat := crcTo s 4294967295 s.size
theorem sumN_lt (s : ByteArray) : sumN s < 4294967296 := crcTo_lt (by omega) _
theorem sumOfI_ok (s : ByteArray) (hs : s.size ≤ 140737488355328) : PureFn Tryd.prog 87 [st s] [u32 (sumN s)] := by
  refine PureFn_of_Go Tryd.func87 rfl (by decide) mo (by decide +kernel) ?_
  simp only [Tryd.ntmps87, Tryd.results87, push_cast, seval]
  refine GoL_call rfl rfl (sumMoreI_ok 4294967295 (by omega) s hs) rfl rfl ?_
  simp only [Tryd.ntmps87, Tryd.results87, push_cast, seval, sumN]
theorem sumOfS_ok (s : ByteArray) (hs : s.size ≤ 140737488355328) : PureFn Tryd.prog 63 [st s] [u32 (sumN s)] := by
  refine PureFn_of_Go Tryd.func63 rfl (by decide) mo (by decide +kernel) ?_
  simp only [Tryd.ntmps63, Tryd.results63, push_cast, seval]
  refine GoL_call rfl rfl (sumMoreS_ok 4294967295 (by omega) s hs) rfl rfl ?_
  simp only [Tryd.ntmps63, Tryd.results63, push_cast, seval, sumN]
def four (x : Nat) : ByteArray := ⟨[UInt8.ofNat (x / 2 ^ 24), UInt8.ofNat (x / 2 ^ 16), UInt8.ofNat (x / 2 ^ 8), UInt8.ofNat x].toArray⟩
theorem four_size (x : Nat) : (four x).size = 4 := rfl
theorem l02Four_ok (x : Nat) : PureFn Tryd.prog 62 [u32 x] [st (four x)] := by
  refine PureFn_of_Go Tryd.func62 rfl (by decide) mo (by decide +kernel) ?_
  have h1 := shr32 x 24 (by omega)
  have h2 := shr32 x 16 (by omega)
  have h3 := shr32 x 8 (by omega)
  rw [show ((24 : Nat) : Int) = 24 from rfl] at h1
  rw [show ((16 : Nat) : Int) = 16 from rfl] at h2
  rw [show ((8 : Nat) : Int) = 8 from rfl] at h3
  have w0 := wu8 (n := x)
  have w1 := wu8 (n := x / 2 ^ 24)
  have w2 := wu8 (n := x / 2 ^ 16)
  have w3 := wu8 (n := x / 2 ^ 8)
  have hf := str_natsOf [UInt8.ofNat (x / 2 ^ 24), UInt8.ofNat (x / 2 ^ 16), UInt8.ofNat (x / 2 ^ 8), UInt8.ofNat x]
  change _ = four x at hf
  generalize x / 2 ^ 24 = a1 at h1 w1 hf
  generalize x / 2 ^ 16 = a2 at h2 w2 hf
  generalize x / 2 ^ 8 = a3 at h3 w3 hf
  generalize UInt8.ofNat a1 = b1 at w1 hf
  generalize UInt8.ofNat a2 = b2 at w2 hf
  generalize UInt8.ofNat a3 = b3 at w3 hf
  generalize UInt8.ofNat x = b0 at w0 hf
  simp only [natsOf, List.map_cons, List.map_nil] at hf
  simp only [Tryd.ntmps62, Tryd.results62, push_cast, seval, h1, h2, h3, w0, w1, w2, w3, hf]
theorem sumText_ok (s : ByteArray) (hs : s.size ≤ 140737488355328) : PureFn Tryd.prog 73 [st s] [st (four (sumN s))] := by
  refine PureFn_of_Go Tryd.func73 rfl (by decide) mo (by decide +kernel) ?_
  simp only [Tryd.ntmps73, Tryd.results73, push_cast, seval]
  refine GoL_call rfl rfl (sumOfI_ok s hs) rfl rfl ?_
  generalize sumN s = x
  have h1 := shr32 x 24 (by omega)
  have h2 := shr32 x 16 (by omega)
  have h3 := shr32 x 8 (by omega)
  rw [show ((24 : Nat) : Int) = 24 from rfl] at h1
  rw [show ((16 : Nat) : Int) = 16 from rfl] at h2
  rw [show ((8 : Nat) : Int) = 8 from rfl] at h3
  have w0 := wu8 (n := x)
  have w1 := wu8 (n := x / 2 ^ 24)
  have w2 := wu8 (n := x / 2 ^ 16)
  have w3 := wu8 (n := x / 2 ^ 8)
  have hf := str_natsOf [UInt8.ofNat (x / 2 ^ 24), UInt8.ofNat (x / 2 ^ 16), UInt8.ofNat (x / 2 ^ 8), UInt8.ofNat x]
  change _ = four x at hf
  generalize x / 2 ^ 24 = a1 at h1 w1 hf
  generalize x / 2 ^ 16 = a2 at h2 w2 hf
  generalize x / 2 ^ 8 = a3 at h3 w3 hf
  generalize UInt8.ofNat a1 = b1 at w1 hf
  generalize UInt8.ofNat a2 = b2 at w2 hf
  generalize UInt8.ofNat a3 = b3 at w3 hf
  generalize UInt8.ofNat x = b0 at w0 hf
  simp only [natsOf, List.map_cons, List.map_nil] at hf
  simp only [Tryd.ntmps73, Tryd.results73, push_cast, seval, h1, h2, h3, w0, w1, w2, w3, hf]

/-! ### numbers in bytes -/
def varL (n : Nat) : List UInt8 := if n ≤ 127 then [UInt8.ofNat n] else UInt8.ofNat (128 + n % 128) :: varL (n / 128)
termination_by n
decreasing_by omega
def varB (n : Nat) : ByteArray := ⟨(varL n).toArray⟩
theorem varL_small {n : Nat} (h : n ≤ 127) : varL n = [UInt8.ofNat n] := by rw [varL, if_pos h]
theorem varL_big {n : Nat} (h : ¬ n ≤ 127) : varL n = UInt8.ofNat (128 + n % 128) :: varL (n / 128) := by rw [varL, if_neg h]

theorem varText_ok (n : Nat) (hn : n ≤ 4294967290) : PureFn Tryd.prog 79 [i64 n] [st (varB n)] := by
  refine PureFn_of_Go Tryd.func79 rfl (by decide) mo (by decide +kernel) ?_
  simp only [Tryd.ntmps79, Tryd.results79, push_cast, seval]
  refine Go_loop (α := {p : List UInt8 × Nat // p.1 ++ varL p.2 = varL n ∧ p.1.length + p.2 ≤ n}) (fun p => ⟨tp 21 [(0, int p.1.2), (3, .x (.one (.rs (0, 768) [] 1 0 p.1.1.length)))], 0, [((0, 768), ⟨.sl, 1, byR p.1.1⟩)], []⟩) (fun p => p.1.2) ⟨([], n), by simp, by simp⟩ ?_ ?_
  · refine Weak.trans (Weak.nilRoot (0, 768) 1 3 rfl rfl rfl) ?_
    simp only [push_cast, seval, byR_nil]
    exact Weak.same (by simp only [push_cast, seval, byR_nil])
  · rintro ⟨⟨l, m⟩, hp, hm⟩ X hX
    simp only at hp hm
    have a0 : l.length + 1 ≤ 4294967296 := by omega
    have a1 := max_len a0
    have a2 := room_le (b := 1) a0 (by decide)
    have hfl := byR_length l
    by_cases hlt : (127 : Int) < (m : Int)
    · have hrem := tmodN m 128
      rw [show ((128 : Nat) : Int) = 128 from rfl] at hrem
      obtain ⟨q, hq⟩ : ∃ q, q = m % 128 := ⟨_, rfl⟩
      rw [← hq] at hrem
      have hw1 : IntKind.i64.wrap (128 + (q : Int)) = ((128 + q : Nat) : Int) := wN (by omega) (by omega)
      have hw2 := wu8 (n := 128 + q)
      have hb : UInt8.ofNat (128 + q) = UInt8.ofNat (128 + m % 128) := by rw [hq]
      obtain ⟨z, hz⟩ : ∃ z, z = 128 + q := ⟨_, rfl⟩
      rw [← hz] at hw1 hw2 hb
      obtain ⟨c, hc⟩ : ∃ c, c = UInt8.ofNat z := ⟨_, rfl⟩
      rw [← hc] at hw2 hb
      have hdiv := tdivN m 128
      rw [show ((128 : Nat) : Int) = 128 from rfl] at hdiv
      have hw3 : IntKind.i64.wrap ((m : Int).tdiv 128) = ((m / 128 : Nat) : Int) := wN hdiv (by omega)
      obtain ⟨m', hm'⟩ : ∃ m', m' = m / 128 := ⟨_, rfl⟩
      rw [← hm'] at hw3
      have hsn := byR_snoc l c
      obtain ⟨l', hl'⟩ : ∃ l', l' = l ++ [c] := ⟨_, rfl⟩
      rw [← hl'] at hsn
      have hll : l'.length = l.length + 1 := by rw [hl']; simp
      have hinv : l' ++ varL m' = varL n := by
        have hv := varL_big (n := m) (by omega)
        rw [hl', hb, hm', ← hp, hv, List.append_assoc]; rfl
      have hml : l'.length + m' ≤ n := by rw [hll]; omega
      simp only [push_cast, seval, hlt, hrem, hw1, hw2, hw3, a1, a2, hsn, hfl]
      refine ⟨_, ?_, hX ⟨(l', m'), hinv, hml⟩ (by simp only; omega)⟩
      exact Weak.drop (by simp only [push_cast, seval, hll]) (by simp only [push_cast, seval, hll]) (by simp only [push_cast, seval, hll])
    · have hw2 := wu8 (n := m)
      obtain ⟨c, hc⟩ : ∃ c, c = UInt8.ofNat m := ⟨_, rfl⟩
      rw [← hc] at hw2
      have hsn := byR_snoc l c
      obtain ⟨l', hl'⟩ : ∃ l', l' = l ++ [c] := ⟨_, rfl⟩
      rw [← hl'] at hsn
      have hll : l'.length = l.length + 1 := by rw [hl']; simp
      have ht := byR_take l'
      rw [hll] at ht
      have hfin : (⟨l'.toArray⟩ : ByteArray) = varB n := by rw [hl', hc, varB, ← hp, varL_small (by omega)]
      simp only [Tryd.ntmps79, Tryd.results79, push_cast, seval, hlt, hw2, a1, a2, hsn, hfl, ht, hfin]
theorem l01Var_ok (n : Nat) (hn : n ≤ 4294967290) : PureFn Tryd.prog 68 [i64 n] [st (varB n)] := by
  refine PureFn_of_Go Tryd.func68 rfl (by decide) mo (by decide +kernel) ?_
  simp only [Tryd.ntmps68, Tryd.results68, push_cast, seval]
  refine Go_loop (α := {p : List UInt8 × Nat // p.1 ++ varL p.2 = varL n ∧ p.1.length + p.2 ≤ n}) (fun p => ⟨tp 22 [(0, int p.1.2), (3, .x (.one (.rs (0, 832) [] 1 0 p.1.1.length)))], 0, [((0, 832), ⟨.sl, 1, byR p.1.1⟩)], []⟩) (fun p => p.1.2) ⟨([], n), by simp, by simp⟩ ?_ ?_
  · refine Weak.trans (Weak.rename (0, 256) (0, 832) rfl rfl (by decide) rfl) ?_
    simp only [push_cast, seval, byR_nil]
    exact Weak.same (by simp only [push_cast, seval, byR_nil])
  · rintro ⟨⟨l, m⟩, hp, hm⟩ X hX
    simp only at hp hm
    have a0 : l.length + 1 ≤ 4294967296 := by omega
    have a1 := max_len a0
    have a2 := room_le (b := 1) a0 (by decide)
    have hfl := byR_length l
    by_cases hlt : (127 : Int) < (m : Int)
    · have hrem := tmodN m 128
      rw [show ((128 : Nat) : Int) = 128 from rfl] at hrem
      obtain ⟨q, hq⟩ : ∃ q, q = m % 128 := ⟨_, rfl⟩
      rw [← hq] at hrem
      have hw1 : IntKind.i64.wrap ((q : Int) + 128) = ((128 + q : Nat) : Int) := wN (by omega) (by omega)
      have hw2 := wu8 (n := 128 + q)
      have hb : UInt8.ofNat (128 + q) = UInt8.ofNat (128 + m % 128) := by rw [hq]
      obtain ⟨z, hz⟩ : ∃ z, z = 128 + q := ⟨_, rfl⟩
      rw [← hz] at hw1 hw2 hb
      obtain ⟨c, hc⟩ : ∃ c, c = UInt8.ofNat z := ⟨_, rfl⟩
      rw [← hc] at hw2 hb
      have hdiv := tdivN m 128
      rw [show ((128 : Nat) : Int) = 128 from rfl] at hdiv
      have hw3 : IntKind.i64.wrap ((m : Int).tdiv 128) = ((m / 128 : Nat) : Int) := wN hdiv (by omega)
      obtain ⟨m', hm'⟩ : ∃ m', m' = m / 128 := ⟨_, rfl⟩
      rw [← hm'] at hw3
      have hsn := byR_snoc l c
      obtain ⟨l', hl'⟩ : ∃ l', l' = l ++ [c] := ⟨_, rfl⟩
      rw [← hl'] at hsn
      have hll : l'.length = l.length + 1 := by rw [hl']; simp
      have hinv : l' ++ varL m' = varL n := by
        have hv := varL_big (n := m) (by omega)
        rw [hl', hb, hm', ← hp, hv, List.append_assoc]; rfl
      have hml : l'.length + m' ≤ n := by rw [hll]; omega
      simp only [push_cast, seval, hlt, hrem, hw1, hw2, hw3, a1, a2, hsn, hfl]
      refine ⟨_, ?_, hX ⟨(l', m'), hinv, hml⟩ (by simp only; omega)⟩
      exact Weak.drop (by simp only [push_cast, seval, hll]) (by simp only [push_cast, seval, hll]) (by simp only [push_cast, seval, hll])
    · have hw2 := wu8 (n := m)
      obtain ⟨c, hc⟩ : ∃ c, c = UInt8.ofNat m := ⟨_, rfl⟩
      rw [← hc] at hw2
      have hsn := byR_snoc l c
      obtain ⟨l', hl'⟩ : ∃ l', l' = l ++ [c] := ⟨_, rfl⟩
      rw [← hl'] at hsn
      have hll : l'.length = l.length + 1 := by rw [hl']; simp
      have ht := byR_take l'
      rw [hll] at ht
      have hfin : (⟨l'.toArray⟩ : ByteArray) = varB n := by rw [hl', hc, varB, ← hp, varL_small (by omega)]
      simp only [Tryd.ntmps68, Tryd.results68, push_cast, seval, hlt, hw2, a1, a2, hsn, hfl, ht, hfin]
end Go.Proofs.YtennhlaibefacaaDoor

