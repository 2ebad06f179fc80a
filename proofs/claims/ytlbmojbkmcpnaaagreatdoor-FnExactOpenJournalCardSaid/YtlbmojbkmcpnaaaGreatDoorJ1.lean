/- Entries, frames: what ReadJournal rests on. -/
import Derived.Test.YtlbmojbkmcpnaaaGreatDoorTy
import Derived.Test.YtlbmojbkmcpnaaaGreatDoorRxIV
namespace Go.Proofs.YtlbmojbkmcpnaaaGreatDoor
open Go.RowKit Go.Rx
set_option linter.unusedSimpArgs false
set_option maxRecDepth 100000

abbrev i64 (n : Int) : X := .one (.v (.int .i64 n))
abbrev bo (b : Bool) : X := .one (.v (.bool b))
abbrev st (s : ByteArray) : X := .one (.v (.string s))
abbrev u32 (n : Nat) : X := .one (.v (.int .u32 n))
abbrev bad : V := .x (.one .bad)
theorem mo : Tryz.prog.follows .mixedOrders = true := by kernel_rfl

theorem inRange_ok (n a b : Int) : PureFn Tryz.prog 71 [i64 n, i64 a, i64 b] [bo (decide (a ≤ n) && decide (n ≤ b))] := by
  refine PureFn_of_Go Tryz.func71 rfl (by decide) mo (by decide +kernel) ?_
  simp only [Tryz.ntmps71, Tryz.results71, push_cast, seval]
  by_cases h : a ≤ n
  · simp [h, push_cast, resOk, Tryz.results71]
  · simp [h, push_cast, resOk, Tryz.results71]
theorem l01In_ok (n a b : Int) : PureFn Tryz.prog 46 [i64 n, i64 a, i64 b] [bo (decide (a ≤ n) && decide (n ≤ b))] := by
  refine PureFn_of_Go Tryz.func46 rfl (by decide) mo (by decide +kernel) ?_
  simp only [Tryz.ntmps46, Tryz.results46, push_cast, seval]
  by_cases h : a ≤ n
  · simp [h, push_cast, resOk, Tryz.results46]
  · simp [h, push_cast, resOk, Tryz.results46]

/-! ### sums -/
def crcBit (x : Nat) : Nat := if x % 2 = 1 then (x / 2) ^^^ 3558460437 else x / 2
def crcBits (x : Nat) : Nat → Nat
  | 0 => x
  | k + 1 => crcBit (crcBits x k)
def crcTo (s : ByteArray) (x : Nat) : Nat → Nat
  | 0 => x
  | i + 1 => crcBits (crcTo s x i ^^^ (bu s i).toNat) 8
theorem crcBit_lt {x : Nat} (h : x < 4294967296) : crcBit x < 4294967296 := by
  unfold crcBit
  split
  · exact Nat.xor_lt_two_pow (n := 32) (by omega) (by omega)
  · omega
theorem crcBits_lt {x : Nat} (h : x < 4294967296) (k : Nat) : crcBits x k < 4294967296 := by
  induction k with
  | zero => exact h
  | succ k ih => exact crcBit_lt ih
theorem u8_lt (b : UInt8) : b.toNat < 256 := by have := b.toNat_lt; omega
theorem crcTo_lt {s : ByteArray} {x : Nat} (h : x < 4294967296) (i : Nat) : crcTo s x i < 4294967296 := by
  induction i with
  | zero => exact h
  | succ i ih =>
    have := u8_lt (bu s i)
    exact crcBits_lt (Nat.xor_lt_two_pow (n := 32) (by omega) (by omega)) 8

theorem sumMoreI_ok (x : Nat) (hx : x < 4294967296) (s : ByteArray) (hs : s.size ≤ 140737488355328) : PureFn Tryz.prog 137 [u32 x, st s] [u32 (crcTo s x s.size)] := by
  refine PureFn_of_Go Tryz.func137 rfl (by decide) mo (by decide +kernel) ?_
  simp only [Tryz.ntmps137, Tryz.results137, push_cast, seval]
  refine Go_loop (α := {i : Nat // i ≤ s.size}) (fun i => ⟨tp 31 [(0, .x (u32 (crcTo s x i.1))), (1, .x (st s)), (5, int i.1)], 0, [], []⟩) (fun i => s.size - i.1) ⟨0, Nat.zero_le _⟩ ?_ ?_
  · exact Weak.same (by simp only [push_cast, seval, crcTo, Int.ofNat_zero])
  · rintro ⟨i, hi⟩ X hX
    by_cases hlt : (i : Int) < (s.size : Int)
    · have hi' : i < s.size := by omega
      have hb := bu_get hi'
      have hc := crcTo_lt (s := s) hx i
      have hu := u8_lt (bu s i)
      have hw : IntKind.u32.wrap ((bu s i).toNat : Int) = ((bu s i).toNat : Int) := w32 rfl (by omega)
      have hx1 := xor32 hc (show (bu s i).toNat < 4294967296 by omega)
      obtain ⟨y, hy⟩ : ∃ y, y = crcTo s x i ^^^ (bu s i).toNat := ⟨_, rfl⟩
      rw [← hy] at hx1
      have hyl : y < 4294967296 := by rw [hy]; exact Nat.xor_lt_two_pow (n := 32) (by omega) (by omega)
      simp only [push_cast, seval, hlt, hb, hw, hx1]
      refine Go_loop (α := {k : Nat // k ≤ 8}) (fun k => ⟨tp 31 [(0, .x (u32 (crcBits y k.1))), (1, .x (st s)), (5, int i), (19, int k.1)], 0, [], []⟩) (fun k => 8 - k.1) ⟨0, Nat.zero_le _⟩ ?_ ?_
      · exact Weak.same (by simp only [push_cast, seval, crcBits, Int.ofNat_zero])
      · rintro ⟨k, hk⟩ X2 hX2
        by_cases hk8 : (k : Int) < 8
        · have hz := crcBits_lt hyl k
          have hstep : crcBits y (k + 1) = crcBit (crcBits y k) := rfl
          obtain ⟨z, hz'⟩ : ∃ z, z = crcBits y k := ⟨_, rfl⟩
          rw [← hz'] at hz hstep ⊢
          have hand := and32 (b := 1) hz (by omega)
          have hand2 : ((z &&& 1 : Nat) : Int) = ((z % 2 : Nat) : Int) := by rw [show (1 : Nat) = 2 ^ 1 - 1 from rfl, Nat.and_two_pow_sub_one_eq_mod]
          rw [hand2, show ((1 : Nat) : Int) = 1 from rfl] at hand
          have hshr := shr32 z 1 (by omega)
          rw [show ((1 : Nat) : Int) = 1 from rfl, Nat.pow_one] at hshr
          have hwk : IntKind.i64.wrap ((k : Int) + 1) = ((k + 1 : Nat) : Int) := wN (by omega) (by omega)
          obtain ⟨k', hk'⟩ : ∃ k', k' = k + 1 := ⟨_, rfl⟩
          obtain ⟨h2, hh2⟩ : ∃ h2, h2 = z / 2 := ⟨_, rfl⟩
          rw [← hh2] at hshr
          rw [← hk'] at hwk hstep
          rcases Nat.mod_two_eq_zero_or_one z with e | e
          · rw [e, show ((0 : Nat) : Int) = 0 from rfl] at hand
            have hfin : crcBits y k' = h2 := by rw [hstep, crcBit, if_neg (by omega), hh2]
            simp only [push_cast, seval, hk8, hand, hshr, hwk]
            refine ⟨_, ?_, hX2 ⟨k', by omega⟩ (by simp only; omega)⟩
            exact Weak.same (by simp only [push_cast, seval, hfin])
          · rw [e, show ((1 : Nat) : Int) = 1 from rfl] at hand
            have hx2 := xor32 (a := h2) (b := 3558460437) (by omega) (by omega)
            rw [show ((3558460437 : Nat) : Int) = 3558460437 from rfl] at hx2
            have hfin : crcBits y k' = h2 ^^^ 3558460437 := by rw [hstep, crcBit, if_pos e, hh2]
            rw [← hfin] at hx2
            simp only [push_cast, seval, hk8, hand, hshr, hwk, hx2]
            refine ⟨_, ?_, hX2 ⟨k', by omega⟩ (by simp only; omega)⟩
            exact Weak.same (by simp only [push_cast, seval])
        · have hke : k = 8 := by omega
          have hwi : IntKind.i64.wrap ((i : Int) + 1) = ((i + 1 : Nat) : Int) := wN (by omega) (by omega)
          have hfin : crcTo s x (i + 1) = crcBits y k := by rw [hy, hke]; rfl
          obtain ⟨i', hi1⟩ : ∃ i', i' = i + 1 := ⟨_, rfl⟩
          rw [← hi1] at hwi hfin
          simp only [push_cast, seval, hk8, hwi]
          refine ⟨_, ?_, hX ⟨i', by omega⟩ (by simp only; omega)⟩
          exact Weak.same (by simp only [push_cast, seval, hfin])
    · obtain rfl : i = s.size := by omega
      simp only [Tryz.ntmps137, Tryz.results137, push_cast, seval, hlt]

theorem sumMoreS_ok (x : Nat) (hx : x < 4294967296) (s : ByteArray) (hs : s.size ≤ 140737488355328) : PureFn Tryz.prog 123 [u32 x, st s] [u32 (crcTo s x s.size)] := by
  refine PureFn_of_Go Tryz.func123 rfl (by decide) mo (by decide +kernel) ?_
  simp only [Tryz.ntmps123, Tryz.results123, push_cast, seval]
  refine Go_loop (α := {i : Nat // i ≤ s.size}) (fun i => ⟨tp 33 [(0, .x (u32 (crcTo s x i.1))), (1, .x (st s)), (5, int i.1)], 0, [], []⟩) (fun i => s.size - i.1) ⟨0, Nat.zero_le _⟩ ?_ ?_
  · exact Weak.same (by simp only [push_cast, seval, crcTo, Int.ofNat_zero])
  · rintro ⟨i, hi⟩ X hX
    by_cases hlt : (i : Int) < (s.size : Int)
    · have hi' : i < s.size := by omega
      have hb := bu_get hi'
      have hc := crcTo_lt (s := s) hx i
      have hu := u8_lt (bu s i)
      have hw : IntKind.u32.wrap ((bu s i).toNat : Int) = ((bu s i).toNat : Int) := w32 rfl (by omega)
      have hx1 := xor32 hc (show (bu s i).toNat < 4294967296 by omega)
      obtain ⟨y, hy⟩ : ∃ y, y = crcTo s x i ^^^ (bu s i).toNat := ⟨_, rfl⟩
      rw [← hy] at hx1
      have hyl : y < 4294967296 := by rw [hy]; exact Nat.xor_lt_two_pow (n := 32) (by omega) (by omega)
      simp only [push_cast, seval, hlt, hb, hw, hx1]
      refine Go_loop (α := {k : Nat // k ≤ 8}) (fun k => ⟨tp 33 [(0, .x (u32 (crcBits y k.1))), (1, .x (st s)), (5, int i), (6, int k.1)], 0, [], []⟩) (fun k => 8 - k.1) ⟨0, Nat.zero_le _⟩ ?_ ?_
      · exact Weak.same (by simp only [push_cast, seval, crcBits, Int.ofNat_zero])
      · rintro ⟨k, hk⟩ X2 hX2
        by_cases hk8 : (k : Int) < 8
        · have hz := crcBits_lt hyl k
          have hstep : crcBits y (k + 1) = crcBit (crcBits y k) := rfl
          obtain ⟨z, hz'⟩ : ∃ z, z = crcBits y k := ⟨_, rfl⟩
          rw [← hz'] at hz hstep ⊢
          have hrem := tmodN z 2
          rw [show ((2 : Nat) : Int) = 2 from rfl] at hrem
          have hwk : IntKind.i64.wrap ((k : Int) + 1) = ((k + 1 : Nat) : Int) := wN (by omega) (by omega)
          obtain ⟨k', hk'⟩ : ∃ k', k' = k + 1 := ⟨_, rfl⟩
          obtain ⟨h2, hh2⟩ : ∃ h2, h2 = z / 2 := ⟨_, rfl⟩
          have hq := tdivN z 2
          rw [show ((2 : Nat) : Int) = 2 from rfl, ← hh2] at hq
          have hwq : IntKind.u32.wrap ((z : Int).tdiv 2) = (h2 : Int) := by rw [hq]; exact w32 rfl (by omega)
          rw [← hk'] at hwk hstep
          rcases Nat.mod_two_eq_zero_or_one z with e | e
          · rw [e, show ((0 : Nat) : Int) = 0 from rfl] at hrem
            have hfin : crcBits y k' = h2 := by rw [hstep, crcBit, if_neg (by omega), hh2]
            simp only [push_cast, seval, hk8, hrem, hwq, hwk]
            refine ⟨_, ?_, hX2 ⟨k', by omega⟩ (by simp only; omega)⟩
            exact Weak.same (by simp only [push_cast, seval, hfin])
          · rw [e, show ((1 : Nat) : Int) = 1 from rfl] at hrem
            have hx2 := xor32 (a := h2) (b := 3558460437) (by omega) (by omega)
            rw [show ((3558460437 : Nat) : Int) = 3558460437 from rfl] at hx2
            have hfin : crcBits y k' = h2 ^^^ 3558460437 := by rw [hstep, crcBit, if_pos e, hh2]
            rw [← hfin] at hx2
            simp only [push_cast, seval, hk8, hrem, hwq, hwk, hx2]
            refine ⟨_, ?_, hX2 ⟨k', by omega⟩ (by simp only; omega)⟩
            exact Weak.same (by simp only [push_cast, seval])
        · have hke : k = 8 := by omega
          have hwi : IntKind.i64.wrap ((i : Int) + 1) = ((i + 1 : Nat) : Int) := wN (by omega) (by omega)
          have hfin : crcTo s x (i + 1) = crcBits y k := by rw [hy, hke]; rfl
          obtain ⟨i', hi1⟩ : ∃ i', i' = i + 1 := ⟨_, rfl⟩
          rw [← hi1] at hwi hfin
          simp only [push_cast, seval, hk8, hwi]
          refine ⟨_, ?_, hX ⟨i', by omega⟩ (by simp only; omega)⟩
          exact Weak.same (by simp only [push_cast, seval, hfin])
    · obtain rfl : i = s.size := by omega
      simp only [Tryz.ntmps123, Tryz.results123, push_cast, seval, hlt]

def sumN (s : ByteArray) : Nat := crcTo s 4294967295 s.size
theorem sumN_lt (s : ByteArray) : sumN s < 4294967296 := crcTo_lt (by omega) _
theorem sumOfI_ok (s : ByteArray) (hs : s.size ≤ 140737488355328) : PureFn Tryz.prog 131 [st s] [u32 (sumN s)] := by
  refine PureFn_of_Go Tryz.func131 rfl (by decide) mo (by decide +kernel) ?_
  simp only [Tryz.ntmps131, Tryz.results131, push_cast, seval]
  refine GoL_call rfl rfl (sumMoreI_ok 4294967295 (by omega) s hs) rfl rfl ?_
  simp only [Tryz.ntmps131, Tryz.results131, push_cast, seval, sumN]
theorem sumOfS_ok (s : ByteArray) (hs : s.size ≤ 140737488355328) : PureFn Tryz.prog 104 [st s] [u32 (sumN s)] := by
  refine PureFn_of_Go Tryz.func104 rfl (by decide) mo (by decide +kernel) ?_
  simp only [Tryz.ntmps104, Tryz.results104, push_cast, seval]
  refine GoL_call rfl rfl (sumMoreS_ok 4294967295 (by omega) s hs) rfl rfl ?_
  simp only [Tryz.ntmps104, Tryz.results104, push_cast, seval, sumN]
def four (x : Nat) : ByteArray := ⟨[UInt8.ofNat (x / 2 ^ 24), UInt8.ofNat (x / 2 ^ 16), UInt8.ofNat (x / 2 ^ 8), UInt8.ofNat x].toArray⟩
theorem four_size (x : Nat) : (four x).size = 4 := rfl
theorem l02Four_ok (x : Nat) : PureFn Tryz.prog 103 [u32 x] [st (four x)] := by
  refine PureFn_of_Go Tryz.func103 rfl (by decide) mo (by decide +kernel) ?_
  have h1 := shr32 x 24 (by omega)
  have h2 := shr32 x 16 (by omega)
  have h3 := shr32 x 8 (by omega)
  rw [show ((24 : Nat) : Int) = 24 from rfl] at h1
  rw [show ((16 : Nat) : Int) = 16 from rfl] at h2
  rw [show ((8 : Nat) : Int) = 8 from rfl] at h3
  have w0 := wu8 (n := x)
  have w1 := wu8 (n := x / 2 ^ 24)
  have w2 := wu8 (n := x / 2 ^ 16)
  have w3 := wu8 (n := x / 2 ^ 8)
  have hf := str_natsOf [UInt8.ofNat (x / 2 ^ 24), UInt8.ofNat (x / 2 ^ 16), UInt8.ofNat (x / 2 ^ 8), UInt8.ofNat x]
  change _ = four x at hf
  generalize x / 2 ^ 24 = a1 at h1 w1 hf
  generalize x / 2 ^ 16 = a2 at h2 w2 hf
  generalize x / 2 ^ 8 = a3 at h3 w3 hf
  generalize UInt8.ofNat a1 = b1 at w1 hf
  generalize UInt8.ofNat a2 = b2 at w2 hf
  generalize UInt8.ofNat a3 = b3 at w3 hf
  generalize UInt8.ofNat x = b0 at w0 hf
  simp only [natsOf, List.map_cons, List.map_nil] at hf
  simp only [Tryz.ntmps103, Tryz.results103, push_cast, seval, h1, h2, h3, w0, w1, w2, w3, hf]
theorem sumText_ok (s : ByteArray) (hs : s.size ≤ 140737488355328) : PureFn Tryz.prog 118 [st s] [st (four (sumN s))] := by
  refine PureFn_of_Go Tryz.func118 rfl (by decide) mo (by decide +kernel) ?_
  simp only [Tryz.ntmps118, Tryz.results118, push_cast, seval]
  refine GoL_call rfl rfl (sumOfI_ok s hs) rfl rfl ?_
  generalize sumN s = x
  have h1 := shr32 x 24 (by omega)
  have h2 := shr32 x 16 (by omega)
  have h3 := shr32 x 8 (by omega)
  rw [show ((24 : Nat) : Int) = 24 from rfl] at h1
  rw [show ((16 : Nat) : Int) = 16 from rfl] at h2
  rw [show ((8 : Nat) : Int) = 8 from rfl] at h3
  have w0 := wu8 (n := x)
  have w1 := wu8 (n := x / 2 ^ 24)
  have w2 := wu8 (n := x / 2 ^ 16)
  have w3 := wu8 (n := x / 2 ^ 8)
  have hf := str_natsOf [UInt8.ofNat (x / 2 ^ 24), UInt8.ofNat (x / 2 ^ 16), UInt8.ofNat (x / 2 ^ 8), UInt8.ofNat x]
  change _ = four x at hf
  generalize x / 2 ^ 24 = a1 at h1 w1 hf
  generalize x / 2 ^ 16 = a2 at h2 w2 hf
  generalize x / 2 ^ 8 = a3 at h3 w3 hf
  generalize UInt8.ofNat a1 = b1 at w1 hf
  generalize UInt8.ofNat a2 = b2 at w2 hf
  generalize UInt8.ofNat a3 = b3 at w3 hf
  generalize UInt8.ofNat x = b0 at w0 hf
  simp only [natsOf, List.map_cons, List.map_nil] at hf
  simp only [Tryz.ntmps118, Tryz.results118, push_cast, seval, h1, h2, h3, w0, w1, w2, w3, hf]

/-! ### numbers in bytes -/
def varL (n : Nat) : List UInt8 := if n ≤ 127 then [UInt8.ofNat n] else UInt8.ofNat (128 + n % 128) :: varL (n / 128)
termination_by n
decreasing_by omega
def varB (n : Nat) : ByteArray := ⟨(varL n).toArray⟩
theorem varL_small {n : Nat} (h : n ≤ 127) : varL n = [UInt8.ofNat n] := by rw [varL, if_pos h]
theorem varL_big {n : Nat} (h : ¬ n ≤ 127) : varL n = UInt8.ofNat (128 + n % 128) :: varL (n / 128) := by rw [varL, if_neg h]

theorem varText_ok (n : Nat) (hn : n ≤ 4294967290) : PureFn Tryz.prog 92 [i64 n] [st (varB n)] := by
  refine PureFn_of_Go Tryz.func92 rfl (by decide) mo (by decide +kernel) ?_
  simp only [Tryz.ntmps92, Tryz.results92, push_cast, seval]
  refine Go_loop (α := {p : List UInt8 × Nat // p.1 ++ varL p.2 = varL n ∧ p.1.length + p.2 ≤ n}) (fun p => ⟨tp 21 [(0, int p.1.2), (3, .x (.one (.rs (0, 768) [] 1 0 p.1.1.length)))], 0, [((0, 768), ⟨.sl, 1, byR p.1.1⟩)], []⟩) (fun p => p.1.2) ⟨([], n), by simp, by simp⟩ ?_ ?_
  · refine Weak.trans (Weak.nilRoot (0, 768) 1 3 rfl rfl rfl) ?_
    simp only [push_cast, seval, byR_nil]
    exact Weak.same (by simp only [push_cast, seval, byR_nil])
  · rintro ⟨⟨l, m⟩, hp, hm⟩ X hX
    simp only at hp hm
    have a0 : l.length + 1 ≤ 4294967296 := by omega
    have a1 := max_len a0
    have a2 := room_le (b := 1) a0 (by decide)
    have hfl := byR_length l
    by_cases hlt : (127 : Int) < (m : Int)
    · have hrem := tmodN m 128
      rw [show ((128 : Nat) : Int) = 128 from rfl] at hrem
      obtain ⟨q, hq⟩ : ∃ q, q = m % 128 := ⟨_, rfl⟩
      rw [← hq] at hrem
      have hw1 : IntKind.i64.wrap (128 + (q : Int)) = ((128 + q : Nat) : Int) := wN (by omega) (by omega)
      have hw2 := wu8 (n := 128 + q)
      have hb : UInt8.ofNat (128 + q) = UInt8.ofNat (128 + m % 128) := by rw [hq]
      obtain ⟨z, hz⟩ : ∃ z, z = 128 + q := ⟨_, rfl⟩
      rw [← hz] at hw1 hw2 hb
      obtain ⟨c, hc⟩ : ∃ c, c = UInt8.ofNat z := ⟨_, rfl⟩
      rw [← hc] at hw2 hb
      have hdiv := tdivN m 128
      rw [show ((128 : Nat) : Int) = 128 from rfl] at hdiv
      have hw3 : IntKind.i64.wrap ((m : Int).tdiv 128) = ((m / 128 : Nat) : Int) := wN hdiv (by omega)
      obtain ⟨m', hm'⟩ : ∃ m', m' = m / 128 := ⟨_, rfl⟩
      rw [← hm'] at hw3
      have hsn := byR_snoc l c
      obtain ⟨l', hl'⟩ : ∃ l', l' = l ++ [c] := ⟨_, rfl⟩
      rw [← hl'] at hsn
      have hll : l'.length = l.length + 1 := by rw [hl']; simp
      have hinv : l' ++ varL m' = varL n := by
        have hv := varL_big (n := m) (by omega)
        rw [hl', hb, hm', ← hp, hv, List.append_assoc]; rfl
      have hml : l'.length + m' ≤ n := by rw [hll]; omega
      simp only [push_cast, seval, hlt, hrem, hw1, hw2, hw3, a1, a2, hsn, hfl]
      refine ⟨_, ?_, hX ⟨(l', m'), hinv, hml⟩ (by simp only; omega)⟩
      exact Weak.drop (by simp only [push_cast, seval, hll]) (by simp only [push_cast, seval, hll]) (by simp only [push_cast, seval, hll])
    · have hw2 := wu8 (n := m)
      obtain ⟨c, hc⟩ : ∃ c, c = UInt8.ofNat m := ⟨_, rfl⟩
      rw [← hc] at hw2
      have hsn := byR_snoc l c
      obtain ⟨l', hl'⟩ : ∃ l', l' = l ++ [c] := ⟨_, rfl⟩
      rw [← hl'] at hsn
      have hll : l'.length = l.length + 1 := by rw [hl']; simp
      have ht := byR_take l'
      rw [hll] at ht
      have hfin : (⟨l'.toArray⟩ : ByteArray) = varB n := by rw [hl', hc, varB, ← hp, varL_small (by omega)]
      simp only [Tryz.ntmps92, Tryz.results92, push_cast, seval, hlt, hw2, a1, a2, hsn, hfl, ht, hfin]
theorem l01Var_ok (n : Nat) (hn : n ≤ 4294967290) : PureFn Tryz.prog 83 [i64 n] [st (varB n)] := by
  refine PureFn_of_Go Tryz.func83 rfl (by decide) mo (by decide +kernel) ?_
  simp only [Tryz.ntmps83, Tryz.results83, push_cast, seval]
  refine Go_loop (α := {p : List UInt8 × Nat // p.1 ++ varL p.2 = varL n ∧ p.1.length + p.2 ≤ n}) (fun p => ⟨tp 22 [(0, int p.1.2), (3, .x (.one (.rs (0, 832) [] 1 0 p.1.1.length)))], 0, [((0, 832), ⟨.sl, 1, byR p.1.1⟩)], []⟩) (fun p => p.1.2) ⟨([], n), by simp, by simp⟩ ?_ ?_
  · refine Weak.trans (Weak.rename (0, 256) (0, 832) rfl rfl (by decide) rfl) ?_
    simp only [push_cast, seval, byR_nil]
    exact Weak.same (by simp only [push_cast, seval, byR_nil])
  · rintro ⟨⟨l, m⟩, hp, hm⟩ X hX
    simp only at hp hm
    have a0 : l.length + 1 ≤ 4294967296 := by omega
    have a1 := max_len a0
    have a2 := room_le (b := 1) a0 (by decide)
    have hfl := byR_length l
    by_cases hlt : (127 : Int) < (m : Int)
    · have hrem := tmodN m 128
      rw [show ((128 : Nat) : Int) = 128 from rfl] at hrem
      obtain ⟨q, hq⟩ : ∃ q, q = m % 128 := ⟨_, rfl⟩
      rw [← hq] at hrem
      have hw1 : IntKind.i64.wrap ((q : Int) + 128) = ((128 + q : Nat) : Int) := wN (by omega) (by omega)
      have hw2 := wu8 (n := 128 + q)
      have hb : UInt8.ofNat (128 + q) = UInt8.ofNat (128 + m % 128) := by rw [hq]
      obtain ⟨z, hz⟩ : ∃ z, z = 128 + q := ⟨_, rfl⟩
      rw [← hz] at hw1 hw2 hb
      obtain ⟨c, hc⟩ : ∃ c, c = UInt8.ofNat z := ⟨_, rfl⟩
      rw [← hc] at hw2 hb
      have hdiv := tdivN m 128
      rw [show ((128 : Nat) : Int) = 128 from rfl] at hdiv
      have hw3 : IntKind.i64.wrap ((m : Int).tdiv 128) = ((m / 128 : Nat) : Int) := wN hdiv (by omega)
      obtain ⟨m', hm'⟩ : ∃ m', m' = m / 128 := ⟨_, rfl⟩
      rw [← hm'] at hw3
      have hsn := byR_snoc l c
      obtain ⟨l', hl'⟩ : ∃ l', l' = l ++ [c] := ⟨_, rfl⟩
      rw [← hl'] at hsn
      have hll : l'.length = l.length + 1 := by rw [hl']; simp
      have hinv : l' ++ varL m' = varL n := by
        have hv := varL_big (n := m) (by omega)
        rw [hl', hb, hm', ← hp, hv, List.append_assoc]; rfl
      have hml : l'.length + m' ≤ n := by rw [hll]; omega
      simp only [push_cast, seval, hlt, hrem, hw1, hw2, hw3, a1, a2, hsn, hfl]
      refine ⟨_, ?_, hX ⟨(l', m'), hinv, hml⟩ (by simp only; omega)⟩
      exact Weak.drop (by simp only [push_cast, seval, hll]) (by simp only [push_cast, seval, hll]) (by simp only [push_cast, seval, hll])
    · have hw2 := wu8 (n := m)
      obtain ⟨c, hc⟩ : ∃ c, c = UInt8.ofNat m := ⟨_, rfl⟩
      rw [← hc] at hw2
      have hsn := byR_snoc l c
      obtain ⟨l', hl'⟩ : ∃ l', l' = l ++ [c] := ⟨_, rfl⟩
      rw [← hl'] at hsn
      have hll : l'.length = l.length + 1 := by rw [hl']; simp
      have ht := byR_take l'
      rw [hll] at ht
      have hfin : (⟨l'.toArray⟩ : ByteArray) = varB n := by rw [hl', hc, varB, ← hp, varL_small (by omega)]
      simp only [Tryz.ntmps83, Tryz.results83, push_cast, seval, hlt, hw2, a1, a2, hsn, hfl, ht, hfin]


def rvL (s : ByteArray) (a : Nat) : Nat → Nat → Nat → Nat → Option (Nat × Nat)
  | 0, _, _, _ => none
  | k + 1, i, n, u => if a + i < s.size then
      if 128 ≤ (bu s (a + i)).toNat then rvL s a k (i + 1) (n + (bu s (a + i)).toNat % 128 * u) (u * 128)
      else if ((bu s (a + i)).toNat = 0 ∧ 0 < i) ∨ 1000000000 < n + (bu s (a + i)).toNat % 128 * u then none
      else some (n + (bu s (a + i)).toNat % 128 * u, a + i + 1)
    else none
def rvO (s : ByteArray) (at_ : Int) : Option (Nat × Nat) := if 0 ≤ at_ ∧ at_ ≤ s.size then rvL s at_.toNat 5 0 0 1 else none
def rvX : Option (Nat × Nat) → List X
  | none => [i64 0, i64 0, bo false]
  | some (n, x) => [i64 n, i64 x, bo true]
theorem rvL_out {s : ByteArray} {a k i n u : Nat} (h : ¬ a + i < s.size) : rvL s a k i n u = none := by
  cases k with
  | zero => rfl
  | succ k => rw [rvL, if_neg h]
theorem rvL_go {s : ByteArray} {a k i n u : Nat} (h : a + i < s.size) (hb : 128 ≤ (bu s (a + i)).toNat) : rvL s a (k + 1) i n u = rvL s a k (i + 1) (n + (bu s (a + i)).toNat % 128 * u) (u * 128) := by
  rw [rvL, if_pos h, if_pos hb]
theorem rvL_no {s : ByteArray} {a k i n u : Nat} (h : a + i < s.size) (hb : ¬ 128 ≤ (bu s (a + i)).toNat) (hc : ((bu s (a + i)).toNat = 0 ∧ 0 < i) ∨ 1000000000 < n + (bu s (a + i)).toNat % 128 * u) : rvL s a (k + 1) i n u = none := by
  rw [rvL, if_pos h, if_neg hb, if_pos hc]
theorem rvL_yes {s : ByteArray} {a k i n u : Nat} (h : a + i < s.size) (hb : ¬ 128 ≤ (bu s (a + i)).toNat) (hc : ¬ (((bu s (a + i)).toNat = 0 ∧ 0 < i) ∨ 1000000000 < n + (bu s (a + i)).toNat % 128 * u)) : rvL s a (k + 1) i n u = some (n + (bu s (a + i)).toNat % 128 * u, a + i + 1) := by
  rw [rvL, if_pos h, if_neg hb, if_neg hc]
theorem rvL_bound {s : ByteArray} {a : Nat} : ∀ {k i n u m x : Nat}, rvL s a k i n u = some (m, x) → m ≤ 1000000000 ∧ a < x ∧ x ≤ s.size
  | 0, i, n, u, m, x, h => by cases h
  | k + 1, i, n, u, m, x, h => by
    by_cases h1 : a + i < s.size
    · by_cases h2 : 128 ≤ (bu s (a + i)).toNat
      · rw [rvL_go h1 h2] at h; exact rvL_bound h
      · by_cases h3 : ((bu s (a + i)).toNat = 0 ∧ 0 < i) ∨ 1000000000 < n + (bu s (a + i)).toNat % 128 * u
        · rw [rvL_no h1 h2 h3] at h; cases h
        · rw [rvL_yes h1 h2 h3] at h
          obtain ⟨rfl, rfl⟩ := Prod.mk.inj (Option.some.inj h)
          exact ⟨by omega, by omega, by omega⟩
    · rw [rvL_out h1] at h; cases h
theorem rvO_bound {s : ByteArray} {at_ : Int} {m x : Nat} (h : rvO s at_ = some (m, x)) : m ≤ 1000000000 ∧ 0 ≤ at_ ∧ at_ < x ∧ x ≤ s.size := by
  unfold rvO at h
  split at h
  · rename_i hc
    have := rvL_bound h
    omega
  · cases h
theorem pow128 {i : Nat} (h : i < 5) : 128 ^ i ≤ 268435456 := Nat.le_trans (Nat.pow_le_pow_right (by decide) (show i ≤ 4 by omega)) (by decide)

theorem readVarI_ok (s : ByteArray) (hs : s.size ≤ 140737488355328) (at_ : Int) : PureFn Tryz.prog 127 [st s, i64 at_] (rvX (rvO s at_)) := by
  refine PureFn_of_Go Tryz.func127 rfl (by decide) mo (by decide +kernel) ?_
  by_cases h0 : at_ < 0
  · have hr : rvO s at_ = none := if_neg (by omega)
    simp only [Tryz.ntmps127, Tryz.results127, push_cast, seval, h0, hr, rvX]
  by_cases h1 : (s.size : Int) < at_
  · have hr : rvO s at_ = none := if_neg (by omega)
    simp only [Tryz.ntmps127, Tryz.results127, push_cast, seval, h0, h1, hr, rvX]
  obtain ⟨a, rfl⟩ := Int.eq_ofNat_of_zero_le (show 0 ≤ at_ by omega)
  have hrv : rvO s a = rvL s a 5 0 0 1 := if_pos (by omega)
  obtain ⟨r, hr⟩ : ∃ r, r = rvO s a := ⟨_, rfl⟩
  rw [← hr] at hrv ⊢
  simp only [Tryz.ntmps127, Tryz.results127, push_cast, seval, h0, h1]
  refine Go_loop (α := {p : Nat × Nat × Nat // p.2.2 = 128 ^ p.1 ∧ p.2.1 < p.2.2 ∧ p.1 ≤ 5 ∧ r = rvL s a (5 - p.1) p.1 p.2.1 p.2.2})
    (fun p => ⟨tp 62 [(0, .x (st s)), (1, int a), (7, int p.1.2.1), (8, int p.1.2.2), (9, int p.1.1)], 0, [], []⟩) (fun p => 5 - p.1.1) ⟨(0, 0, 1), rfl, by simp, by simp, hrv⟩ ?_ ?_
  · exact Weak.same (by simp only [push_cast, seval, Int.ofNat_zero, Int.ofNat_one])
  · rintro ⟨⟨i, n, u⟩, hu, hnu, hi, hri⟩ X hX
    simp only at hu hnu hi hri
    by_cases c5 : (i : Int) < 5
    · have hu4 : u ≤ 268435456 := by rw [hu]; exact pow128 (by omega)
      obtain ⟨k, hk⟩ : ∃ k, 5 - i = k + 1 := ⟨4 - i, by omega⟩
      rw [hk] at hri
      obtain ⟨j, hj⟩ : ∃ j, j = a + i := ⟨_, rfl⟩
      have wa : IntKind.i64.wrap ((a : Int) + (i : Int)) = (j : Int) := wN (by omega) (by omega)
      by_cases c1 : (j : Int) < (s.size : Int)
      · have hjs : j < s.size := by omega
        have hb := bu_get hjs
        have hb256 := u8_lt (bu s j)
        obtain ⟨b, hbb⟩ : ∃ b, b = (bu s j).toNat := ⟨_, rfl⟩
        rw [← hbb] at hb256
        have hcv : IntKind.i64.wrap ((bu s j).toNat : Int) = (b : Int) := wN (by omega) (by omega)
        have hrem := tmodN b 128
        rw [show ((128 : Nat) : Int) = 128 from rfl] at hrem
        obtain ⟨q, hq⟩ : ∃ q, q = b % 128 := ⟨_, rfl⟩
        rw [← hq] at hrem
        have hqu : q * u ≤ 127 * u := Nat.mul_le_mul_right _ (by omega)
        have hw1 : IntKind.i64.wrap ((q : Int) * (u : Int)) = ((q * u : Nat) : Int) := wN (by rw [Int.natCast_mul]) (by omega)
        obtain ⟨m, hm⟩ : ∃ m, m = q * u := ⟨_, rfl⟩
        rw [← hm] at hw1 hqu
        have hw2 : IntKind.i64.wrap ((n : Int) + (m : Int)) = ((n + m : Nat) : Int) := wN (by rw [Int.natCast_add]) (by omega)
        obtain ⟨n', hn'⟩ : ∃ n', n' = n + m := ⟨_, rfl⟩
        rw [← hn'] at hw2
        have hw3 : IntKind.i64.wrap ((u : Int) * 128) = ((u * 128 : Nat) : Int) := wN (by rw [Int.natCast_mul]; rfl) (by omega)
        obtain ⟨u', hu'⟩ : ∃ u', u' = u * 128 := ⟨_, rfl⟩
        rw [← hu'] at hw3
        have hw4 : IntKind.i64.wrap ((i : Int) + 1) = ((i + 1 : Nat) : Int) := wN (by omega) (by omega)
        obtain ⟨i', hi'⟩ : ∃ i', i' = i + 1 := ⟨_, rfl⟩
        rw [← hi'] at hw4
        have hw5 : IntKind.i64.wrap ((j : Int) + 1) = ((j + 1 : Nat) : Int) := wN (by omega) (by omega)
        obtain ⟨j', hj'⟩ : ∃ j', j' = j + 1 := ⟨_, rfl⟩
        rw [← hj'] at hw5
        have hnn : n + (bu s (a + i)).toNat % 128 * u = n' := by rw [hn', hm, hq, hbb, hj]
        have hbe : (bu s (a + i)).toNat = b := by rw [hbb, hj]
        by_cases c2 : (128 : Int) ≤ (b : Int)
        · have hgo := rvL_go (k := k) (n := n) (u := u) (show a + i < s.size by omega) (by rw [hbe]; omega)
          rw [← hri, hnn, ← hu', ← hi', show k = 5 - i' by omega] at hgo
          simp only [push_cast, seval, c5, wa, c1, hb, hcv, hrem, hw1, hw2, hw3, c2, hw4]
          refine ⟨_, ?_, hX ⟨(i', n', u'), ?_, ?_, ?_, hgo⟩ (by simp only; omega)⟩
          · exact Weak.same (by simp only [push_cast, seval])
          · show u' = 128 ^ i'; rw [hi', Nat.pow_succ, hu', hu]
          · show n' < u'; omega
          · show i' ≤ 5; omega
        · have hbl : ¬ 128 ≤ (bu s (a + i)).toNat := by rw [hbe]; omega
          cases c3 : decide ((b : Int) = 0) with
          | true =>
            have e3 := of_decide_eq_true c3
            by_cases c4 : (0 : Int) < (i : Int)
            · have hno := rvL_no (k := k) (n := n) (u := u) (show a + i < s.size by omega) hbl (.inl ⟨by omega, by omega⟩)
              rw [← hri] at hno
              simp only [Tryz.ntmps127, Tryz.results127, push_cast, seval, c5, wa, c1, hb, hcv, hrem, hw1, hw2, hw3, c2, c3, c4, hno, rvX]
            · by_cases c6 : (1000000000 : Int) < (n' : Int)
              · have hno := rvL_no (k := k) (n := n) (u := u) (show a + i < s.size by omega) hbl (.inr (by rw [hnn]; omega))
                rw [← hri] at hno
                simp only [Tryz.ntmps127, Tryz.results127, push_cast, seval, c5, wa, c1, hb, hcv, hrem, hw1, hw2, hw3, c2, c3, c4, c6, hno, rvX]
              · have hyes := rvL_yes (k := k) (n := n) (u := u) (show a + i < s.size by omega) hbl (by rw [hnn]; omega)
                rw [← hri, hnn, ← hj, ← hj'] at hyes
                simp only [Tryz.ntmps127, Tryz.results127, push_cast, seval, c5, wa, c1, hb, hcv, hrem, hw1, hw2, hw3, c2, c3, c4, c6, hw5, hyes, rvX]
          | false =>
            have e3 := of_decide_eq_false c3
            by_cases c6 : (1000000000 : Int) < (n' : Int)
            · have hno := rvL_no (k := k) (n := n) (u := u) (show a + i < s.size by omega) hbl (.inr (by rw [hnn]; omega))
              rw [← hri] at hno
              simp only [Tryz.ntmps127, Tryz.results127, push_cast, seval, c5, wa, c1, hb, hcv, hrem, hw1, hw2, hw3, c2, c3, c6, hno, rvX]
            · have hyes := rvL_yes (k := k) (n := n) (u := u) (show a + i < s.size by omega) hbl (by rw [hnn]; omega)
              rw [← hri, hnn, ← hj, ← hj'] at hyes
              simp only [Tryz.ntmps127, Tryz.results127, push_cast, seval, c5, wa, c1, hb, hcv, hrem, hw1, hw2, hw3, c2, c3, c6, hw5, hyes, rvX]
      · have hno := rvL_out (k := k + 1) (n := n) (u := u) (show ¬ a + i < s.size by omega)
        rw [← hri] at hno
        simp only [Tryz.ntmps127, Tryz.results127, push_cast, seval, c5, wa, c1, hno, rvX]
    · have hno : r = none := by rw [hri, show 5 - i = 0 by omega]; rfl
      simp only [Tryz.ntmps127, Tryz.results127, push_cast, seval, c5, hno, rvX]


def seg (s : ByteArray) (a k : Nat) : List UInt8 := (s.data.toList.drop a).take k
theorem seg_zero (s : ByteArray) (a : Nat) : seg s a 0 = [] := by simp [seg]
theorem seg_succ {s : ByteArray} {a k : Nat} (h : a + k < s.size) : seg s a (k + 1) = seg s a k ++ [bu s (a + k)] := by
  unfold seg
  have h2 : a + k < s.data.toList.length := by rw [Array.length_toList]; exact h
  rw [List.take_add_one, List.getElem?_drop, List.getElem?_eq_getElem h2]
  simp only [bu, List.getD_eq_getElem?_getD, List.getElem?_eq_getElem h2, Option.getD_some, Option.toList_some]
theorem extract_list (s : ByteArray) (a b : Nat) : (s.extract a b).data.toList = seg s a (b - a) := by
  rw [ByteArray.data_extract, Array.toList_extract, List.extract_eq_take_drop]; rfl
theorem bytes_ext {x y : ByteArray} (h : x.data.toList = y.data.toList) : x = y := by
  cases x; cases y; simp only at h; congr; exact Array.toList_inj.1 h
theorem varB_list (n : Nat) : (varB n).data.toList = varL n := rfl
theorem varB_seg (s : ByteArray) (n a b : Nat) : varB n = s.extract a b ↔ varL n = seg s a (b - a) := by
  rw [← extract_list, ← varB_list]
  exact ⟨fun h => by rw [h], bytes_ext⟩

def val (l : List UInt8) : Nat := l.foldr (fun b v => b.toNat % 128 + 128 * v) 0
theorem val_snoc (l : List UInt8) (b : UInt8) : val (l ++ [b]) = val l + b.toNat % 128 * 128 ^ l.length := by
  induction l with
  | nil => simp [val]
  | cons c l ih =>
    simp only [val, List.cons_append, List.foldr_cons, List.length_cons] at ih ⊢
    rw [ih, Nat.pow_succ, Nat.mul_add, Nat.add_assoc]
    congr 2
    rw [Nat.mul_left_comm, Nat.mul_comm 128]
theorem varL_last : ∀ (n : Nat) (l : List UInt8) (b : UInt8), l ≠ [] → varL n = l ++ [b] → b.toNat ≠ 0 := by
  intro n
  induction n using Nat.strongRecOn with
  | ind n ih =>
    intro l b hl h
    by_cases hn : n ≤ 127
    · rw [varL_small hn] at h
      cases l with
      | nil => exact absurd rfl hl
      | cons c l => simp at h
    · rw [varL_big hn] at h
      cases l with
      | nil => exact absurd rfl hl
      | cons c l =>
        simp only [List.cons_append, List.cons.injEq] at h
        cases l with
        | cons d l => exact ih (n / 128) (by omega) (d :: l) b (by simp) h.2
        | nil =>
          by_cases hn2 : n / 128 ≤ 127
          · rw [varL_small hn2] at h
            have := h.2
            simp only [List.nil_append, List.cons.injEq, and_true] at this
            rw [← this, UInt8.toNat_ofNat']
            omega
          · rw [varL_big hn2] at h
            have := congrArg List.length h.2
            simp only [List.length_cons, List.nil_append, List.length_nil] at this
            rw [varL] at this
            split at this <;> simp at this
theorem val_lt : ∀ (l : List UInt8), val l < 128 ^ l.length
  | [] => by simp [val]
  | b :: l => by
    have := val_lt l
    simp only [val, List.foldr_cons, List.length_cons, Nat.pow_succ] at this ⊢
    omega
theorem canon_yes : ∀ (l : List UInt8) (b : UInt8), (∀ p ∈ l, 128 ≤ p.toNat) → b.toNat < 128 → ¬ (b.toNat = 0 ∧ 0 < l.length) → varL (val (l ++ [b])) = l ++ [b]
  | [], b, _, hb, _ => by
    have e : val ([] ++ [b]) = b.toNat := by simp [val]; omega
    rw [e, varL_small (by omega)]; simp
  | p :: l, b, hp, hb, hn => by
    have hb0 : b.toNat ≠ 0 := fun e => hn ⟨e, by simp⟩
    have ih := canon_yes l b (fun q hq => hp q (List.mem_cons_of_mem _ hq)) hb (fun h => hb0 h.1)
    have h1 := hp p (List.mem_cons_self ..)
    have e : val (p :: l ++ [b]) = p.toNat % 128 + 128 * val (l ++ [b]) := rfl
    have hv : 0 < val (l ++ [b]) := by
      rw [val_snoc]
      have h2 : 0 < b.toNat % 128 * 128 ^ l.length := Nat.mul_pos (by omega) (Nat.pow_pos (by decide))
      omega
    have hlt := u8_lt p
    rw [e, varL_big (by omega), show (p.toNat % 128 + 128 * val (l ++ [b])) / 128 = val (l ++ [b]) by omega, ih,
      show 128 + (p.toNat % 128 + 128 * val (l ++ [b])) % 128 = p.toNat by omega]
    simp
theorem canon {l : List UInt8} {b : UInt8} (hp : ∀ p ∈ l, 128 ≤ p.toNat) (hb : b.toNat < 128) : varL (val (l ++ [b])) = l ++ [b] ↔ ¬ (b.toNat = 0 ∧ 0 < l.length) := by
  refine ⟨fun h hc => ?_, canon_yes l b hp hb⟩
  exact varL_last _ l b (fun e => by rw [e] at hc; exact absurd hc.2 (by simp)) h hc.1

theorem readVarS_ok (s : ByteArray) (hs : s.size ≤ 140737488355328) (at_ : Int) (hat : at_ ≤ 140737488355328) : PureFn Tryz.prog 97 [st s, i64 at_] (rvX (rvO s at_)) := by
  refine PureFn_of_Go Tryz.func97 rfl (by decide) mo (by decide +kernel) ?_
  have kin := l01In_ok at_ 0 s.size
  simp only [Tryz.ntmps97, Tryz.results97, push_cast, seval]
  refine GoL_call rfl rfl kin rfl rfl ?_
  cases hin : (decide (0 ≤ at_) && decide (at_ ≤ (s.size : Int))) with
  | false =>
    have hr : rvO s at_ = none := if_neg (by simpa using hin)
    simp only [Tryz.ntmps97, Tryz.results97, push_cast, seval, hin, hr, rvX]
  | true =>
  have hin' : 0 ≤ at_ ∧ at_ ≤ s.size := by simpa using hin
  obtain ⟨a, rfl⟩ := Int.eq_ofNat_of_zero_le hin'.1
  have hrv : rvO s a = rvL s a 5 0 0 1 := if_pos hin'
  obtain ⟨r, hr⟩ : ∃ r, r = rvO s a := ⟨_, rfl⟩
  rw [← hr] at hrv ⊢
  simp only [Tryz.ntmps97, Tryz.results97, push_cast, seval, hin]
  refine Go_loop (α := {p : Nat × Nat × Nat // ∃ i, p.1 = a + i ∧ p.2.2 = 128 ^ i ∧ i ≤ 5 ∧ a + i ≤ s.size ∧ r = rvL s a (5 - i) i p.2.1 p.2.2 ∧ p.2.1 = val (seg s a i) ∧ (seg s a i).length = i ∧ ∀ q ∈ seg s a i, 128 ≤ q.toNat})
    (fun p => ⟨tp 58 [(0, .x (st s)), (1, int a), (7, int p.1.2.1), (8, int p.1.2.2), (9, int p.1.1)], 0, [], []⟩) (fun p => a + 5 - p.1.1) ⟨(a, 0, 1), 0, rfl, rfl, by simp, by omega, hrv, by simp [seg, val], by simp [seg], by simp [seg]⟩ ?_ ?_
  · exact Weak.same (by simp only [push_cast, seval, Int.ofNat_zero, Int.ofNat_one])
  · rintro ⟨⟨j, n, u⟩, i, hj, hu, hi, his, hri, hval, hlen, hall⟩ X hX
    simp only at hj hu hi hri hval
    have hnu : n < u := by have := val_lt (seg s a i); rw [hval, hu]; rw [hlen] at this; exact this
    have wa5 : IntKind.i64.wrap ((a : Int) + 5) = ((a + 5 : Nat) : Int) := wN (by rw [Int.natCast_add]; rfl) (by omega)
    obtain ⟨a5, ha5⟩ : ∃ a5, a5 = a + 5 := ⟨_, rfl⟩
    rw [← ha5] at wa5
    by_cases c1 : (j : Int) < (s.size : Int)
    · by_cases c5 : (j : Int) < (a5 : Int)
      · have hu4 : u ≤ 268435456 := by rw [hu]; exact pow128 (by omega)
        obtain ⟨k, hk⟩ : ∃ k, 5 - i = k + 1 := ⟨4 - i, by omega⟩
        rw [hk] at hri
        have hjs : j < s.size := by omega
        have hb := bu_get hjs
        have hb256 := u8_lt (bu s j)
        obtain ⟨b, hbb⟩ : ∃ b, b = (bu s j).toNat := ⟨_, rfl⟩
        rw [← hbb] at hb256
        have hcv : IntKind.i64.wrap ((bu s j).toNat : Int) = (b : Int) := wN (by omega) (by omega)
        have hrem := tmodN b 128
        rw [show ((128 : Nat) : Int) = 128 from rfl] at hrem
        obtain ⟨q, hq⟩ : ∃ q, q = b % 128 := ⟨_, rfl⟩
        rw [← hq] at hrem
        have hqu : q * u ≤ 127 * u := Nat.mul_le_mul_right _ (by omega)
        have hw1 : IntKind.i64.wrap ((q : Int) * (u : Int)) = ((q * u : Nat) : Int) := wN (by rw [Int.natCast_mul]) (by omega)
        obtain ⟨m, hm⟩ : ∃ m, m = q * u := ⟨_, rfl⟩
        rw [← hm] at hw1 hqu
        have hw2 : IntKind.i64.wrap ((n : Int) + (m : Int)) = ((n + m : Nat) : Int) := wN (by rw [Int.natCast_add]) (by omega)
        obtain ⟨n', hn'⟩ : ∃ n', n' = n + m := ⟨_, rfl⟩
        rw [← hn'] at hw2
        have hw3 : IntKind.i64.wrap ((u : Int) * 128) = ((u * 128 : Nat) : Int) := wN (by rw [Int.natCast_mul]; rfl) (by omega)
        obtain ⟨u', hu'⟩ : ∃ u', u' = u * 128 := ⟨_, rfl⟩
        rw [← hu'] at hw3
        have hw5 : IntKind.i64.wrap ((j : Int) + 1) = ((j + 1 : Nat) : Int) := wN (by omega) (by omega)
        obtain ⟨j', hj'⟩ : ∃ j', j' = j + 1 := ⟨_, rfl⟩
        rw [← hj'] at hw5
        have hnn : n + (bu s (a + i)).toNat % 128 * u = n' := by rw [hn', hm, hq, hbb, hj]
        have hbe : (bu s (a + i)).toNat = b := by rw [hbb, hj]
        have hsg := seg_succ (s := s) (a := a) (k := i) (by omega)
        have hval' : n' = val (seg s a (i + 1)) := by
          rw [hsg, val_snoc, ← hval, hlen, ← hu, ← hnn]
        by_cases c2 : ((bu s j).toNat : Int) < 128
        · have hbl : ¬ 128 ≤ (bu s (a + i)).toNat := by rw [hbe]; omega
          have hcan := canon (b := bu s (a + i)) hall (by omega)
          rw [← hsg, ← hval', hlen] at hcan
          by_cases c6 : (1000000000 : Int) < (n' : Int)
          · have hno := rvL_no (k := k) (n := n) (u := u) (show a + i < s.size by omega) hbl (.inr (by rw [hnn]; omega))
            rw [← hri] at hno
            simp only [Tryz.ntmps97, Tryz.results97, push_cast, seval, c1, wa5, c5, hb, hcv, hrem, hw1, hw2, hw3, c2, c6, hno, rvX]
          · simp only [Tryz.ntmps97, Tryz.results97, push_cast, seval, c1, wa5, c5, hb, hcv, hrem, hw1, hw2, hw3, c2, c6]
            refine GoD_call rfl rfl (l01Var_ok n' (by omega)) rfl rfl ?_
            have hle1 : a ≤ j' := by omega
            have hle2 : j' ≤ s.size := by omega
            cases c7 : decide (varB n' = s.extract a j') with
            | true =>
              have e7 := (varB_seg s n' a j').1 (of_decide_eq_true c7)
              rw [show j' - a = i + 1 by omega] at e7
              have hc := hcan.1 e7
              have hyes := rvL_yes (k := k) (n := n) (u := u) (show a + i < s.size by omega) hbl (by rw [hnn]; omega)
              rw [← hri, hnn, ← hj, ← hj'] at hyes
              simp only [Tryz.ntmps97, Tryz.results97, push_cast, seval, hw5, hle1, hle2, c7, c6, hyes, rvX]
            | false =>
              have e7 : ¬ varL n' = seg s a (i + 1) := fun h => of_decide_eq_false c7 ((varB_seg s n' a j').2 (by rw [show j' - a = i + 1 by omega]; exact h))
              have hc : (bu s (a + i)).toNat = 0 ∧ 0 < i := Decidable.of_not_not fun h => e7 (hcan.2 h)
              have hno := rvL_no (k := k) (n := n) (u := u) (show a + i < s.size by omega) hbl (.inl hc)
              rw [← hri] at hno
              simp only [Tryz.ntmps97, Tryz.results97, push_cast, seval, hw5, hle1, hle2, c7, c6, hno, rvX]
        · have hbl : 128 ≤ (bu s (a + i)).toNat := by rw [hbe]; omega
          have hgo := rvL_go (k := k) (n := n) (u := u) (show a + i < s.size by omega) hbl
          rw [← hri, hnn, ← hu', show k = 5 - (i + 1) by omega] at hgo
          simp only [push_cast, seval, c1, wa5, c5, hb, hcv, hrem, hw1, hw2, hw3, c2, hw5]
          refine ⟨_, ?_, hX ⟨(j', n', u'), i + 1, ?_, ?_, by omega, by omega, hgo, hval', ?_, ?_⟩ (by simp only; omega)⟩
          · exact Weak.same (by simp only [push_cast, seval])
          · show j' = a + (i + 1); omega
          · show u' = 128 ^ (i + 1); rw [Nat.pow_succ, hu', hu]
          · rw [hsg, List.length_append, hlen]; rfl
          · intro x hx
            rw [hsg, List.mem_append] at hx
            rcases hx with hx | hx
            · exact hall x hx
            · rw [List.mem_singleton.1 hx]; exact hbl
      · have hno : r = none := by rw [hri, show 5 - i = 0 by omega]; rfl
        simp only [Tryz.ntmps97, Tryz.results97, push_cast, seval, c1, wa5, c5, hno, rvX]
    · have hno := rvL_out (k := 5 - i) (n := n) (u := u) (show ¬ a + i < s.size by omega)
      rw [← hri] at hno
      simp only [Tryz.ntmps97, Tryz.results97, push_cast, seval, c1, hno, rvX]


def sc (s : ByteArray) (a : Nat) (b : Bool) : List Value := [.string s, .int .i64 a, .bool b]
def numN (s : ByteArray) (a : Nat) (b : Bool) : Nat := if b then 0 else match rvO s a with | some (n, _) => n | none => 0
def numA (s : ByteArray) (a : Nat) (b : Bool) : Nat := if b then a else match rvO s a with | some (_, x) => x | none => a
def numB (s : ByteArray) (a : Nat) (b : Bool) : Bool := if b then true else match rvO s a with | some _ => false | none => true
theorem number_ok (s : ByteArray) (hs : s.size ≤ 140737488355328) (a : Nat) (b : Bool) : IoFn Tryz.prog 108 .box 3 [sc s a b] [] [sc s (numA s a b) (numB s a b)] [i64 (numN s a b)] := by
  refine IoFn_of_Go Tryz.func108 rfl (by decide) mo (by decide +kernel) (ioOk_box rfl) (ioOk_box rfl) rfl rfl ?_
  have k := readVarI_ok s hs a
  cases b with
  | true =>
    cases hr : rvO s a with
    | none =>
      rw [hr] at k
      simp only [Tryz.ntmps108, Tryz.results108, push_cast, seval, sc, numA, numB, numN, hr]
      refine GoD_call rfl rfl k rfl rfl ?_
      simp only [Tryz.ntmps108, Tryz.results108, push_cast, seval, rvX, sc, numA, numB, numN, hr]
    | some p =>
      obtain ⟨n, x⟩ := p
      rw [hr] at k
      simp only [Tryz.ntmps108, Tryz.results108, push_cast, seval, sc, numA, numB, numN, hr]
      refine GoD_call rfl rfl k rfl rfl ?_
      simp only [Tryz.ntmps108, Tryz.results108, push_cast, seval, rvX, sc, numA, numB, numN, hr]
  | false =>
    cases hr : rvO s a with
    | none =>
      rw [hr] at k
      simp only [Tryz.ntmps108, Tryz.results108, push_cast, seval, sc, numA, numB, numN, hr]
      refine GoD_call rfl rfl k rfl rfl ?_
      simp only [Tryz.ntmps108, Tryz.results108, push_cast, seval, rvX, sc, numA, numB, numN, hr]
    | some p =>
      obtain ⟨n, x⟩ := p
      rw [hr] at k
      simp only [Tryz.ntmps108, Tryz.results108, push_cast, seval, sc, numA, numB, numN, hr]
      refine GoD_call rfl rfl k rfl rfl ?_
      simp only [Tryz.ntmps108, Tryz.results108, push_cast, seval, rvX, sc, numA, numB, numN, hr]

def takeOk (s : ByteArray) (a : Nat) (b : Bool) (n : Nat) : Bool := !b && decide (a + n ≤ s.size)
def takeT (s : ByteArray) (a : Nat) (b : Bool) (n : Nat) : ByteArray := if takeOk s a b n then s.extract a (a + n) else ⟨#[]⟩
def takeA (s : ByteArray) (a : Nat) (b : Bool) (n : Nat) : Nat := if takeOk s a b n then a + n else a
def takeB (s : ByteArray) (a : Nat) (b : Bool) (n : Nat) : Bool := !takeOk s a b n
theorem take_ok (s : ByteArray) (hs : s.size ≤ 140737488355328) (a : Nat) (ha : a ≤ s.size) (b : Bool) (n : Nat) (hn : n ≤ 140737488355328) : IoFn Tryz.prog 126 .box 3 [sc s a b] [i64 n] [sc s (takeA s a b n) (takeB s a b n)] [st (takeT s a b n)] := by
  refine IoFn_of_Go Tryz.func126 rfl (by decide) mo (by decide +kernel) (ioOk_box rfl) (ioOk_box rfl) rfl rfl ?_
  have w1 : IntKind.i64.wrap ((s.size : Int) - (a : Int)) = ((s.size - a : Nat) : Int) := wN (by omega) (by omega)
  obtain ⟨r, hr⟩ : ∃ r, r = s.size - a := ⟨_, rfl⟩
  rw [← hr] at w1
  have w2 : IntKind.i64.wrap ((a : Int) + (n : Int)) = ((a + n : Nat) : Int) := wN (by omega) (by omega)
  obtain ⟨x, hx⟩ : ∃ x, x = a + n := ⟨_, rfl⟩
  rw [← hx] at w2
  have w3 : IntKind.i64.wrap ((x : Int) - (n : Int)) = (a : Int) := wN (by omega) (by omega)
  cases b with
  | true =>
    have ho : takeOk s a true n = false := rfl
    simp only [Tryz.ntmps126, Tryz.results126, push_cast, seval, sc, takeT, takeA, takeB, ho]
  | false =>
    by_cases c : (r : Int) < (n : Int)
    · have ho : takeOk s a false n = false := by simp [takeOk]; omega
      simp only [Tryz.ntmps126, Tryz.results126, push_cast, seval, sc, takeT, takeA, takeB, ho, w1, c]
    · have ho : takeOk s a false n = true := by simp [takeOk]; omega
      have h1 : a ≤ x := by omega
      have h2 : x ≤ s.size := by omega
      simp only [Tryz.ntmps126, Tryz.results126, push_cast, seval, sc, takeT, takeA, takeB, ho, w1, c, w2, w3, h1, h2, ← hx]

/-! ### frames -/
def frO (s : ByteArray) (a : Nat) : Option (ByteArray × Nat) := match rvO s a with
  | some (n, x) => if x + 4 + n ≤ s.size ∧ 1 ≤ n ∧ n ≤ 9000 ∧ four (sumN (s.extract (x + 4) (x + 4 + n))) = s.extract x (x + 4) then some (s.extract (x + 4) (x + 4 + n), x + 4 + n) else none
  | none => none
def frX : Option (ByteArray × Nat) → List X
  | none => [st ⟨#[]⟩, i64 0, bo false]
  | some (t, x) => [st t, i64 x, bo true]
theorem extract_size (s : ByteArray) (a b : Nat) : (s.extract a b).size ≤ s.size := by
  rw [ByteArray.size_extract]; omega
theorem frameAt_ok (s : ByteArray) (hs : s.size ≤ 140737488355328) (a : Nat) (ha : a ≤ s.size) : PureFn Tryz.prog 107 [st s, i64 a] (frX (frO s a)) := by
  refine PureFn_of_Go Tryz.func107 rfl (by decide) mo (by decide +kernel) ?_
  simp only [Tryz.ntmps107, Tryz.results107, push_cast, seval]
  refine GoL_io (0, 448) .box 3 [sc s a false] rfl rfl rfl rfl (.inl rfl) rfl (number_ok s hs a false) rfl rfl ?_
  cases hr : rvO s a with
  | none =>
    have hn : numN s a false = 0 := by simp [numN, hr]
    have hA : numA s a false = a := by simp [numA, hr]
    have hB : numB s a false = true := by simp [numB, hr]
    have ho : ∀ n, takeOk s a true n = false := fun n => rfl
    have hf : frO s a = none := by simp [frO, hr]
    rw [hn, hA, hB, hf]
    simp only [Tryz.ntmps107, Tryz.results107, push_cast, seval, sc]
    refine GoL_io (0, 448) .box 3 [sc s a true] rfl rfl rfl rfl (.inl rfl) rfl (take_ok s hs a ha true 4 (by omega)) rfl rfl ?_
    simp only [takeA, takeB, takeT, ho, Bool.false_eq_true, if_false, Bool.not_false]
    simp only [Tryz.ntmps107, Tryz.results107, push_cast, seval, sc]
    refine GoL_io (0, 448) .box 3 [sc s a true] rfl rfl rfl rfl (.inl rfl) rfl (take_ok s hs a ha true 0 (by omega)) rfl rfl ?_
    simp only [takeA, takeB, takeT, ho, Bool.false_eq_true, if_false, Bool.not_false]
    simp only [Tryz.ntmps107, Tryz.results107, push_cast, seval, sc, frX]
  | some p =>
    obtain ⟨n, x⟩ := p
    obtain ⟨hn1, _, hx1, hx2⟩ := rvO_bound hr
    have hn : numN s a false = n := by simp [numN, hr]
    have hA : numA s a false = x := by simp [numA, hr]
    have hB : numB s a false = false := by simp [numB, hr]
    have hf : frO s a = if x + 4 + n ≤ s.size ∧ 1 ≤ n ∧ n ≤ 9000 ∧ four (sumN (s.extract (x + 4) (x + 4 + n))) = s.extract x (x + 4) then some (s.extract (x + 4) (x + 4 + n), x + 4 + n) else none := by simp [frO, hr]
    rw [hn, hA, hB]
    simp only [Tryz.ntmps107, Tryz.results107, push_cast, seval, sc]
    refine GoL_io (0, 448) .box 3 [sc s x false] rfl rfl rfl rfl (.inl rfl) rfl (take_ok s hs x hx2 false 4 (by omega)) rfl rfl ?_
    by_cases c1 : x + 4 ≤ s.size
    · have o1 : takeOk s x false 4 = true := by simp [takeOk]; omega
      simp only [takeA, takeB, takeT, o1, if_true, Bool.not_true]
      obtain ⟨y, hy⟩ : ∃ y, y = x + 4 := ⟨_, rfl⟩
      rw [← hy] at hf c1 ⊢
      simp only [Tryz.ntmps107, Tryz.results107, push_cast, seval, sc]
      refine GoL_io (0, 448) .box 3 [sc s y false] rfl rfl rfl rfl (.inl rfl) rfl (take_ok s hs y c1 false n (by omega)) rfl rfl ?_
      by_cases c2 : y + n ≤ s.size
      · have o2 : takeOk s y false n = true := by simp [takeOk]; omega
        simp only [takeA, takeB, takeT, o2, if_true, Bool.not_true]
        obtain ⟨z, hz⟩ : ∃ z, z = y + n := ⟨_, rfl⟩
        rw [← hz] at hf c2 ⊢
        have k1 := inRange_ok n 1 9000
        simp only [Tryz.ntmps107, Tryz.results107, push_cast, seval, sc]
        refine GoL_call rfl rfl k1 rfl rfl ?_
        cases c3 : (decide ((1 : Int) ≤ (n : Int)) && decide ((n : Int) ≤ 9000)) with
        | false =>
          have hff : frO s a = none := by
            rw [hf, if_neg]
            intro hc
            simp at c3
            omega
          rw [hff]
          simp only [Tryz.ntmps107, Tryz.results107, push_cast, seval, sc, frX, c3]
        | true =>
          have hc3 : 1 ≤ n ∧ n ≤ 9000 := by simp at c3; omega
          have k2 := sumText_ok (s.extract y z) (Nat.le_trans (extract_size s y z) hs)
          simp only [Tryz.ntmps107, Tryz.results107, push_cast, seval, sc, c3]
          refine GoL_call rfl rfl k2 rfl rfl ?_
          cases c4 : decide (four (sumN (s.extract y z)) = s.extract x y) with
          | true =>
            have hff : frO s a = some (s.extract y z, z) := by rw [hf, if_pos ⟨c2, hc3.1, hc3.2, of_decide_eq_true c4⟩]
            rw [hff]
            simp only [Tryz.ntmps107, Tryz.results107, push_cast, seval, sc, frX, c3, c4]
          | false =>
            have hff : frO s a = none := by rw [hf, if_neg fun h => of_decide_eq_false c4 h.2.2.2]
            rw [hff]
            simp only [Tryz.ntmps107, Tryz.results107, push_cast, seval, sc, frX, c3, c4]
      · have o2 : takeOk s y false n = false := by simp [takeOk]; omega
        simp only [takeA, takeB, takeT, o2, if_false, Bool.not_false, Bool.false_eq_true]
        have hff : frO s a = none := by rw [hf, if_neg fun h => c2 h.1]
        rw [hff]
        simp only [Tryz.ntmps107, Tryz.results107, push_cast, seval, sc, frX]
    · have o1 : takeOk s x false 4 = false := by simp [takeOk]; omega
      have o2 : takeOk s x true n = false := rfl
      simp only [takeA, takeB, takeT, o1, if_false, Bool.not_false, Bool.false_eq_true]
      have hff : frO s a = none := by rw [hf, if_neg fun h => c1 (by omega)]
      rw [hff]
      simp only [Tryz.ntmps107, Tryz.results107, push_cast, seval, sc]
      refine GoL_io (0, 448) .box 3 [sc s x true] rfl rfl rfl rfl (.inl rfl) rfl (take_ok s hs x hx2 true n (by omega)) rfl rfl ?_
      simp only [takeA, takeB, takeT, o2, if_false, Bool.not_false, Bool.false_eq_true]
      simp only [Tryz.ntmps107, Tryz.results107, push_cast, seval, sc, frX]


def strs (xs : List ByteArray) : List (List Value) := xs.map fun x => [.string x]
def ints (xs : List Int) : List (List Value) := xs.map fun x => [.int .i64 x]
theorem strs_length (xs : List ByteArray) : (strs xs).length = xs.length := by simp [strs]
theorem ints_length (xs : List Int) : (ints xs).length = xs.length := by simp [ints]
theorem strs_getD (xs : List ByteArray) {i : Nat} (h : i < xs.length) : (strs xs).getD i [] = [.string (xs.getD i default)] := by
  simp [strs, List.getD_eq_getElem?_getD, List.getElem?_map, List.getElem?_eq_getElem h]
theorem ints_getD (xs : List Int) {i : Nat} (h : i < xs.length) : (ints xs).getD i [] = [.int .i64 (xs.getD i default)] := by
  simp [ints, List.getD_eq_getElem?_getD, List.getElem?_map, List.getElem?_eq_getElem h]
theorem wsucc {i n : Nat} (h : i < n) (hn : n ≤ 140737488355328) : IntKind.i64.wrap ((i : Int) + 1) = ((i + 1 : Nat) : Int) := by rw [IntKind.wrap_i64]; omega

/-! ### marks -/
def digB (n : Nat) : ByteArray := if n = 0 then ⟨#[]⟩ else digB (n / 10) ++ ⟨[UInt8.ofNat (48 + n % 10)].toArray⟩
termination_by n
decreasing_by omega
theorem digB_zero : digB 0 = ⟨#[]⟩ := by rw [digB, if_pos rfl]
theorem digB_pos {n : Nat} (h : n ≠ 0) : digB n = digB (n / 10) ++ ⟨[UInt8.ofNat (48 + n % 10)].toArray⟩ := by rw [digB, if_neg h]
def mkB (k : Nat) : ByteArray := ⟨#[109]⟩ ++ digB k
theorem empty_append (b : ByteArray) : (⟨#[]⟩ : ByteArray) ++ b = b := bytes_ext (by simp [ByteArray.data_append])

theorem markText_ok (k : Nat) (hk : 0 < k) (hk2 : k ≤ 140737488355328) : PureFn Tryz.prog 42 [i64 k] [st (mkB k)] := by
  refine PureFn_of_Go Tryz.func42 rfl (by decide) mo (by decide +kernel) ?_
  have h0 : ¬ (k : Int) ≤ 0 := by omega
  simp only [Tryz.ntmps42, Tryz.results42, push_cast, seval, h0]
  refine Go_loop (α := {p : Nat × ByteArray // digB p.1 ++ p.2 = digB k ∧ p.1 + p.2.size ≤ k})
    (fun p => ⟨tp 20 [(0, int p.1.1), (3, .x (st p.1.2))], 0, [], []⟩) (fun p => p.1.1) ⟨(k, ⟨#[]⟩), bytes_ext (by simp [ByteArray.data_append]), by simp [ByteArray.size]⟩ ?_ ?_
  · exact Weak.same (by simp only [push_cast, seval])
  · rintro ⟨⟨m, out⟩, hp, hm⟩ X hX
    simp only at hp hm
    by_cases hlt : (0 : Int) < (m : Int)
    · have hrem := tmodN m 10
      rw [show ((10 : Nat) : Int) = 10 from rfl] at hrem
      obtain ⟨q, hq⟩ : ∃ q, q = m % 10 := ⟨_, rfl⟩
      rw [← hq] at hrem
      have hw1 : IntKind.i64.wrap (48 + (q : Int)) = ((48 + q : Nat) : Int) := wN (by omega) (by omega)
      have hw2 := wu8 (n := 48 + q)
      have hb : UInt8.ofNat (48 + q) = UInt8.ofNat (48 + m % 10) := by rw [hq]
      obtain ⟨z, hz⟩ : ∃ z, z = 48 + q := ⟨_, rfl⟩
      rw [← hz] at hw1 hw2 hb
      obtain ⟨c, hc⟩ : ∃ c, c = UInt8.ofNat z := ⟨_, rfl⟩
      rw [← hc] at hw2 hb
      have hdiv := tdivN m 10
      rw [show ((10 : Nat) : Int) = 10 from rfl] at hdiv
      have hw3 : IntKind.i64.wrap ((m : Int).tdiv 10) = ((m / 10 : Nat) : Int) := wN hdiv (by omega)
      obtain ⟨m', hm'⟩ : ∃ m', m' = m / 10 := ⟨_, rfl⟩
      rw [← hm'] at hw3
      have hf := str_natsOf [c]
      simp only [natsOf, List.map_cons, List.map_nil] at hf
      obtain ⟨cc, hcc⟩ : ∃ cc : ByteArray, cc = ⟨[c].toArray⟩ := ⟨_, rfl⟩
      rw [← hcc] at hf
      have hcs : cc.size = 1 := by rw [hcc]; rfl
      have hroom : cc.size + out.size ≤ 9223372036854775807 := by omega
      have hinv : digB m' ++ (cc ++ out) = digB k := by
        rw [← hp, digB_pos (n := m) (by omega), hm', hcc, hb, ByteArray.append_assoc]
      have hsz : m' + (cc ++ out).size ≤ k := by rw [ByteArray.size_append]; omega
      simp only [push_cast, seval, hlt, hrem, hw1, hw2, hw3, hf, hroom]
      refine ⟨_, ?_, hX ⟨(m', cc ++ out), hinv, hsz⟩ (by simp only; omega)⟩
      exact Weak.drop (by simp only [push_cast, seval]) (by simp only [push_cast, seval]) (by simp only [push_cast, seval])
    · have hm0 : m = 0 := by omega
      have hfin : (⟨#[109]⟩ : ByteArray) ++ out = mkB k := by
        rw [mkB, ← hp, hm0, digB_zero, empty_append]
      have hroom : (⟨#[109]⟩ : ByteArray).size + out.size ≤ 9223372036854775807 := by
        have : (⟨#[109]⟩ : ByteArray).size = 1 := rfl
        omega
      simp only [Tryz.ntmps42, Tryz.results42, push_cast, seval, hlt, hroom, hfin]

def marks (k n : Nat) : List (List Value) := (List.range n).map fun j => [.string (mkB (k + j))]
theorem marks_length (k n : Nat) : (marks k n).length = n := by simp [marks]
theorem marks_getD (k : Nat) {n i : Nat} (h : i < n) : (marks k n).getD i [] = [.string (mkB (k + i))] := by
  simp [marks, List.getD_eq_getElem?_getD, List.getElem?_map, h]
theorem frO_bound {s : ByteArray} {a x : Nat} {t : ByteArray} (h : frO s a = some (t, x)) : a < x ∧ x ≤ s.size := by
  unfold frO at h
  split at h
  · rename_i n y hr
    have hb := rvO_bound hr
    split at h
    · rename_i hc
      obtain ⟨_, rfl⟩ := Prod.mk.inj (Option.some.inj h)
      omega
    · cases h
  · cases h
def frL (s : ByteArray) : Nat → Nat → List (ByteArray × Nat)
  | 0, _ => []
  | k + 1, a => match frO s a with
    | some (t, x) => (t, x) :: frL s k x
    | none => []
def frs (s : ByteArray) : List (ByteArray × Nat) := if s.size ≤ 20000 then frL s (s.size + 1) 0 else []
theorem frL_len (s : ByteArray) : ∀ (k a : Nat), (frL s k a).length ≤ s.size - a
  | 0, a => by simp [frL]
  | k + 1, a => by
    rw [frL]
    cases h : frO s a with
    | none => simp
    | some p =>
      obtain ⟨t, x⟩ := p
      have hb := frO_bound h
      have := frL_len s k x
      simp only [List.length_cons]; omega
theorem frs_len (s : ByteArray) : (frs s).length ≤ 20000 := by
  unfold frs
  split
  · have := frL_len s (s.size + 1) 0; omega
  · simp
/-- More fuel changes nothing. -/
theorem frL_fuel (s : ByteArray) : ∀ (k k' a : Nat), s.size < k + a → s.size < k' + a → frL s k a = frL s k' a
  | 0, 0, _, _, _ => rfl
  | 0, k' + 1, a, h, _ => by
    rw [frL, frL]
    cases hf : frO s a with
    | none => rfl
    | some p => obtain ⟨t, x⟩ := p; have := frO_bound hf; omega
  | k + 1, 0, a, _, h => by
    rw [frL, frL]
    cases hf : frO s a with
    | none => rfl
    | some p => obtain ⟨t, x⟩ := p; have := frO_bound hf; omega
  | k + 1, k' + 1, a, h, h' => by
    rw [frL, frL]
    cases hf : frO s a with
    | none => rfl
    | some p =>
      obtain ⟨t, x⟩ := p
      have := frO_bound hf
      simp only
      rw [frL_fuel s k k' x (by omega) (by omega)]
def frLast (l : List (ByteArray × Nat)) : Nat := (l.getLast?.map (·.2)).getD 0
def frTs (l : List (ByteArray × Nat)) : List ByteArray := l.map (·.1)
def frEs (l : List (ByteArray × Nat)) : List Int := l.map fun p => (p.2 : Int)

theorem framesOf_ok (s : ByteArray) (hs : s.size ≤ 140737488355328) : PureFn Tryz.prog 73 [st s] [.one (.own 1 (vR (strs (frTs (frs s))))), .one (.own 1 (vR (ints (frEs (frs s)))))] := by
  refine PureFn_of_Go Tryz.func73 rfl (by decide) mo (by decide +kernel) ?_
  obtain ⟨F, hF⟩ : ∃ F, F = frs s := ⟨_, rfl⟩
  rw [← hF]
  simp only [Tryz.ntmps73, Tryz.results73, push_cast, seval]
  refine Go_loop (α := {p : List (ByteArray × Nat) × Nat // p.2 ≤ s.size ∧ p.1.length ≤ p.2 ∧ (s.size ≤ 20000 → p.1 ++ frL s (s.size + 1 - p.2) p.2 = F) ∧ (¬ s.size ≤ 20000 → p.1 = [])})
    (fun p => ⟨tp 33 [(0, .x (st s)), (4, .x (.one (.rs (0, 1600) [] 1 0 p.1.1.length))), (5, .x (.one (.rs (0, 1856) [] 1 0 p.1.1.length))), (6, int p.1.2)], 0, [((0, 1600), ⟨.sl, 1, vR (strs (frTs p.1.1))⟩), ((0, 1856), ⟨.sl, 1, vR (ints (frEs p.1.1))⟩)], []⟩)
    (fun p => s.size - p.1.2) ⟨([], 0), by simp, by simp, fun h => by rw [hF, frs, if_pos h]; rfl, fun _ => rfl⟩ ?_ ?_
  · refine Weak.trans (Weak.nilRoot (0, 1856) 1 5 rfl rfl rfl) (Weak.trans (Weak.nilRoot (0, 1600) 1 4 rfl rfl rfl) ?_)
    simp only [push_cast, seval, frTs, frEs, strs, ints, List.map_nil]
    exact Weak.same (by simp only [push_cast, seval])
  · rintro ⟨⟨l, a⟩, ha, hla, hinv, hno⟩ X hX
    simp only at ha hla hinv hno
    have l1 : (strs (frTs l)).length = l.length := by simp [strs, frTs]
    have l2 : (ints (frEs l)).length = l.length := by simp [ints, frEs]
    by_cases c0 : (s.size : Int) ≤ 20000
    · have hinv := hinv (by omega)
      cases hf : frO s a with
      | none =>
        have k := frameAt_ok s hs a ha
        rw [hf] at k
        rw [show s.size + 1 - a = (s.size - a) + 1 by omega, frL, hf, List.append_nil] at hinv
        subst hinv
        simp only [Tryz.ntmps73, Tryz.results73, push_cast, seval, c0]
        refine GoL_call rfl rfl k rfl rfl ?_
        simp only [Tryz.ntmps73, Tryz.results73, push_cast, seval, frX, l1, l2, nrRR_map]
      | some p =>
        obtain ⟨t, x⟩ := p
        have hb := frO_bound hf
        have k := frameAt_ok s hs a ha
        rw [hf] at k
        rw [show s.size + 1 - a = (s.size - a) + 1 by omega, frL, hf] at hinv
        simp only at hinv
        rw [frL_fuel s (s.size - a) (s.size + 1 - x) x (by omega) (by omega)] at hinv
        have a0 : l.length + 1 ≤ 4294967296 := by omega
        have a1 := max_len a0
        have a2 := room_le (b := 16) a0 (by decide)
        have a3 := room_le (b := 8) a0 (by decide)
        have s1 := vR_snoc (strs (frTs l)) [.string t]
        have s2 := vR_snoc (ints (frEs l)) [.int .i64 x]
        have e1 : strs (frTs l) ++ [[Value.string t]] = strs (frTs (l ++ [(t, x)])) := by simp [strs, frTs]
        have e2 : ints (frEs l) ++ [[Value.int .i64 x]] = ints (frEs (l ++ [(t, x)])) := by simp [ints, frEs]
        rw [e1] at s1
        rw [e2] at s2
        simp only [List.map_cons, List.map_nil] at s1 s2
        obtain ⟨l', hl'⟩ : ∃ l', l' = l ++ [(t, x)] := ⟨_, rfl⟩
        rw [← hl'] at s1 s2
        have hll : l'.length = l.length + 1 := by rw [hl']; simp
        simp only [push_cast, seval, c0]
        refine GoL_call rfl rfl k rfl rfl ?_
        simp only [push_cast, seval, frX, l1, l2, a1, a2, a3, s1, s2, flatRows, flatRow]
        refine ⟨_, ?_, hX ⟨(l', x), hb.2, by simp only; omega, fun _ => by simp only; rw [hl', List.append_assoc]; exact hinv, fun h => absurd (by omega) h⟩ (by simp only; omega)⟩
        exact Weak.drop (by simp only [push_cast, seval, hll]) (by simp only [push_cast, seval, hll]) (by simp only [push_cast, seval, hll])
    · have e0 : F = [] := by rw [hF]; exact if_neg (by omega)
      have e1 := hno (by omega)
      subst e1
      subst e0
      simp only [Tryz.ntmps73, Tryz.results73, push_cast, seval, c0, l1, l2]
def unfT (s : ByteArray) : List ByteArray := frTs (frs s)
def unfE (s : ByteArray) : Nat := frLast (frs s)
theorem seg_append (s : ByteArray) (a i j : Nat) : seg s a (i + j) = seg s a i ++ seg s (a + i) j := by
  unfold seg
  rw [List.take_add, List.drop_drop]
theorem seg_len {s : ByteArray} {a k : Nat} (h : a + k ≤ s.size) : (seg s a k).length = k := by
  unfold seg
  have : s.data.toList.length = s.size := by rw [Array.length_toList]; rfl
  rw [List.length_take, List.length_drop, this]; omega
theorem rvL_canon {s : ByteArray} {a m x : Nat} : ∀ (k i n u : Nat), u = 128 ^ i → n = val (seg s a i) → a + i ≤ s.size → (∀ q ∈ seg s a i, 128 ≤ q.toNat) → rvL s a k i n u = some (m, x) → varL m = seg s a (x - a)
  | 0, _, _, _, _, _, _, _, h => by cases h
  | k + 1, i, n, u, hu, hn, hi, hall, h => by
    by_cases h1 : a + i < s.size
    · have hsg := seg_succ h1
      have hl := seg_len hi
      have hval : n + (bu s (a + i)).toNat % 128 * u = val (seg s a (i + 1)) := by rw [hsg, val_snoc, ← hn, hl, ← hu]
      by_cases h2 : 128 ≤ (bu s (a + i)).toNat
      · rw [rvL_go h1 h2] at h
        refine rvL_canon k (i + 1) _ _ (by rw [Nat.pow_succ, hu]) hval (by omega) (fun q hq => ?_) h
        rw [hsg, List.mem_append] at hq
        rcases hq with hq | hq
        · exact hall q hq
        · rw [List.mem_singleton.1 hq]; exact h2
      · by_cases h3 : ((bu s (a + i)).toNat = 0 ∧ 0 < i) ∨ 1000000000 < n + (bu s (a + i)).toNat % 128 * u
        · rw [rvL_no h1 h2 h3] at h; cases h
        · rw [rvL_yes h1 h2 h3] at h
          obtain ⟨rfl, rfl⟩ := Prod.mk.inj (Option.some.inj h)
          have hcan := (canon (b := bu s (a + i)) hall (by omega)).2 (by rw [hl]; exact fun hc => h3 (.inl hc))
          rw [← hsg] at hcan
          rw [hval, hcan]
          congr 1; omega
    · rw [rvL_out h1] at h; cases h
theorem rvO_canon {s : ByteArray} {a n x : Nat} (h : rvO s a = some (n, x)) : varL n = seg s a (x - a) := by
  unfold rvO at h
  split at h
  · rename_i hc
    exact rvL_canon 5 0 0 1 rfl (by simp [seg, val]) (by omega) (by simp [seg]) h
  · cases h
theorem varL_len (n : Nat) : (varL n).length ≤ n + 1 := by
  induction n using Nat.strongRecOn with
  | ind n ih =>
    by_cases h : n ≤ 127
    · rw [varL_small h]; simp
    · rw [varL_big h, List.length_cons]
      have := ih (n / 128) (by omega)
      omega
theorem varB_size (n : Nat) : (varB n).size ≤ n + 1 := by
  have := varL_len n
  show (varL n).toArray.size ≤ _
  simpa using this
def frameB (t : ByteArray) : ByteArray := varB t.size ++ four (sumN t) ++ t
theorem app_list (x y : ByteArray) : (x ++ y).data.toList = x.data.toList ++ y.data.toList := by rw [ByteArray.data_append, Array.toList_append]
theorem frame_iff {s : ByteArray} {a n x : Nat} (h : rvO s a = some (n, x)) (hz : x + 4 + n ≤ s.size) :
    frameB (s.extract (x + 4) (x + 4 + n)) = s.extract a (x + 4 + n) ↔ four (sumN (s.extract (x + 4) (x + 4 + n))) = s.extract x (x + 4) := by
  obtain ⟨_, ha0, hax, hxs⟩ := rvO_bound h
  have hc := rvO_canon h
  have hsz : (s.extract (x + 4) (x + 4 + n)).size = n := by rw [ByteArray.size_extract]; omega
  have e1 : (frameB (s.extract (x + 4) (x + 4 + n))).data.toList = seg s a (x - a) ++ ((four (sumN (s.extract (x + 4) (x + 4 + n)))).data.toList ++ seg s (x + 4) n) := by
    unfold frameB
    rw [app_list, app_list, hsz, varB_list, hc, extract_list, show x + 4 + n - (x + 4) = n by omega, List.append_assoc]
  have e2 : (s.extract a (x + 4 + n)).data.toList = seg s a (x - a) ++ (seg s x 4 ++ seg s (x + 4) n) := by
    rw [extract_list, show x + 4 + n - a = (x - a) + (4 + n) by omega, seg_append, show a + (x - a) = x by omega, seg_append]
  have e3 : (s.extract x (x + 4)).data.toList = seg s x 4 := by rw [extract_list, show x + 4 - x = 4 by omega]
  constructor
  · intro hh
    have : (frameB (s.extract (x + 4) (x + 4 + n))).data.toList = (s.extract a (x + 4 + n)).data.toList := by rw [hh]
    rw [e1, e2] at this
    refine bytes_ext ?_
    rw [e3]
    exact List.append_cancel_right (List.append_cancel_left this)
  · intro hh
    refine bytes_ext ?_
    rw [e1, e2, hh, e3]

def okLen (t : ByteArray) : Bool := decide ((1 : Int) ≤ (t.size : Int)) && decide ((t.size : Int) ≤ 9000)
def frameX (t : ByteArray) : List X := if okLen t then [st (frameB t), bo true] else [st ⟨#[]⟩, bo false]
theorem frameS_ok (t : ByteArray) (ht : t.size ≤ 140737488355328) : PureFn Tryz.prog 65 [st t] (frameX t) := by
  refine PureFn_of_Go Tryz.func65 rfl (by decide) mo (by decide +kernel) ?_
  have k := l01In_ok t.size 1 9000
  rw [show (decide ((1 : Int) ≤ (t.size : Int)) && decide ((t.size : Int) ≤ 9000)) = okLen t from rfl] at k
  simp only [Tryz.ntmps65, Tryz.results65, push_cast, seval]
  refine GoL_call rfl rfl k rfl rfl ?_
  cases c : okLen t with
  | true =>
    have hc : t.size ≤ 9000 := by simp [okLen] at c; omega
    simp only [Tryz.ntmps65, Tryz.results65, push_cast, seval, frameX, c]
    refine GoL_call rfl rfl (l01Var_ok t.size (by omega)) rfl rfl ?_
    simp only [Tryz.ntmps65, Tryz.results65, push_cast, seval, frameX, c]
    refine GoL_call rfl rfl (sumOfS_ok t (by omega)) rfl rfl ?_
    simp only [Tryz.ntmps65, Tryz.results65, push_cast, seval, frameX, c]
    refine GoL_call rfl rfl (l02Four_ok (sumN t)) rfl rfl ?_
    have h1 := varB_size t.size
    have h2 := four_size (sumN t)
    have h3 : (varB t.size).size + (four (sumN t)).size ≤ 9223372036854775807 := by omega
    have h4 : (varB t.size ++ four (sumN t)).size + t.size ≤ 9223372036854775807 := by rw [ByteArray.size_append]; omega
    simp only [Tryz.ntmps65, Tryz.results65, push_cast, seval, frameX, c, h3, h4, frameB]
  | false => simp only [Tryz.ntmps65, Tryz.results65, push_cast, seval, frameX, c, Bool.false_eq_true]

theorem frLast_snoc (l : List (ByteArray × Nat)) (t : ByteArray) (x : Nat) : frLast (l ++ [(t, x)]) = x := by simp [frLast]
theorem unframeS_ok (s : ByteArray) (hs : s.size ≤ 140737488355328) : PureFn Tryz.prog 61 [st s] [.one (.own 1 (vR (strs (unfT s)))), i64 (unfE s)] := by
  refine PureFn_of_Go Tryz.func61 rfl (by decide) mo (by decide +kernel) ?_
  obtain ⟨F, hF⟩ : ∃ F, F = frs s := ⟨_, rfl⟩
  unfold unfT unfE
  rw [← hF]
  by_cases c0 : (20000 : Int) < (s.size : Int)
  · have e0 : F = [] := by rw [hF]; exact if_neg (by omega)
    subst e0
    simp only [Tryz.ntmps61, Tryz.results61, push_cast, seval, c0, frTs, frLast, strs, List.map_nil, List.getLast?_nil, Option.map_none, Option.getD_none, Int.ofNat_zero]
  have hFe : F = frL s (s.size + 1) 0 := by rw [hF]; exact if_pos (by omega)
  simp only [Tryz.ntmps61, Tryz.results61, push_cast, seval, c0]
  refine Go_loop (α := {p : List (ByteArray × Nat) × Nat // p.2 ≤ s.size ∧ p.1.length ≤ p.2 ∧ p.1 ++ frL s (s.size + 1 - p.2) p.2 = F ∧ frLast p.1 = p.2})
    (fun p => ⟨tp 79 [(0, .x (st s)), (4, .x (.one (.rs (0, 4608) [] 1 0 p.1.1.length))), (5, int p.1.2)], 0, [((0, 4608), ⟨.sl, 1, vR (strs (frTs p.1.1))⟩)], []⟩)
    (fun p => s.size - p.1.2) ⟨([], 0), by simp, by simp, hFe.symm, rfl⟩ ?_ ?_
  · refine Weak.trans (Weak.rename (0, 768) (0, 4608) rfl rfl (by decide) rfl) ?_
    simp only [push_cast, seval, frTs, strs, List.map_nil]
    exact Weak.same (by simp only [push_cast, seval, Int.ofNat_zero])
  · rintro ⟨⟨l, a⟩, ha, hla, hinv, hlast⟩ X hX
    simp only at ha hla hinv hlast
    have l1 : (strs (frTs l)).length = l.length := by simp [strs, frTs]
    have stop : frO s a = none → F = l := fun hf => by
      rw [← hinv, show s.size + 1 - a = (s.size - a) + 1 by omega, frL, hf, List.append_nil]
    by_cases c1 : (a : Int) < (s.size : Int)
    · cases hr : rvO s a with
      | none =>
        have hFl := stop (by simp [frO, hr])
        subst hFl
        have k := readVarS_ok s hs a (by omega)
        rw [hr] at k
        simp only [Tryz.ntmps61, Tryz.results61, push_cast, seval, c1]
        refine GoL_call rfl rfl k rfl rfl ?_
        simp only [Tryz.ntmps61, Tryz.results61, push_cast, seval, rvX, l1, hlast]
      | some p =>
        obtain ⟨n, x⟩ := p
        obtain ⟨hn1, _, hx1, hx2⟩ := rvO_bound hr
        have k := readVarS_ok s hs a (by omega)
        rw [hr] at k
        have w1 : IntKind.i64.wrap ((s.size : Int) - (x : Int)) = ((s.size - x : Nat) : Int) := wN (by omega) (by omega)
        obtain ⟨r, hrr⟩ : ∃ r, r = s.size - x := ⟨_, rfl⟩
        rw [← hrr] at w1
        have w2 : IntKind.i64.wrap ((r : Int) - 4) = (r : Int) - 4 := w64 (by omega) (by omega)
        have hfO : frO s a = if x + 4 + n ≤ s.size ∧ 1 ≤ n ∧ n ≤ 9000 ∧ four (sumN (s.extract (x + 4) (x + 4 + n))) = s.extract x (x + 4) then some (s.extract (x + 4) (x + 4 + n), x + 4 + n) else none := by simp [frO, hr]
        by_cases c2 : (r : Int) - 4 < (n : Int)
        · have hFl := stop (by rw [hfO, if_neg fun h => by omega])
          subst hFl
          simp only [Tryz.ntmps61, Tryz.results61, push_cast, seval, c1]
          refine GoL_call rfl rfl k rfl rfl ?_
          simp only [Tryz.ntmps61, Tryz.results61, push_cast, seval, rvX, l1, hlast, w1, w2, c2]
        · have hiff := frame_iff hr (by omega)
          have w3 : IntKind.i64.wrap ((x : Int) + 4) = ((x + 4 : Nat) : Int) := wN (by omega) (by omega)
          have w4 : IntKind.i64.wrap (((x + 4 : Nat) : Int) + (n : Int)) = ((x + 4 + n : Nat) : Int) := wN (by omega) (by omega)
          have hsz : (s.extract (x + 4) (x + 4 + n)).size = n := by rw [ByteArray.size_extract]; omega
          obtain ⟨y, hy⟩ : ∃ y, y = x + 4 := ⟨_, rfl⟩
          rw [← hy] at w3 w4 hsz hfO hiff
          obtain ⟨z, hz⟩ : ∃ z, z = y + n := ⟨_, rfl⟩
          rw [← hz] at w4 hsz hfO hiff
          have b1 : y ≤ z := by omega
          have b2 : z ≤ s.size := by omega
          have b3 : a ≤ z := by omega
          have kf := frameS_ok (s.extract y z) (by rw [hsz]; omega)
          obtain ⟨t, ht⟩ : ∃ t, t = s.extract y z := ⟨_, rfl⟩
          rw [← ht] at hsz hfO hiff kf
          simp only [Tryz.ntmps61, Tryz.results61, push_cast, seval, c1]
          refine GoL_call rfl rfl k rfl rfl ?_
          simp only [Tryz.ntmps61, Tryz.results61, push_cast, seval, rvX, l1, w1, w2, c2, w3, w4, b1, b2, ← ht]
          cases c3 : okLen t with
          | false =>
            simp only [frameX, c3, Bool.false_eq_true, if_false] at kf
            refine GoL_call rfl rfl kf rfl rfl ?_
            have hFl := stop (by rw [hfO, if_neg]; rintro ⟨_, h1, h2, _⟩; simp [okLen] at c3; omega)
            subst hFl
            simp only [Tryz.ntmps61, Tryz.results61, push_cast, seval, l1, hlast]
          | true =>
            have hc3 : 1 ≤ n ∧ n ≤ 9000 := by simp [okLen] at c3; omega
            simp only [frameX, c3, if_true] at kf
            refine GoL_call rfl rfl kf rfl rfl ?_
            cases c4 : decide (frameB t = s.extract a z) with
            | false =>
              have hFl := stop (by rw [hfO, if_neg]; exact fun h => of_decide_eq_false c4 (hiff.2 h.2.2.2))
              subst hFl
              simp only [Tryz.ntmps61, Tryz.results61, push_cast, seval, l1, hlast, w3, w4, b3, b2, c4]
            | true =>
              have hf : frO s a = some (t, z) := by rw [hfO, if_pos ⟨b2, hc3.1, hc3.2, hiff.1 (of_decide_eq_true c4)⟩]
              rw [show s.size + 1 - a = (s.size - a) + 1 by omega, frL, hf] at hinv
              simp only at hinv
              rw [frL_fuel s (s.size - a) (s.size + 1 - z) z (by omega) (by omega)] at hinv
              have a0 : l.length + 1 ≤ 4294967296 := by omega
              have a1 := max_len a0
              have a2 := room_le (b := 16) a0 (by decide)
              have s1 := vR_snoc (strs (frTs l)) [.string t]
              have e1 : strs (frTs l) ++ [[Value.string t]] = strs (frTs (l ++ [(t, z)])) := by simp [strs, frTs]
              rw [e1] at s1
              simp only [List.map_cons, List.map_nil] at s1
              obtain ⟨l', hl'⟩ : ∃ l', l' = l ++ [(t, z)] := ⟨_, rfl⟩
              rw [← hl'] at s1
              have hll : l'.length = l.length + 1 := by rw [hl']; simp
              simp only [push_cast, seval, l1, w3, w4, b3, b2, c4, a1, a2, s1, flatRows, flatRow]
              refine ⟨_, ?_, hX ⟨(l', z), b2, by simp only; omega, by simp only; rw [hl', List.append_assoc]; exact hinv, by simp only; rw [hl', frLast_snoc]⟩ (by simp only; omega)⟩
              exact Weak.drop (by simp only [push_cast, seval, hll]) (by simp only [push_cast, seval, hll]) (by simp only [push_cast, seval, hll])
    · have hFl := stop (by
        unfold frO rvO
        rw [if_pos (by omega), rvL_out (by simp; omega)])
      subst hFl
      simp only [Tryz.ntmps61, Tryz.results61, push_cast, seval, c1, l1, hlast]

theorem numA_le {s : ByteArray} {a : Nat} {b : Bool} (ha : a ≤ s.size) : numA s a b ≤ s.size := by
  unfold numA
  split
  · exact ha
  · cases h : rvO s a with
    | none => exact ha
    | some p => obtain ⟨n, x⟩ := p; exact (rvO_bound h).2.2.2
theorem numN_le (s : ByteArray) (a : Nat) (b : Bool) : numN s a b ≤ 1000000000 := by
  unfold numN
  split
  · exact Nat.zero_le _
  · cases h : rvO s a with
    | none => exact Nat.zero_le _
    | some p => obtain ⟨n, x⟩ := p; exact (rvO_bound h).1
theorem takeA_le {s : ByteArray} {a : Nat} {b : Bool} {n : Nat} (ha : a ≤ s.size) : takeA s a b n ≤ s.size := by
  unfold takeA
  cases h : takeOk s a b n with
  | false => simpa using ha
  | true =>
    simp [takeOk] at h
    simp; exact h.2

theorem l05Var_ok (s : ByteArray) (hs : s.size ≤ 140737488355328) (a : Nat) (ha : a ≤ s.size) (b : Bool) : IoFn Tryz.prog 99 .box 3 [sc s a b] [] [sc s (numA s a b) (numB s a b)] [i64 (numN s a b)] := by
  refine IoFn_of_Go Tryz.func99 rfl (by decide) mo (by decide +kernel) (ioOk_box rfl) (ioOk_box rfl) rfl rfl ?_
  have k := readVarS_ok s hs a (by omega)
  cases b with
  | true =>
    cases hr : rvO s a with
    | none =>
      rw [hr] at k
      simp only [Tryz.ntmps99, Tryz.results99, push_cast, seval, sc, numA, numB, numN, hr]
      refine GoD_call rfl rfl k rfl rfl ?_
      simp only [Tryz.ntmps99, Tryz.results99, push_cast, seval, rvX, sc, numA, numB, numN, hr]
    | some p =>
      obtain ⟨n, x⟩ := p
      rw [hr] at k
      simp only [Tryz.ntmps99, Tryz.results99, push_cast, seval, sc, numA, numB, numN, hr]
      refine GoD_call rfl rfl k rfl rfl ?_
      simp only [Tryz.ntmps99, Tryz.results99, push_cast, seval, rvX, sc, numA, numB, numN, hr]
  | false =>
    cases hr : rvO s a with
    | none =>
      rw [hr] at k
      simp only [Tryz.ntmps99, Tryz.results99, push_cast, seval, sc, numA, numB, numN, hr]
      refine GoD_call rfl rfl k rfl rfl ?_
      simp only [Tryz.ntmps99, Tryz.results99, push_cast, seval, rvX, sc, numA, numB, numN, hr]
    | some p =>
      obtain ⟨n, x⟩ := p
      rw [hr] at k
      simp only [Tryz.ntmps99, Tryz.results99, push_cast, seval, sc, numA, numB, numN, hr]
      refine GoD_call rfl rfl k rfl rfl ?_
      simp only [Tryz.ntmps99, Tryz.results99, push_cast, seval, rvX, sc, numA, numB, numN, hr]
theorem l05Take_ok (s : ByteArray) (hs : s.size ≤ 140737488355328) (a : Nat) (ha : a ≤ s.size) (b : Bool) (n : Nat) (hn : n ≤ 140737488355328) : IoFn Tryz.prog 98 .box 3 [sc s a b] [i64 n] [sc s (takeA s a b n) (takeB s a b n)] [st (takeT s a b n)] := by
  refine IoFn_of_Go Tryz.func98 rfl (by decide) mo (by decide +kernel) (ioOk_box rfl) (ioOk_box rfl) rfl rfl ?_
  have w1 : IntKind.i64.wrap ((s.size : Int) - (a : Int)) = ((s.size - a : Nat) : Int) := wN (by omega) (by omega)
  obtain ⟨r, hr⟩ : ∃ r, r = s.size - a := ⟨_, rfl⟩
  rw [← hr] at w1
  have w2 : IntKind.i64.wrap ((a : Int) + (n : Int)) = ((a + n : Nat) : Int) := wN (by omega) (by omega)
  obtain ⟨x, hx⟩ : ∃ x, x = a + n := ⟨_, rfl⟩
  rw [← hx] at w2
  have w3 : IntKind.i64.wrap ((x : Int) - (n : Int)) = (a : Int) := wN (by omega) (by omega)
  cases b with
  | true =>
    have ho : takeOk s a true n = false := rfl
    simp only [Tryz.ntmps98, Tryz.results98, push_cast, seval, sc, takeT, takeA, takeB, ho]
  | false =>
    by_cases c : (r : Int) < (n : Int)
    · have ho : takeOk s a false n = false := by simp [takeOk]; omega
      simp only [Tryz.ntmps98, Tryz.results98, push_cast, seval, sc, takeT, takeA, takeB, ho, w1, c]
    · have ho : takeOk s a false n = true := by simp [takeOk]; omega
      have h1 : a ≤ x := by omega
      have h2 : x ≤ s.size := by omega
      simp only [Tryz.ntmps98, Tryz.results98, push_cast, seval, sc, takeT, takeA, takeB, ho, w1, c, w2, w3, h1, h2, ← hx]

def octN (s : ByteArray) (a : Nat) (b : Bool) : Nat := if takeOk s a b 1 then (bu s a).toNat else 0
theorem octN_lt (s : ByteArray) (a : Nat) (b : Bool) : octN s a b < 256 := by
  unfold octN
  split
  · exact u8_lt _
  · decide
theorem extract_one {s : ByteArray} {a : Nat} (h : a + 1 ≤ s.size) : s.extract a (a + 1) = ⟨[bu s a].toArray⟩ := by
  refine bytes_ext ?_
  rw [extract_list, show a + 1 - a = 0 + 1 by omega, seg_succ (by omega), seg_zero]; rfl
theorem octet_ok (s : ByteArray) (hs : s.size ≤ 140737488355328) (a : Nat) (ha : a ≤ s.size) (b : Bool) : IoFn Tryz.prog 128 .box 3 [sc s a b] [] [sc s (takeA s a b 1) (takeB s a b 1)] [i64 (octN s a b)] := by
  refine IoFn_of_Go Tryz.func128 rfl (by decide) mo (by decide +kernel) (ioOk_box rfl) (ioOk_box rfl) rfl rfl ?_
  have k := take_ok s hs a ha b 1 (by omega)
  simp only [Tryz.ntmps128, Tryz.results128, push_cast, seval, sc]
  refine GoL_io (0, 1) .box 3 [sc s a b] rfl rfl rfl rfl (.inl rfl) rfl k rfl rfl ?_
  obtain ⟨x, hx⟩ : ∃ x, x = takeA s a b 1 := ⟨_, rfl⟩
  obtain ⟨y, hy⟩ : ∃ y, y = takeB s a b 1 := ⟨_, rfl⟩
  rw [← hx, ← hy]
  cases ho : takeOk s a b 1 with
  | false =>
    have ht : takeT s a b 1 = ⟨#[]⟩ := by simp [takeT, ho]
    rw [ht]
    simp only [Tryz.ntmps128, Tryz.results128, push_cast, seval, sc, octN, ho, Bool.false_eq_true, Int.ofNat_zero]
  | true =>
    have hle : a + 1 ≤ s.size := by simp [takeOk] at ho; exact ho.2
    have ht : takeT s a b 1 = ⟨[bu s a].toArray⟩ := by simp only [takeT, ho, if_true]; exact extract_one hle
    rw [ht]
    obtain ⟨t, htt⟩ : ∃ t : ByteArray, t = ⟨[bu s a].toArray⟩ := ⟨_, rfl⟩
    rw [← htt]
    have hne : decide (t = ⟨#[]⟩) = false := by
      rw [htt]; apply decide_eq_false; intro h
      have := congrArg ByteArray.size h
      have h2 : (1 : Nat) = 0 := this
      omega
    have h0 : t[0]? = some (bu s a) := by rw [htt]; rfl
    have hw : IntKind.i64.wrap ((bu s a).toNat : Int) = ((bu s a).toNat : Int) := wN rfl (by have := u8_lt (bu s a); omega)
    have hi := index_str (P := Tryz.prog) (t := 9) t 0 .i64
    rw [show ((0 : Nat) : Int) = 0 from rfl, h0] at hi
    simp only [Tryz.ntmps128, Tryz.results128, push_cast, seval, sc, octN, ho, hne, hi, hw]

def flagB (s : ByteArray) (a : Nat) (b : Bool) : Bool := if 1 < octN s a b then true else takeB s a b 1
def shB (s : ByteArray) (a : Nat) (b : Bool) : Bool := if 20000 < numN s a b then true else numB s a b
def shT (s : ByteArray) (a : Nat) (b : Bool) : ByteArray := takeT s (numA s a b) (shB s a b) (numN s a b)
def shA (s : ByteArray) (a : Nat) (b : Bool) : Nat := takeA s (numA s a b) (shB s a b) (numN s a b)
def shBB (s : ByteArray) (a : Nat) (b : Bool) : Bool := takeB s (numA s a b) (shB s a b) (numN s a b)
def l5A (s : ByteArray) (a : Nat) (b : Bool) : Nat := takeA s (numA s a b) (numB s a b) (numN s a b)
def l5B (s : ByteArray) (a : Nat) (b : Bool) : Bool := takeB s (numA s a b) (numB s a b) (numN s a b)
def l5T (s : ByteArray) (a : Nat) (b : Bool) : ByteArray := takeT s (numA s a b) (numB s a b) (numN s a b)
theorem done_ok (s : ByteArray) (a : Nat) (b : Bool) : IoFn Tryz.prog 109 .box 3 [sc s a b] [] [sc s a b] [bo (!b && decide ((a : Int) = (s.size : Int)))] := by
  refine IoFn_of_Go Tryz.func109 rfl (by decide) mo (by decide +kernel) (ioOk_box rfl) (ioOk_box rfl) rfl rfl ?_
  cases b with
  | true => simp only [Tryz.ntmps109, Tryz.results109, push_cast, seval, sc]
  | false => simp only [Tryz.ntmps109, Tryz.results109, push_cast, seval, sc]


def inR (n a b : Int) : Bool := decide (a ≤ n) && decide (n ≤ b)
theorem inR_spec {n a b : Int} : inR n a b = true ↔ a ≤ n ∧ n ≤ b := by simp [inR]

theorem isTerm_ok (n : Int) : PureFn Tryz.prog 86 [i64 n] [bo (inR n 0 100000)] := by
  refine PureFn_of_Go Tryz.func86 rfl (by decide) mo (by decide +kernel) ?_
  simp only [Tryz.ntmps86, Tryz.results86, push_cast, seval]
  refine GoL_call rfl rfl (inRange_ok n 0 100000) rfl rfl ?_
  simp only [Tryz.ntmps86, Tryz.results86, push_cast, seval, inR]
theorem isIndex_ok (n : Int) : PureFn Tryz.prog 115 [i64 n] [bo (inR n 0 1000000)] := by
  refine PureFn_of_Go Tryz.func115 rfl (by decide) mo (by decide +kernel) ?_
  simp only [Tryz.ntmps115, Tryz.results115, push_cast, seval]
  refine GoL_call rfl rfl (inRange_ok n 0 1000000) rfl rfl ?_
  simp only [Tryz.ntmps115, Tryz.results115, push_cast, seval, inR]
theorem isNode_ok (n : Int) : PureFn Tryz.prog 149 [i64 n] [bo (inR n 1 4)] := by
  refine PureFn_of_Go Tryz.func149 rfl (by decide) mo (by decide +kernel) ?_
  simp only [Tryz.ntmps149, Tryz.results149, push_cast, seval]
  refine GoL_call rfl rfl (inRange_ok n 1 4) rfl rfl ?_
  simp only [Tryz.ntmps149, Tryz.results149, push_cast, seval, inR]

/-! ### numbers that rise -/
def at_ (l : List Int) (i : Nat) : Int := l.getD i default
def rise (l : List Int) (a b : Int) : Prop := ∀ i, i < l.length → a ≤ at_ l i ∧ at_ l i ≤ b ∧ (0 < i → at_ l (i - 1) < at_ l i)
instance (l : List Int) (a b : Int) : Decidable (rise l a b) := by unfold rise; infer_instance
theorem areNodes_ok (l : List Int) (hl : l.length ≤ 140737488355328) : PureFn Tryz.prog 143 [.one (.sh 1 (vR (ints l)))] [bo (decide (rise l 1 4))] := by
  refine PureFn_of_Go Tryz.func143 rfl (by decide) mo (by decide +kernel) ?_
  obtain ⟨r, hr⟩ : ∃ r, r = decide (rise l 1 4) := ⟨_, rfl⟩
  rw [← hr]
  simp only [Tryz.ntmps143, Tryz.results143, push_cast, seval, ints_length]
  refine Go_loop (α := {i : Nat // i ≤ l.length ∧ ∀ j, j < i → 1 ≤ at_ l j ∧ at_ l j ≤ 4 ∧ (0 < j → at_ l (j - 1) < at_ l j)})
    (fun i => ⟨tp 29 [(0, .x (.one (.sh 1 (vR (ints l))))), (5, .x (.one (.sh 1 (vR (ints l))))), (6, int l.length), (7, int i.1)], 0, [], []⟩) (fun i => l.length - i.1) ⟨0, by omega, fun j h => absurd h (Nat.not_lt_zero _)⟩ ?_ ?_
  · exact Weak.same (by simp only [push_cast, seval, Int.ofNat_zero])
  · rintro ⟨i, hi, hall⟩ X hX
    by_cases hlt : (i : Int) < (l.length : Int)
    · have hi' : i < l.length := by omega
      have ws := wsucc hi' hl
      have hg := ints_getD l hi'
      rw [show l.getD i default = at_ l i from rfl] at hg
      have kn := isNode_ok (at_ l i)
      obtain ⟨x, hx⟩ : ∃ x, x = at_ l i := ⟨_, rfl⟩
      rw [← hx] at hg kn
      obtain ⟨i', hi1⟩ : ∃ i', i' = i + 1 := ⟨_, rfl⟩
      rw [← hi1] at ws
      simp only [push_cast, seval, ints_length, hlt, hi', vR_getD, hg]
      refine GoL_call rfl rfl kn rfl rfl ?_
      cases c1 : inR x 1 4 with
      | false =>
        have hf : r = false := by
          rw [hr]; apply decide_eq_false
          intro h
          have := h i hi'
          have h2 : inR x 1 4 = true := inR_spec.2 ⟨by rw [hx]; exact this.1, by rw [hx]; exact this.2.1⟩
          rw [h2] at c1; cases c1
        subst hf
        simp only [Tryz.ntmps143, Tryz.results143, push_cast, seval]
      | true =>
        have hin := inR_spec.1 c1
        by_cases c2 : (0 : Int) < (i : Int)
        · have hpi : i - 1 < l.length := by omega
          have hgp := ints_getD l hpi
          rw [show l.getD (i - 1) default = at_ l (i - 1) from rfl] at hgp
          have wp : IntKind.i64.wrap ((i : Int) - 1) = ((i - 1 : Nat) : Int) := wN (by omega) (by omega)
          obtain ⟨p, hp⟩ : ∃ p, p = i - 1 := ⟨_, rfl⟩
          rw [← hp] at hgp wp hpi
          obtain ⟨y, hy⟩ : ∃ y, y = at_ l p := ⟨_, rfl⟩
          rw [← hy] at hgp
          have hpl : (p : Int) < (l.length : Int) := by omega
          by_cases c3 : x ≤ y
          · have hf : r = false := by
              rw [hr]; apply decide_eq_false
              intro h
              have := (h i hi').2.2 (by omega)
              rw [← hp, ← hy, ← hx] at this; omega
            subst hf
            simp only [Tryz.ntmps143, Tryz.results143, push_cast, seval, ints_length, c2, wp, hpi, hpl, vR_getD, hgp, c3]
          · simp only [push_cast, seval, ints_length, c2, wp, hpi, hpl, vR_getD, hgp, c3, ws]
            refine ⟨_, ?_, hX ⟨i', by omega, fun j hj => ?_⟩ (by simp only; omega)⟩
            · exact Weak.same (by simp only [push_cast, seval])
            · by_cases e : j = i
              · subst e
                exact ⟨by rw [← hx]; exact hin.1, by rw [← hx]; exact hin.2, fun _ => by rw [← hp, ← hy, ← hx]; omega⟩
              · exact hall j (by omega)
        · simp only [push_cast, seval, ints_length, c2, ws]
          refine ⟨_, ?_, hX ⟨i', by omega, fun j hj => ?_⟩ (by simp only; omega)⟩
          · exact Weak.same (by simp only [push_cast, seval])
          · by_cases e : j = i
            · subst e
              exact ⟨by rw [← hx]; exact hin.1, by rw [← hx]; exact hin.2, fun h0 => by omega⟩
            · exact hall j (by omega)
    · have ht : r = true := by
        rw [hr]; apply decide_eq_true
        intro j hj; exact hall j (by omega)
      subst ht
      simp only [Tryz.ntmps143, Tryz.results143, push_cast, seval, hlt]
theorem l05Rise_ok (l : List Int) (hl : l.length ≤ 140737488355328) (a b : Int) : PureFn Tryz.prog 138 [.one (.sh 1 (vR (ints l))), i64 a, i64 b] [bo (decide (rise l a b))] := by
  refine PureFn_of_Go Tryz.func138 rfl (by decide) mo (by decide +kernel) ?_
  obtain ⟨r, hr⟩ : ∃ r, r = decide (rise l a b) := ⟨_, rfl⟩
  rw [← hr]
  simp only [Tryz.ntmps138, Tryz.results138, push_cast, seval, ints_length]
  refine Go_loop (α := {i : Nat // i ≤ l.length ∧ ∀ j, j < i → a ≤ at_ l j ∧ at_ l j ≤ b ∧ (0 < j → at_ l (j - 1) < at_ l j)})
    (fun i => ⟨tp 38 [(0, .x (.one (.sh 1 (vR (ints l))))), (1, .x (i64 a)), (2, .x (i64 b)), (7, int i.1)], 0, [], []⟩) (fun i => l.length - i.1) ⟨0, by omega, fun j h => absurd h (Nat.not_lt_zero _)⟩ ?_ ?_
  · exact Weak.same (by simp only [push_cast, seval, Int.ofNat_zero])
  · rintro ⟨i, hi, hall⟩ X hX
    by_cases hlt : (i : Int) < (l.length : Int)
    · have hi' : i < l.length := by omega
      have ws := wsucc hi' hl
      have hg := ints_getD l hi'
      rw [show l.getD i default = at_ l i from rfl] at hg
      have kn := l01In_ok (at_ l i) a b
      obtain ⟨x, hx⟩ : ∃ x, x = at_ l i := ⟨_, rfl⟩
      rw [← hx] at hg kn
      obtain ⟨i', hi1⟩ : ∃ i', i' = i + 1 := ⟨_, rfl⟩
      rw [← hi1] at ws
      simp only [push_cast, seval, ints_length, hlt, hi', vR_getD, hg]
      refine GoD_call rfl rfl kn rfl rfl ?_
      rw [show (decide (a ≤ x) && decide (x ≤ b)) = inR x a b from rfl]
      cases c1 : inR x a b with
      | false =>
        have hf : r = false := by
          rw [hr]; apply decide_eq_false
          intro h
          have := h i hi'
          have h2 : inR x a b = true := inR_spec.2 ⟨by rw [hx]; exact this.1, by rw [hx]; exact this.2.1⟩
          rw [h2] at c1; cases c1
        subst hf
        simp only [Tryz.ntmps138, Tryz.results138, push_cast, seval]
      | true =>
        have hin := inR_spec.1 c1
        by_cases c2 : (0 : Int) < (i : Int)
        · have hpi : i - 1 < l.length := by omega
          have hgp := ints_getD l hpi
          rw [show l.getD (i - 1) default = at_ l (i - 1) from rfl] at hgp
          have wp : IntKind.i64.wrap ((i : Int) - 1) = ((i - 1 : Nat) : Int) := wN (by omega) (by omega)
          obtain ⟨p, hp⟩ : ∃ p, p = i - 1 := ⟨_, rfl⟩
          rw [← hp] at hgp wp hpi
          obtain ⟨y, hy⟩ : ∃ y, y = at_ l p := ⟨_, rfl⟩
          rw [← hy] at hgp
          have hpl : (p : Int) < (l.length : Int) := by omega
          by_cases c3 : x ≤ y
          · have hf : r = false := by
              rw [hr]; apply decide_eq_false
              intro h
              have := (h i hi').2.2 (by omega)
              rw [← hp, ← hy, ← hx] at this; omega
            subst hf
            simp only [Tryz.ntmps138, Tryz.results138, push_cast, seval, ints_length, hlt, hi', hg, c2, wp, hpi, hpl, vR_getD, hgp, c3]
          · simp only [push_cast, seval, ints_length, hlt, hi', hg, c2, wp, hpi, hpl, vR_getD, hgp, c3, ws]
            refine ⟨_, ?_, hX ⟨i', by omega, fun j hj => ?_⟩ (by simp only; omega)⟩
            · exact Weak.same (by simp only [push_cast, seval])
            · by_cases e : j = i
              · subst e
                exact ⟨by rw [← hx]; exact hin.1, by rw [← hx]; exact hin.2, fun _ => by rw [← hp, ← hy, ← hx]; omega⟩
              · exact hall j (by omega)
        · simp only [push_cast, seval, ints_length, c2, ws]
          refine ⟨_, ?_, hX ⟨i', by omega, fun j hj => ?_⟩ (by simp only; omega)⟩
          · exact Weak.same (by simp only [push_cast, seval])
          · by_cases e : j = i
            · subst e
              exact ⟨by rw [← hx]; exact hin.1, by rw [← hx]; exact hin.2, fun h0 => by omega⟩
            · exact hall j (by omega)
    · have ht : r = true := by
        rw [hr]; apply decide_eq_true
        intro j hj; exact hall j (by omega)
      subst ht
      simp only [Tryz.ntmps138, Tryz.results138, push_cast, seval, hlt, ints_length]

def confB (l : List Int) : Bool := decide ((0 : Int) < (l.length : Int)) && decide (rise l 1 4)
theorem rise_len {l : List Int} (h : rise l 1 4) : l.length ≤ 4 := by
  have key : ∀ i, i < l.length → (i : Int) + 1 ≤ at_ l i := by
    intro i
    induction i with
    | zero => intro hi; have := (h 0 hi).1; omega
    | succ i ih =>
      intro hi
      have h1 := ih (by omega)
      have h2 := (h (i + 1) hi).2.2 (by omega)
      rw [Nat.add_sub_cancel] at h2
      omega
  rcases Nat.lt_or_ge 4 l.length with h4 | h4
  · have h1 := key 4 h4
    have h2 := (h 4 h4).2.1
    omega
  · exact h4
theorem confOkI_ok (l : List Int) (hl : l.length ≤ 140737488355328) : PureFn Tryz.prog 136 [.one (.sh 1 (vR (ints l)))] [bo (confB l)] := by
  refine PureFn_of_Go Tryz.func136 rfl (by decide) mo (by decide +kernel) ?_
  have k := areNodes_ok l hl
  unfold confB
  by_cases c : (0 : Int) < (l.length : Int)
  · simp only [Tryz.ntmps136, Tryz.results136, push_cast, seval, ints_length, c]
    refine GoL_call rfl rfl k rfl rfl ?_
    simp only [Tryz.ntmps136, Tryz.results136, push_cast, seval, ints_length, c]
  · simp only [Tryz.ntmps136, Tryz.results136, push_cast, seval, ints_length, c]
theorem confOkS_ok (l : List Int) (hl : l.length ≤ 140737488355328) : PureFn Tryz.prog 133 [.one (.sh 1 (vR (ints l)))] [bo (confB l)] := by
  refine PureFn_of_Go Tryz.func133 rfl (by decide) mo (by decide +kernel) ?_
  have k1 := l01In_ok l.length 1 4
  have k2 := l05Rise_ok l hl 1 4
  simp only [Tryz.ntmps133, Tryz.results133, push_cast, seval, ints_length]
  refine GoL_call rfl rfl k1 rfl rfl ?_
  rw [show (decide ((1 : Int) ≤ (l.length : Int)) && decide ((l.length : Int) ≤ 4)) = inR l.length 1 4 from rfl]
  cases c : inR l.length 1 4 with
  | true =>
    have hc := inR_spec.1 c
    have h0 : (0 : Int) < (l.length : Int) := by omega
    simp only [Tryz.ntmps133, Tryz.results133, push_cast, seval, confB, h0]
    refine GoL_call rfl rfl k2 rfl rfl ?_
    simp only [Tryz.ntmps133, Tryz.results133, push_cast, seval, confB, h0]
  | false =>
    have hb : confB l = false := by
      cases hb : confB l with
      | false => rfl
      | true =>
        simp only [confB, Bool.and_eq_true, decide_eq_true_eq] at hb
        have := rise_len hb.2
        have h2 : inR l.length 1 4 = true := inR_spec.2 ⟨by omega, by omega⟩
        rw [h2] at c; cases c
    simp only [Tryz.ntmps133, Tryz.results133, push_cast, seval, hb]

/-! ### a text as numbers -/
def natsL (s : ByteArray) : List Int := s.data.toList.map fun b => (b.toNat : Int)
theorem natsL_length (s : ByteArray) : (natsL s).length = s.size := by simp [natsL]
theorem natsL_take (s : ByteArray) {i : Nat} (h : i < s.size) : (natsL s).take (i + 1) = (natsL s).take i ++ [((bu s i).toNat : Int)] := by
  have h2 : i < s.data.toList.length := by rw [Array.length_toList]; exact h
  have h3 : i < (natsL s).length := by rw [natsL_length]; exact h
  rw [List.take_add_one, List.getElem?_eq_getElem h3]
  simp [natsL, bu, List.getD_eq_getElem?_getD, List.getElem?_eq_getElem h2]
theorem byR_getD (s : ByteArray) {i : Nat} (h : i < s.size) : (byR s.data.toList).getD i [] = [.v (.int .u8 ((bu s i).toNat : Int))] := by
  have h2 : i < s.data.toList.length := by rw [Array.length_toList]; exact h
  simp [byR, bu, List.getD_eq_getElem?_getD, List.getElem?_map, List.getElem?_eq_getElem h2]
theorem numbers_ok (s : ByteArray) (hs : s.size ≤ 1000000) : PureFn Tryz.prog 135 [st s] [.one (.own 1 (vR (ints (natsL s))))] := by
  refine PureFn_of_Go Tryz.func135 rfl (by decide) mo (by decide +kernel) ?_
  have h1 : s.size ≤ 281474976710656 := by omega
  have hbl : (byR s.data.toList).length = s.size := by rw [byR_length, Array.length_toList]; rfl
  obtain ⟨F, hF⟩ : ∃ F, F = natsL s := ⟨_, rfl⟩
  rw [← hF]
  simp only [Tryz.ntmps135, Tryz.results135, push_cast, seval, h1, byteRows_byR]
  refine Go_loop (α := {i : Nat // i ≤ s.size})
    (fun i => ⟨tp 20 [(3, .x (.one (.rs (0, 1088) [] 1 0 i.1))), (7, .x (.one (.rs (0, 448) [] 1 0 s.size))), (8, int s.size), (9, int i.1)], 0, [((0, 1088), ⟨.sl, 1, vR (ints (F.take i.1))⟩), ((0, 448), ⟨.sl, 1, byR s.data.toList⟩)], []⟩) (fun i => s.size - i.1) ⟨0, Nat.zero_le _⟩ ?_ ?_
  · refine Weak.trans (Weak.nilRoot (0, 1088) 1 3 rfl rfl rfl) ?_
    simp only [push_cast, seval, ints, List.map_nil, List.take_zero]
    exact Weak.same (by simp only [push_cast, seval, Int.ofNat_zero])
  · rintro ⟨i, hi⟩ X hX
    have hll : (ints (F.take i)).length = i := by rw [ints_length, List.length_take, hF, natsL_length]; omega
    by_cases hlt : (i : Int) < (s.size : Int)
    · have hi' : i < s.size := by omega
      have ws := wsucc hi' (by omega)
      have hg := byR_getD s hi'
      have hw : IntKind.i64.wrap ((bu s i).toNat : Int) = ((bu s i).toNat : Int) := wN rfl (by have := u8_lt (bu s i); omega)
      have a0 : i + 1 ≤ 4294967296 := by omega
      have a1 := max_len a0
      have a2 := room_le (b := 8) a0 (by decide)
      have s1 := vR_snoc (ints (F.take i)) [.int .i64 ((bu s i).toNat : Int)]
      have e1 : ints (F.take i) ++ [[Value.int .i64 ((bu s i).toNat : Int)]] = ints (F.take (i + 1)) := by rw [hF, natsL_take s hi']; simp [ints]
      rw [e1] at s1
      simp only [List.map_cons, List.map_nil] at s1
      obtain ⟨i', hi1⟩ : ∃ i', i' = i + 1 := ⟨_, rfl⟩
      rw [← hi1] at ws s1
      simp only [push_cast, seval, hlt, hi', hbl, hg, hw, hll, a1, a2, s1, ws, flatRows, flatRow]
      refine ⟨_, ?_, hX ⟨i', by omega⟩ (by simp only; omega)⟩
      exact Weak.drop (by simp only [push_cast, seval, hi1]) (by simp only [push_cast, seval, hi1]) (by simp only [push_cast, seval, hi1])
    · have hie : i = s.size := by omega
      have hfin : F.take i = F := List.take_of_length_le (by rw [hF, natsL_length, hie]; exact Nat.le_refl _)
      rw [hfin] at hll
      simp only [hfin]
      simp only [Tryz.ntmps135, Tryz.results135, push_cast, seval, hlt, hll]


def rcB (s : ByteArray) : Bool := decide ((s.size : Int) ≤ 4) && confB (natsL s)
def rcX (s : ByteArray) : List X := if rcB s then [.one (.own 1 (vR (ints (natsL s)))), bo true] else [.one (.own 1 []), bo false]
theorem readConfI_ok (s : ByteArray) (hs : s.size ≤ 140737488355328) : PureFn Tryz.prog 130 [st s] (rcX s) := by
  refine PureFn_of_GoW Tryz.func130 rfl (by decide) mo (by decide +kernel) ?_
  by_cases c : (4 : Int) < (s.size : Int)
  · have hb : rcB s = false := by
      simp only [rcB]; rw [decide_eq_false (by omega), Bool.false_and]
    simp only [rcX, hb, Bool.false_eq_true, if_false]
    simp only [Tryz.ntmps130, Tryz.results130, push_cast, seval, c]
    refine ⟨_, Weak.nilRoot (0, 1) 1 2 rfl rfl rfl, ?_⟩
    simp only [Tryz.ntmps130, Tryz.results130, push_cast, seval]
  · have h4 : (s.size : Int) ≤ 4 := by omega
    have k := numbers_ok s (by omega)
    have k2 := confOkI_ok (natsL s) (by rw [natsL_length]; omega)
    have hl : (ints (natsL s)).length = s.size := by rw [ints_length, natsL_length]
    have ht : (vR (ints (natsL s))).take s.size = vR (ints (natsL s)) := List.take_of_length_le (by rw [vR_length, hl]; exact Nat.le_refl _)
    have hb : rcB s = confB (natsL s) := by simp only [rcB]; rw [decide_eq_true h4, Bool.true_and]
    simp only [Tryz.ntmps130, Tryz.results130, push_cast, seval, c]
    refine GoL_call rfl rfl k (by simp only [push_cast, seval]) rfl ?_
    simp only [Tryz.ntmps130, Tryz.results130, push_cast, seval, hl]
    refine GoL_call rfl (by simp only [push_cast, seval, ht]) k2 rfl rfl ?_
    cases c2 : confB (natsL s) with
    | true =>
      have hb2 := hb.trans c2
      simp only [rcX, hb2, if_true]
      simp only [Tryz.ntmps130, Tryz.results130, push_cast, seval]
      refine ⟨_, Weak.refl _, ?_⟩
      simp only [Tryz.ntmps130, Tryz.results130, push_cast, seval, hl]
    | false =>
      have hb2 := hb.trans c2
      simp only [rcX, hb2, Bool.false_eq_true, if_false]
      simp only [Tryz.ntmps130, Tryz.results130, push_cast, seval]
      refine ⟨_, Weak.nilRoot (0, 1) 1 2 rfl rfl rfl, ?_⟩
      simp only [Tryz.ntmps130, Tryz.results130, push_cast, seval]
theorem readConfS_ok (s : ByteArray) (hs : s.size ≤ 140737488355328) : PureFn Tryz.prog 121 [st s] (rcX s) := by
  refine PureFn_of_Go Tryz.func121 rfl (by decide) mo (by decide +kernel) ?_
  obtain ⟨F, hF⟩ : ∃ F, F = natsL s := ⟨_, rfl⟩
  have hFl : F.length = s.size := by rw [hF, natsL_length]
  obtain ⟨ret, hret⟩ : ∃ ret, ret = rcX s := ⟨_, rfl⟩
  rw [← hret]
  simp only [Tryz.ntmps121, Tryz.results121, push_cast, seval]
  refine Go_loop (α := {i : Nat // i ≤ s.size ∧ i ≤ 5})
    (fun i => ⟨tp 36 [(0, .x (st s)), (4, .x (.one (.rs (0, 1472) [] 1 0 i.1))), (5, int i.1)], 0, [((0, 1472), ⟨.sl, 1, vR (ints (F.take i.1))⟩)], []⟩) (fun i => s.size - i.1) ⟨0, Nat.zero_le _, by omega⟩ ?_ ?_
  · refine Weak.trans (Weak.rename (0, 384) (0, 1472) rfl rfl (by decide) rfl) ?_
    simp only [push_cast, seval, ints, List.map_nil, List.take_zero]
    exact Weak.same (by simp only [push_cast, seval, Int.ofNat_zero])
  · rintro ⟨i, hi, hi5⟩ X hX
    have hll : (ints (F.take i)).length = i := by rw [ints_length, List.length_take, hFl]; omega
    by_cases hlt : (i : Int) < (s.size : Int)
    · have hi' : i < s.size := by omega
      by_cases h4 : (i : Int) ≤ 4
      · have ws := wsucc hi' (by omega)
        have hb := bu_get hi'
        have hw : IntKind.i64.wrap ((bu s i).toNat : Int) = ((bu s i).toNat : Int) := wN rfl (by have := u8_lt (bu s i); omega)
        have a0 : i + 1 ≤ 4294967296 := by omega
        have a1 := max_len a0
        have a2 := room_le (b := 8) a0 (by decide)
        have s1 := vR_snoc (ints (F.take i)) [.int .i64 ((bu s i).toNat : Int)]
        have e1 : ints (F.take i) ++ [[Value.int .i64 ((bu s i).toNat : Int)]] = ints (F.take (i + 1)) := by rw [hF, natsL_take s hi']; simp [ints]
        rw [e1] at s1
        simp only [List.map_cons, List.map_nil] at s1
        obtain ⟨i', hi1⟩ : ∃ i', i' = i + 1 := ⟨_, rfl⟩
        rw [← hi1] at ws s1
        simp only [push_cast, seval, hlt, h4, hb, hw, hll, a1, a2, s1, ws, flatRows, flatRow]
        refine ⟨_, ?_, hX ⟨i', by omega, by omega⟩ (by simp only; omega)⟩
        exact Weak.drop (by simp only [push_cast, seval, hi1]) (by simp only [push_cast, seval, hi1]) (by simp only [push_cast, seval, hi1])
      · have hne : decide ((i : Int) = (s.size : Int)) = false := decide_eq_false (by omega)
        have hr : rcB s = false := by simp only [rcB]; rw [decide_eq_false (by omega), Bool.false_and]
        simp only [rcX, hr, Bool.false_eq_true, if_false] at hret
        subst hret
        simp only [Tryz.ntmps121, Tryz.results121, push_cast, seval, hlt, h4, decide_not, hne, hll]
    · have hie : i = s.size := by omega
      have hfin : F.take i = F := List.take_of_length_le (by rw [hFl, hie]; exact Nat.le_refl _)
      have heq : decide ((i : Int) = (s.size : Int)) = true := decide_eq_true (by omega)
      rw [hfin] at hll
      have k2 := confOkS_ok F (by rw [hFl]; omega)
      have ht : (vR (ints F)).take i = vR (ints F) := List.take_of_length_le (by rw [vR_length, hll]; exact Nat.le_refl _)
      have hr : rcB s = confB F := by
        simp only [rcB, ← hF]
        cases hc : confB F with
        | false => rw [Bool.and_false]
        | true =>
          simp only [confB, Bool.and_eq_true, decide_eq_true_eq] at hc
          have := rise_len hc.2
          rw [decide_eq_true (by omega)]; rfl
      simp only [hfin]
      simp only [Tryz.ntmps121, Tryz.results121, push_cast, seval, hlt, decide_not, heq, hll]
      refine GoL_call rfl (by simp only [push_cast, seval, ht]) k2 rfl rfl ?_
      cases c2 : confB F with
      | true =>
        simp only [rcX, hr.trans c2, if_true, ← hF] at hret
        subst hret
        simp only [Tryz.ntmps121, Tryz.results121, push_cast, seval, hll]
      | false =>
        simp only [rcX, hr.trans c2, Bool.false_eq_true, if_false] at hret
        subst hret
        simp only [Tryz.ntmps121, Tryz.results121, push_cast, seval, hll]

/-! ### entries -/
def entC (term kind : Int) (data : ByteArray) : List C := [.v (.int .i64 term), .v (.int .i64 kind), .v (.string data)]
def eoB (term kind : Int) (data : ByteArray) : Bool := inR term 0 100000 &&
  (if decide (kind = 1) then decide (data = ⟨#[]⟩) else if decide (kind = 2) then rcB data else if decide (kind = 3) then decide ((data.size : Int) ≤ 640) else false)
theorem rcX_true {s : ByteArray} (h : rcB s = true) : rcX s = [.one (.own 1 (vR (ints (natsL s)))), bo true] := by simp only [rcX, h, if_true]
theorem rcX_false {s : ByteArray} (h : rcB s = false) : rcX s = [.one (.own 1 []), bo false] := by simp only [rcX, h, Bool.false_eq_true, if_false]
theorem entryOkI_ok (term kind : Int) (data : ByteArray) (hd : data.size ≤ 140737488355328) : PureFn Tryz.prog 116 [.agg (entC term kind data)] [bo (eoB term kind data)] := by
  refine PureFn_of_Go Tryz.func116 rfl (by decide) mo (by decide +kernel) ?_
  have k1 := isTerm_ok term
  have k2 := readConfI_ok data hd
  simp only [Tryz.ntmps116, Tryz.results116, push_cast, seval, entC]
  refine GoL_call rfl rfl k1 rfl rfl ?_
  unfold eoB
  cases c0 : inR term 0 100000 with
  | false => simp only [Tryz.ntmps116, Tryz.results116, push_cast, seval]
  | true =>
    cases c1 : decide (kind = 1) with
    | true => simp only [Tryz.ntmps116, Tryz.results116, push_cast, seval, c1]
    | false =>
      cases c2 : decide (kind = 2) with
      | true =>
        simp only [Tryz.ntmps116, Tryz.results116, push_cast, seval, c1, c2]
        cases c3 : rcB data with
        | true =>
          rw [rcX_true c3] at k2
          refine GoL_call rfl rfl k2 (by simp only [push_cast, seval]) rfl ?_
          simp only [Tryz.ntmps116, Tryz.results116, push_cast, seval]
        | false =>
          rw [rcX_false c3] at k2
          refine GoL_call rfl rfl k2 rfl rfl ?_
          simp only [Tryz.ntmps116, Tryz.results116, push_cast, seval]
      | false =>
        cases c4 : decide (kind = 3) with
        | true => simp only [Tryz.ntmps116, Tryz.results116, push_cast, seval, c1, c2, c4]
        | false => simp only [Tryz.ntmps116, Tryz.results116, push_cast, seval, c1, c2, c4]
theorem entryOkS_ok (term kind : Int) (data : ByteArray) (hd : data.size ≤ 140737488355328) : PureFn Tryz.prog 100 [.agg (entC term kind data)] [bo (eoB term kind data)] := by
  refine PureFn_of_Go Tryz.func100 rfl (by decide) mo (by decide +kernel) ?_
  have k1 := l01In_ok term 0 100000
  have k2 := readConfS_ok data hd
  simp only [Tryz.ntmps100, Tryz.results100, push_cast, seval, entC]
  refine GoL_call rfl rfl k1 rfl rfl ?_
  rw [show (decide ((0 : Int) ≤ term) && decide (term ≤ 100000)) = inR term 0 100000 from rfl]
  unfold eoB
  cases c0 : inR term 0 100000 with
  | false => simp only [Tryz.ntmps100, Tryz.results100, push_cast, seval]
  | true =>
    cases c1 : decide (kind = 1) with
    | true => simp only [Tryz.ntmps100, Tryz.results100, push_cast, seval, c1]
    | false =>
      cases c2 : decide (kind = 2) with
      | true =>
        simp only [Tryz.ntmps100, Tryz.results100, push_cast, seval, c1, c2]
        cases c3 : rcB data with
        | true =>
          rw [rcX_true c3] at k2
          refine GoL_call rfl rfl k2 (by simp only [push_cast, seval]) rfl ?_
          simp only [Tryz.ntmps100, Tryz.results100, push_cast, seval]
        | false =>
          rw [rcX_false c3] at k2
          refine GoL_call rfl rfl k2 rfl rfl ?_
          simp only [Tryz.ntmps100, Tryz.results100, push_cast, seval]
      | false =>
        cases c4 : decide (kind = 3) with
        | true => simp only [Tryz.ntmps100, Tryz.results100, push_cast, seval, c1, c2, c4]
        | false => simp only [Tryz.ntmps100, Tryz.results100, push_cast, seval, c1, c2, c4]

def etB (index term kind : Nat) (data : ByteArray) : ByteArray := (((⟨#[69]⟩ ++ varB index) ++ varB term) ++ ⟨[UInt8.ofNat kind].toArray⟩) ++ data
def etOk (index term kind : Nat) (data : ByteArray) : Bool := eoB term kind data && inR index 1 1000000
def etX (index term kind : Nat) (data : ByteArray) : List X := if etOk index term kind data then [st (etB index term kind data), bo true] else [st ⟨#[]⟩, bo false]
theorem entryTextS_ok (index term kind : Nat) (hi : index ≤ 1000000000) (ht : term ≤ 1000000000) (data : ByteArray) (hd : data.size ≤ 140737488355328) : PureFn Tryz.prog 84 [i64 index, .agg (entC term kind data)] (etX index term kind data) := by
  refine PureFn_of_Go Tryz.func84 rfl (by decide) mo (by decide +kernel) ?_
  have k1 := entryOkS_ok term kind data hd
  have k2 := l01In_ok index 1 1000000
  rw [show (decide ((1 : Int) ≤ (index : Int)) && decide ((index : Int) ≤ 1000000)) = inR index 1 1000000 from rfl] at k2
  simp only [entC] at k1
  simp only [Tryz.ntmps84, Tryz.results84, push_cast, seval, entC]
  refine GoL_call rfl rfl k1 rfl rfl ?_
  cases c1 : eoB term kind data with
  | false =>
    have hx : etX index term kind data = [st ⟨#[]⟩, bo false] := by simp only [etX, etOk, c1, Bool.false_and, Bool.false_eq_true, if_false]
    rw [hx]
    simp only [Tryz.ntmps84, Tryz.results84, push_cast, seval]
  | true =>
    simp only [Tryz.ntmps84, Tryz.results84, push_cast, seval]
    refine GoL_call rfl rfl k2 rfl rfl ?_
    cases c2 : inR index 1 1000000 with
    | false =>
      have hx : etX index term kind data = [st ⟨#[]⟩, bo false] := by simp only [etX, etOk, c1, c2, Bool.true_and, Bool.false_eq_true, if_false]
      rw [hx]
      simp only [Tryz.ntmps84, Tryz.results84, push_cast, seval]
    | true =>
      have hx : etX index term kind data = [st (etB index term kind data), bo true] := by simp only [etX, etOk, c1, c2, Bool.true_and, if_true]
      rw [hx]
      have h1 := varB_size index
      have h2 := varB_size term
      have e1 : (⟨#[69]⟩ : ByteArray).size = 1 := rfl
      have r1 : (⟨#[69]⟩ : ByteArray).size + (varB index).size ≤ 9223372036854775807 := by omega
      have r2 : (⟨#[69]⟩ ++ varB index).size + (varB term).size ≤ 9223372036854775807 := by rw [ByteArray.size_append]; omega
      have w := wu8 (n := kind)
      have hf := str_natsOf [UInt8.ofNat kind]
      simp only [natsOf, List.map_cons, List.map_nil] at hf
      obtain ⟨c, hc⟩ : ∃ c, c = UInt8.ofNat kind := ⟨_, rfl⟩
      unfold etB
      rw [← hc] at w hf ⊢
      obtain ⟨kk, hkk⟩ : ∃ kk : ByteArray, kk = ⟨[c].toArray⟩ := ⟨_, rfl⟩
      rw [← hkk] at hf ⊢
      have e2 : kk.size = 1 := by rw [hkk]; rfl
      have r3 : ((⟨#[69]⟩ ++ varB index) ++ varB term).size + kk.size ≤ 9223372036854775807 := by rw [ByteArray.size_append, ByteArray.size_append]; omega
      have r4 : (((⟨#[69]⟩ ++ varB index) ++ varB term) ++ kk).size + data.size ≤ 9223372036854775807 := by rw [ByteArray.size_append, ByteArray.size_append, ByteArray.size_append]; omega
      simp only [Tryz.ntmps84, Tryz.results84, push_cast, seval]
      refine GoD_call rfl rfl (l01Var_ok index (by omega)) rfl rfl ?_
      simp only [Tryz.ntmps84, Tryz.results84, push_cast, seval, r1]
      refine GoD_call rfl rfl (l01Var_ok term (by omega)) rfl rfl ?_
      simp only [Tryz.ntmps84, Tryz.results84, push_cast, seval, r1, r2, w, hf, r3, r4]


theorem numB_false {s : ByteArray} {a : Nat} {b : Bool} (h : numB s a b = false) : b = false ∧ ∃ n x, rvO s a = some (n, x) ∧ numN s a b = n ∧ numA s a b = x := by
  cases b with
  | true => simp [numB] at h
  | false =>
    cases hr : rvO s a with
    | none => simp [numB, hr] at h
    | some p =>
      obtain ⟨n, x⟩ := p
      exact ⟨rfl, n, x, rfl, by simp [numN, hr], by simp [numA, hr]⟩
theorem takeB_false {s : ByteArray} {a n : Nat} {b : Bool} (h : takeB s a b n = false) : b = false ∧ a + n ≤ s.size ∧ takeA s a b n = a + n ∧ takeT s a b n = s.extract a (a + n) := by
  have ho : takeOk s a b n = true := by simpa [takeB] using h
  refine ⟨?_, ?_, by simp only [takeA, ho, if_true], by simp only [takeT, ho, if_true]⟩
  · simp [takeOk] at ho; exact ho.1
  · simp [takeOk] at ho; exact ho.2
theorem seg_all (s : ByteArray) : seg s 0 s.size = s.data.toList := by
  unfold seg
  have : s.data.toList.length = s.size := by rw [Array.length_toList]; rfl
  rw [List.drop_zero, ← this, List.take_length]
/-! ### where the parts stand -/
def eA1 (s : ByteArray) : Nat := takeA s 0 false 1
def eB1 (s : ByteArray) : Bool := takeB s 0 false 1
def eN1 (s : ByteArray) : Nat := numN s (eA1 s) (eB1 s)
def eA2 (s : ByteArray) : Nat := numA s (eA1 s) (eB1 s)
def eB2 (s : ByteArray) : Bool := numB s (eA1 s) (eB1 s)
def eN2 (s : ByteArray) : Nat := numN s (eA2 s) (eB2 s)
def eA3 (s : ByteArray) : Nat := numA s (eA2 s) (eB2 s)
def eB3 (s : ByteArray) : Bool := numB s (eA2 s) (eB2 s)
def eK (s : ByteArray) : Nat := octN s (eA3 s) (eB3 s)
def eA4 (s : ByteArray) : Nat := takeA s (eA3 s) (eB3 s) 1
def eB4 (s : ByteArray) : Bool := takeB s (eA3 s) (eB3 s) 1
def eD (s : ByteArray) : ByteArray := s.extract (eA4 s) s.size
def eOk (s : ByteArray) : Bool := (!eB4 s && decide (takeT s 0 false 1 = ⟨#[69]⟩)) && (inR (eN1 s) 1 1000000 && eoB (eN2 s) (eK s) (eD s))
def eX (s : ByteArray) : List X := if eOk s then [i64 (eN1 s), .agg (entC (eN2 s) (eK s) (eD s)), bo true] else [i64 0, .agg (entC 0 0 ⟨#[]⟩), bo false]
theorem eX_true {s : ByteArray} (h : eOk s = true) : eX s = [i64 (eN1 s), .agg (entC (eN2 s) (eK s) (eD s)), bo true] := by simp only [eX, h, if_true]
theorem eX_false {s : ByteArray} (h : eOk s = false) : eX s = [i64 0, .agg (entC 0 0 ⟨#[]⟩), bo false] := by simp only [eX, h, Bool.false_eq_true, if_false]
theorem eA1_le (s : ByteArray) : eA1 s ≤ s.size := takeA_le (Nat.zero_le _)
theorem eA2_le (s : ByteArray) : eA2 s ≤ s.size := numA_le (eA1_le s)
theorem eA3_le (s : ByteArray) : eA3 s ≤ s.size := numA_le (eA2_le s)
theorem eA4_le (s : ByteArray) : eA4 s ≤ s.size := takeA_le (eA3_le s)
theorem e_iff {s : ByteArray} (h : eB4 s = false) : etB (eN1 s) (eN2 s) (eK s) (eD s) = s ↔ takeT s 0 false 1 = ⟨#[69]⟩ := by
  obtain ⟨h3, hs4, ha4, _⟩ := takeB_false h
  obtain ⟨h2, n2, x3, r2, e2, f2⟩ := numB_false h3
  obtain ⟨h1, n1, x2, r1, e1, f1⟩ := numB_false h2
  obtain ⟨_, hs1, ha1, ht1⟩ := takeB_false h1
  have hA1 : eA1 s = 1 := by rw [eA1, ha1]
  have hN1 : eN1 s = n1 := e1
  have hA2 : eA2 s = x2 := f1
  have hN2 : eN2 s = n2 := e2
  have hA3 : eA3 s = x3 := f2
  rw [hA1] at r1
  rw [hA2] at r2
  rw [hA3] at hs4
  have hA4 : eA4 s = x3 + 1 := by rw [eA4, ha4, hA3]
  have hK : eK s = (bu s x3).toNat := by
    have ho : takeOk s (eA3 s) (eB3 s) 1 = true := by simpa [eB4, takeB] using h
    rw [eK, octN, if_pos ho, hA3]
  have c1 := rvO_canon r1
  have c2 := rvO_canon r2
  obtain ⟨_, _, b1, b1'⟩ := rvO_bound r1
  obtain ⟨_, _, b2, b2'⟩ := rvO_bound r2
  have g3 : seg s x3 1 = [bu s x3] := by rw [show (1 : Nat) = 0 + 1 from rfl, seg_succ (by omega), seg_zero]; rfl
  have L : (etB (eN1 s) (eN2 s) (eK s) (eD s)).data.toList = [69] ++ (seg s 1 (x2 - 1) ++ (seg s x2 (x3 - x2) ++ (seg s x3 1 ++ seg s (x3 + 1) (s.size - (x3 + 1))))) := by
    unfold etB eD
    rw [app_list, app_list, app_list, app_list, varB_list, varB_list, hN1, hN2, c1, c2, hK, hA4, extract_list, g3]
    simp
  have R : s.data.toList = seg s 0 1 ++ (seg s 1 (x2 - 1) ++ (seg s x2 (x3 - x2) ++ (seg s x3 1 ++ seg s (x3 + 1) (s.size - (x3 + 1))))) := by
    rw [← seg_all s, show s.size = 1 + ((x2 - 1) + ((x3 - x2) + (1 + (s.size - (x3 + 1))))) by omega]
    rw [seg_append, show (0 : Nat) + 1 = 1 from rfl, seg_append, show 1 + (x2 - 1) = x2 by omega, seg_append, show x2 + (x3 - x2) = x3 by omega, seg_append]
    rw [show 1 + (x2 - 1 + (x3 - x2 + (1 + (s.size - (x3 + 1))))) - (x3 + 1) = s.size - (x3 + 1) by omega]
  have T : (takeT s 0 false 1).data.toList = seg s 0 1 := by rw [ht1, extract_list]
  constructor
  · intro hh
    refine bytes_ext ?_
    rw [T]
    have : (etB (eN1 s) (eN2 s) (eK s) (eD s)).data.toList = s.data.toList := by rw [hh]
    rw [L] at this
    conv at this => rhs; rw [R]
    exact (List.append_cancel_right this).symm
  · intro hh
    refine bytes_ext ?_
    rw [L]
    conv => rhs; rw [R]
    rw [← T, hh]

theorem readEntryI_ok (s : ByteArray) (hs : s.size ≤ 140737488355328) : PureFn Tryz.prog 110 [st s] (eX s) := by
  refine PureFn_of_Go Tryz.func110 rfl (by decide) mo (by decide +kernel) ?_
  have k1 := take_ok s hs 0 (Nat.zero_le _) false 1 (by omega)
  have k2 := number_ok s hs (eA1 s) (eB1 s)
  have k3 := number_ok s hs (eA2 s) (eB2 s)
  have k4 := octet_ok s hs (eA3 s) (eA3_le s) (eB3 s)
  have k5 := inRange_ok (eN1 s) 1 1000000
  have k6 := entryOkI_ok (eN2 s) (eK s) (eD s) (by unfold eD; exact Nat.le_trans (by rw [ByteArray.size_extract]; omega) hs)
  rw [show (decide ((1 : Int) ≤ (eN1 s : Int)) && decide ((eN1 s : Int) ≤ 1000000)) = inR (eN1 s) 1 1000000 from rfl] at k5
  simp only [entC] at k6
  have hle := eA4_le s
  simp only [Tryz.ntmps110, Tryz.results110, push_cast, seval]
  refine GoL_io (0, 320) .box 3 [sc s 0 false] rfl rfl rfl rfl (.inl rfl) rfl k1 rfl rfl ?_
  rw [show takeA s 0 false 1 = eA1 s from rfl, show takeB s 0 false 1 = eB1 s from rfl]
  simp only [Tryz.ntmps110, Tryz.results110, push_cast, seval, sc]
  refine GoL_io (0, 320) .box 3 [sc s (eA1 s) (eB1 s)] rfl rfl rfl rfl (.inl rfl) rfl k2 rfl rfl ?_
  rw [show numA s (eA1 s) (eB1 s) = eA2 s from rfl, show numB s (eA1 s) (eB1 s) = eB2 s from rfl, show numN s (eA1 s) (eB1 s) = eN1 s from rfl]
  simp only [Tryz.ntmps110, Tryz.results110, push_cast, seval, sc]
  refine GoL_io (0, 320) .box 3 [sc s (eA2 s) (eB2 s)] rfl rfl rfl rfl (.inl rfl) rfl k3 rfl rfl ?_
  rw [show numA s (eA2 s) (eB2 s) = eA3 s from rfl, show numB s (eA2 s) (eB2 s) = eB3 s from rfl, show numN s (eA2 s) (eB2 s) = eN2 s from rfl]
  simp only [Tryz.ntmps110, Tryz.results110, push_cast, seval, sc]
  refine GoL_io (0, 320) .box 3 [sc s (eA3 s) (eB3 s)] rfl rfl rfl rfl (.inl rfl) rfl k4 rfl rfl ?_
  rw [show takeA s (eA3 s) (eB3 s) 1 = eA4 s from rfl, show takeB s (eA3 s) (eB3 s) 1 = eB4 s from rfl, show octN s (eA3 s) (eB3 s) = eK s from rfl]
  cases c1 : eB4 s with
  | true =>
    rw [eX_false (by simp only [eOk, c1, Bool.not_true, Bool.false_and])]
    simp only [Tryz.ntmps110, Tryz.results110, push_cast, seval, sc, entC]
  | false =>
    cases c2 : decide (takeT s 0 false 1 = ⟨#[69]⟩) with
    | false =>
      rw [eX_false (by simp only [eOk, c1, c2, Bool.and_false, Bool.false_and])]
      simp only [Tryz.ntmps110, Tryz.results110, push_cast, seval, sc, entC, c2]
    | true =>
      have hc : eOk s = (inR (eN1 s) 1 1000000 && eoB (eN2 s) (eK s) (eD s)) := by simp only [eOk, c1, c2, Bool.not_false, Bool.true_and]
      have hd : s.extract (eA4 s) s.size = eD s := rfl
      simp only [Tryz.ntmps110, Tryz.results110, push_cast, seval, sc, entC, c2, hle, hd, Nat.le_refl]
      refine GoL_call rfl rfl k5 rfl rfl ?_
      cases c3 : inR (eN1 s) 1 1000000 with
      | false =>
        rw [eX_false (by rw [hc, c3]; rfl)]
        simp only [Tryz.ntmps110, Tryz.results110, push_cast, seval, entC]
      | true =>
        simp only [Tryz.ntmps110, Tryz.results110, push_cast, seval, entC]
        refine GoL_call rfl rfl k6 rfl rfl ?_
        cases c4 : eoB (eN2 s) (eK s) (eD s) with
        | false =>
          rw [eX_false (by rw [hc, c3, c4]; rfl)]
          simp only [Tryz.ntmps110, Tryz.results110, push_cast, seval, entC]
        | true =>
          rw [eX_true (by rw [hc, c3, c4]; rfl)]
          simp only [Tryz.ntmps110, Tryz.results110, push_cast, seval, entC]
theorem readEntryS_ok (s : ByteArray) (hs : s.size ≤ 140737488355328) : PureFn Tryz.prog 101 [st s] (eX s) := by
  refine PureFn_of_Go Tryz.func101 rfl (by decide) mo (by decide +kernel) ?_
  have k1 := l05Take_ok s hs 0 (Nat.zero_le _) false 1 (by omega)
  have k2 := l05Var_ok s hs (eA1 s) (eA1_le s) (eB1 s)
  have k3 := l05Var_ok s hs (eA2 s) (eA2_le s) (eB2 s)
  have k4 := l05Take_ok s hs (eA3 s) (eA3_le s) (eB3 s) 1 (by omega)
  have k6 := entryTextS_ok (eN1 s) (eN2 s) (eK s) (numN_le s _ _) (numN_le s _ _) (eD s) (by unfold eD; exact Nat.le_trans (by rw [ByteArray.size_extract]; omega) hs)
  simp only [entC] at k6
  have hle := eA4_le s
  simp only [Tryz.ntmps101, Tryz.results101, push_cast, seval]
  refine GoL_io (0, 832) .box 3 [sc s 0 false] rfl rfl rfl rfl (.inl rfl) rfl k1 rfl rfl ?_
  rw [show takeA s 0 false 1 = eA1 s from rfl, show takeB s 0 false 1 = eB1 s from rfl]
  simp only [Tryz.ntmps101, Tryz.results101, push_cast, seval, sc]
  refine GoL_io (0, 832) .box 3 [sc s (eA1 s) (eB1 s)] rfl rfl rfl rfl (.inl rfl) rfl k2 rfl rfl ?_
  rw [show numA s (eA1 s) (eB1 s) = eA2 s from rfl, show numB s (eA1 s) (eB1 s) = eB2 s from rfl, show numN s (eA1 s) (eB1 s) = eN1 s from rfl]
  simp only [Tryz.ntmps101, Tryz.results101, push_cast, seval, sc]
  refine GoL_io (0, 832) .box 3 [sc s (eA2 s) (eB2 s)] rfl rfl rfl rfl (.inl rfl) rfl k3 rfl rfl ?_
  rw [show numA s (eA2 s) (eB2 s) = eA3 s from rfl, show numB s (eA2 s) (eB2 s) = eB3 s from rfl, show numN s (eA2 s) (eB2 s) = eN2 s from rfl]
  simp only [Tryz.ntmps101, Tryz.results101, push_cast, seval, sc]
  refine GoL_io (0, 832) .box 3 [sc s (eA3 s) (eB3 s)] rfl rfl rfl rfl (.inl rfl) rfl k4 rfl rfl ?_
  rw [show takeA s (eA3 s) (eB3 s) 1 = eA4 s from rfl, show takeB s (eA3 s) (eB3 s) 1 = eB4 s from rfl]
  cases c1 : eB4 s with
  | true =>
    rw [eX_false (by simp only [eOk, c1, Bool.not_true, Bool.false_and])]
    simp only [Tryz.ntmps101, Tryz.results101, push_cast, seval, sc, entC]
  | false =>
    obtain ⟨_, hs4, _, ht4⟩ := takeB_false c1
    have hiff := e_iff c1
    have hone := extract_one hs4
    have hK : eK s = (bu s (eA3 s)).toNat := by
      have ho : takeOk s (eA3 s) (eB3 s) 1 = true := by simpa [eB4, takeB] using c1
      rw [eK, octN, if_pos ho]
    rw [ht4, hone]
    obtain ⟨t, htt⟩ : ∃ t : ByteArray, t = ⟨[bu s (eA3 s)].toArray⟩ := ⟨_, rfl⟩
    rw [← htt]
    have h0 : t[0]? = some (bu s (eA3 s)) := by rw [htt]; rfl
    have hw : IntKind.i64.wrap ((bu s (eA3 s)).toNat : Int) = (eK s : Int) := wN (by rw [hK]) (by have := u8_lt (bu s (eA3 s)); omega)
    have hix := index_str (P := Tryz.prog) (t := 9) t 0 .i64
    rw [show ((0 : Nat) : Int) = 0 from rfl, h0] at hix
    have hd : s.extract (eA4 s) s.size = eD s := rfl
    simp only [Tryz.ntmps101, Tryz.results101, push_cast, seval, sc, entC, hle, hd, Nat.le_refl, hix, hw]
    cases c2 : etOk (eN1 s) (eN2 s) (eK s) (eD s) with
    | false =>
      simp only [etX, c2, Bool.false_eq_true, if_false] at k6
      have hno : eOk s = false := by
        simp only [eOk]; rw [show (inR (eN1 s : Int) 1 1000000 && eoB (eN2 s) (eK s) (eD s)) = false from by rw [Bool.and_comm]; exact c2, Bool.and_false]
      rw [eX_false hno]
      refine GoL_call rfl rfl k6 rfl rfl ?_
      simp only [Tryz.ntmps101, Tryz.results101, push_cast, seval, entC]
    | true =>
      simp only [etX, c2, if_true] at k6
      have hc : eOk s = decide (takeT s 0 false 1 = ⟨#[69]⟩) := by
        simp only [eOk, c1, Bool.not_false, Bool.true_and]; rw [show (inR (eN1 s : Int) 1 1000000 && eoB (eN2 s) (eK s) (eD s)) = true from by rw [Bool.and_comm]; exact c2, Bool.and_true]
      refine GoL_call rfl rfl k6 rfl rfl ?_
      cases c3 : decide (etB (eN1 s) (eN2 s) (eK s) (eD s) = s) with
      | true =>
        rw [eX_true (by rw [hc]; exact decide_eq_true (hiff.1 (of_decide_eq_true c3)))]
        simp only [Tryz.ntmps101, Tryz.results101, push_cast, seval, entC, c3]
      | false =>
        rw [eX_false (by rw [hc]; exact decide_eq_false fun h => of_decide_eq_false c3 (hiff.2 h))]
        simp only [Tryz.ntmps101, Tryz.results101, push_cast, seval, entC, c3]


theorem eqEntry_ok (term kind : Int) (data : ByteArray) : PureFn Tryz.prog 112 [.agg (entC term kind data), .agg (entC term kind data)] [bo true] := by
  refine PureFn_of_Go Tryz.func112 rfl (by decide) mo (by decide +kernel) ?_
  simp only [Tryz.ntmps112, Tryz.results112, push_cast, seval, entC]
theorem eX_form (s : ByteArray) : ∃ (n t k : Int) (d : ByteArray) (b : Bool), eX s = [i64 n, .agg (entC t k d), bo b] := by
  cases h : eOk s with
  | true => exact ⟨_, _, _, _, _, eX_true h⟩
  | false => exact ⟨_, _, _, _, _, eX_false h⟩
/-! ### marks -/
/-! ### lists of entries -/
structure Ent where
  term : Int
  kind : Int
  data : ByteArray
  deriving Inhabited
def entV (e : Ent) : List Value := [.int .i64 e.term, .int .i64 e.kind, .string e.data]
def ents (l : List Ent) : List (List Value) := l.map entV
theorem ents_length (l : List Ent) : (ents l).length = l.length := by simp [ents]
theorem ents_getD (l : List Ent) {i : Nat} (h : i < l.length) : (ents l).getD i [] = entV (l.getD i default) := by
  simp [ents, List.getD_eq_getElem?_getD, List.getElem?_map, List.getElem?_eq_getElem h]
theorem ents_take (l : List Ent) : List.take l.length (vR (ents l)) = vR (ents l) := List.take_of_length_le (by rw [vR_length, ents_length]; exact Nat.le_refl _)
theorem eqEntryS_ok (l : List Ent) (hl : l.length ≤ 1048576) : PureFn Tryz.prog 77 [.one (.sh 3 (vR (ents l))), .one (.sh 3 (vR (ents l)))] [bo true] := by
  refine PureFn_of_Go Tryz.func77 rfl (by decide) mo (by decide +kernel) ?_
  simp only [Tryz.ntmps77, Tryz.results77, push_cast, seval, ents_length]
  refine Go_loop (α := {i : Nat // i ≤ l.length})
    (fun i => ⟨tp 27 [(0, .x (.one (.sh 3 (vR (ents l))))), (1, .x (.one (.sh 3 (vR (ents l))))), (5, int i.1)], 0, [], []⟩) (fun i => l.length - i.1) ⟨0, by omega⟩ ?_ ?_
  · exact Weak.same (by simp only [push_cast, seval, Int.ofNat_zero])
  · rintro ⟨i, hi⟩ X hX
    by_cases hlt : (i : Int) < (l.length : Int)
    · have hi' : i < l.length := by omega
      have ws := wsucc hi' (by omega)
      have hg := ents_getD l hi'
      obtain ⟨e, he⟩ : ∃ e, e = l.getD i default := ⟨_, rfl⟩
      rw [← he] at hg
      have k := eqEntry_ok e.term e.kind e.data
      simp only [entC] at k
      obtain ⟨i', hi1⟩ : ∃ i', i' = i + 1 := ⟨_, rfl⟩
      rw [← hi1] at ws
      simp only [push_cast, seval, ents_length, hlt, hi', hg, entV, vR_getD]
      refine GoD_call rfl rfl k rfl rfl ?_
      simp only [push_cast, seval, ws]
      refine ⟨_, ?_, hX ⟨i', by omega⟩ (by simp only; omega)⟩
      exact Weak.same (by simp only [push_cast, seval])
    · simp only [Tryz.ntmps77, Tryz.results77, push_cast, seval, ents_length, hlt]
def marksE (k n : Nat) : List Ent := (List.range n).map fun j => ⟨((k + 3 * j : Nat) : Int), ((k + 3 * j + 1 : Nat) : Int), mkB (k + 3 * j + 2)⟩
theorem marksE_length (k n : Nat) : (marksE k n).length = n := by simp [marksE]
theorem marksE_getD (k : Nat) {n i : Nat} (h : i < n) : (marksE k n).getD i default = ⟨((k + 3 * i : Nat) : Int), ((k + 3 * i + 1 : Nat) : Int), mkB (k + 3 * i + 2)⟩ := by
  simp [marksE, List.getD_eq_getElem?_getD, List.getElem?_map, h]
def marksF (k j : Nat) : List Value := [.int .i64 ((k + 3 * j : Nat) : Int), .int .i64 ((k + 3 * j + 1 : Nat) : Int), .string (mkB (k + 3 * j + 2))]
theorem marksF_all (k : Nat) (l : List Ent) : ents (marksE k l.length) = mix (marksF k) (ents l) l.length := by
  have := mix_all (marksF k) (ents l)
  rw [ents_length] at this
  rw [this, ents, marksE, List.map_map]; rfl
theorem row_set_get {R : List (List C)} {i : Nat} (h : i < R.length) (x : List C) : (R.set i x).getD i [] = x := by
  rw [List.getD_eq_getElem?_getD, List.getElem?_set_self h]; rfl
theorem markEntryS_ok (l : List Ent) (hl : l.length ≤ 1048576) (k : Nat) (hk : 0 < k) (hk2 : k ≤ 1073741824) (e : Nat) (he : e = k + 3 * l.length) :
    IoFn Tryz.prog 79 .sl 3 (ents l) [i64 k] (ents (marksE k l.length)) [i64 e] := by
  have hlen : (ents (marksE k l.length)).length = (ents l).length := by rw [ents_length, ents_length, marksE_length]
  refine IoFn_of_Go Tryz.func79 rfl (by decide) mo (by decide +kernel) (ioOk_sl entV (fun _ => rfl) l) (ioOk_sl entV (fun _ => rfl) (marksE k l.length)) rfl hlen ?_
  rw [marksF_all]
  simp only [Tryz.ntmps79, Tryz.results79, push_cast, seval, ents_length]
  refine Go_loop (α := {i : Nat // i ≤ l.length})
    (fun i => ⟨tp 35 [(0, .x (.one (.rs (0, 1) [] 3 0 l.length))), (1, int (k + 3 * i.1 : Nat)), (5, int i.1)], 1, [], [((0, 1), ⟨.sl, 3, vR (mix (marksF k) (ents l) i.1)⟩)]⟩) (fun i => l.length - i.1) ⟨0, by omega⟩ ?_ ?_
  · rw [mix_zero]
    exact Weak.same (by simp only [push_cast, seval, Int.ofNat_zero, Int.add_zero, Nat.add_zero, Nat.mul_zero])
  · rintro ⟨i, hi⟩ X hX
    obtain ⟨m, hmk⟩ : ∃ m, m = k + 3 * i := ⟨_, rfl⟩
    simp only
    rw [← hmk]
    by_cases hlt : (i : Int) < (l.length : Int)
    · have hi' : i < l.length := by omega
      have ws := wsucc hi' (by omega)
      have w1 : IntKind.i64.wrap ((m : Int) + 1) = ((m + 1 : Nat) : Int) := wN (by omega) (by omega)
      have his : i < (ents l).length := by rw [ents_length]; exact hi'
      have hmix := mix_length (marksF k) (ents l) (Nat.le_of_lt his)
      rw [ents_length] at hmix
      have hg := vR_mix_getD (marksF k) (ents l) his
      rw [ents_getD l hi'] at hg
      have hset := mix_set (marksF k) (ents l) his
      simp only [marksF] at hset
      rw [← hmk] at hset
      obtain ⟨i', hi1⟩ : ∃ i', i' = i + 1 := ⟨_, rfl⟩
      obtain ⟨m1, hm1⟩ : ∃ m1, m1 = m + 1 := ⟨_, rfl⟩
      have w2 : IntKind.i64.wrap ((m1 : Int) + 1) = ((m + 2 : Nat) : Int) := wN (by omega) (by omega)
      obtain ⟨m2, hm2⟩ : ∃ m2, m2 = m + 2 := ⟨_, rfl⟩
      have w3 : IntKind.i64.wrap ((m2 : Int) + 1) = ((m + 3 : Nat) : Int) := wN (by omega) (by omega)
      obtain ⟨m3, hm3⟩ : ∃ m3, m3 = m + 3 := ⟨_, rfl⟩
      rw [← hi1] at ws hset
      rw [← hm1] at w1 hset
      rw [← hm2] at w2 hset
      rw [← hm3] at w3
      simp only [List.map_cons, List.map_nil] at hset
      obtain ⟨⟨t0, k0, d0⟩, he0⟩ : ∃ x, x = l.getD i default := ⟨_, rfl⟩
      rw [← he0] at hg
      simp only [entV, List.map_cons, List.map_nil] at hg
      have km := markText_ok m2 (by omega) (by omega)
      obtain ⟨M, hM⟩ : ∃ M, M = mkB m2 := ⟨_, rfl⟩
      rw [← hM] at km hset
      obtain ⟨R, hR⟩ : ∃ R, R = vR (mix (marksF k) (ents l) i) := ⟨_, rfl⟩
      obtain ⟨R', hR'⟩ : ∃ R', R' = vR (mix (marksF k) (ents l) i') := ⟨_, rfl⟩
      have hRl : R.length = l.length := by rw [hR, vR_length, hmix]
      rw [← hR] at hg hset
      rw [← hR'] at hset
      have hiR : i < R.length := by omega
      have g2 := row_set_get hiR [C.v (.int .i64 m), .v (.int .i64 k0), .v (.string d0)]
      have g3 := row_set_get hiR [C.v (.int .i64 m), .v (.int .i64 m1), .v (.string d0)]
      simp only [← hR]
      simp only [push_cast, seval, hlt, hi', hRl, hg, g2, g3, List.set_set, List.length_set, w1, w2]
      refine GoL_call rfl rfl km rfl rfl ?_
      simp only [push_cast, seval, hlt, hi', hRl, hg, g2, g3, List.set_set, List.length_set, hset, w3, ws]
      refine ⟨_, ?_, hX ⟨i', by omega⟩ (by simp only; omega)⟩
      have hmm : m3 = k + 3 * i' := by omega
      simp only [← hmm, ← hR']
      exact Weak.same (by simp only [push_cast, seval])
    · have hii : i = l.length := by omega
      have hfin : e = m := by rw [he, hmk, hii]
      subst hfin
      simp only [hii] at hlt ⊢
      simp only [Tryz.ntmps79, Tryz.results79, push_cast, seval, hlt]
theorem heldEntryS_ok (k n : Nat) (hn : n ≤ 1048576) (hk : 0 < k) (hk2 : k ≤ 1073741824) (e : Nat) (he : e = k + 3 * n) :
    PureFn Tryz.prog 80 [.one (.sh 3 (vR (ents (marksE k n)))), i64 k] [i64 e] := by
  refine PureFn_of_Go Tryz.func80 rfl (by decide) mo (by decide +kernel) ?_
  simp only [Tryz.ntmps80, Tryz.results80, push_cast, seval, ents_length, marksE_length]
  refine Go_loop (α := {i : Nat // i ≤ n})
    (fun i => ⟨tp 41 [(0, .x (.one (.sh 3 (vR (ents (marksE k n)))))), (1, int (k + 3 * i.1 : Nat)), (5, int i.1)], 0, [], []⟩) (fun i => n - i.1) ⟨0, by omega⟩ ?_ ?_
  · exact Weak.same (by simp only [push_cast, seval, Int.ofNat_zero, Int.add_zero, Nat.add_zero, Nat.mul_zero])
  · rintro ⟨i, hi⟩ X hX
    obtain ⟨m, hmk⟩ : ∃ m, m = k + 3 * i := ⟨_, rfl⟩
    simp only
    rw [← hmk]
    by_cases hlt : (i : Int) < (n : Int)
    · have hi' : i < n := by omega
      have ws := wsucc hi' (by omega)
      have w1 : IntKind.i64.wrap ((m : Int) + 1) = ((m + 1 : Nat) : Int) := wN (by omega) (by omega)
      have hg := ents_getD (marksE k n) (i := i) (by rw [marksE_length]; exact hi')
      rw [marksE_getD k hi', ← hmk] at hg
      simp only [entV] at hg
      obtain ⟨i', hi1⟩ : ∃ i', i' = i + 1 := ⟨_, rfl⟩
      obtain ⟨m1, hm1⟩ : ∃ m1, m1 = m + 1 := ⟨_, rfl⟩
      have w2 : IntKind.i64.wrap ((m1 : Int) + 1) = ((m + 2 : Nat) : Int) := wN (by omega) (by omega)
      obtain ⟨m2, hm2⟩ : ∃ m2, m2 = m + 2 := ⟨_, rfl⟩
      have w3 : IntKind.i64.wrap ((m2 : Int) + 1) = ((m + 3 : Nat) : Int) := wN (by omega) (by omega)
      obtain ⟨m3, hm3⟩ : ∃ m3, m3 = m + 3 := ⟨_, rfl⟩
      rw [← hi1] at ws
      rw [← hm1] at w1 hg
      rw [← hm2] at w2 hg
      rw [← hm3] at w3
      simp only [push_cast, seval, ents_length, marksE_length, hlt, hi', vR_getD, hg, w1, w2]
      refine GoD_call rfl rfl (markText_ok m2 (by omega) (by omega)) rfl rfl ?_
      simp only [push_cast, seval, ents_length, marksE_length, hlt, hi', vR_getD, hg, w3, ws]
      refine ⟨_, ?_, hX ⟨i', by omega⟩ (by simp only; omega)⟩
      have hmm : m3 = k + 3 * i' := by omega
      simp only [← hmm]
      exact Weak.same (by simp only [push_cast, seval])
    · have hii : i = n := by omega
      have hfin : e = m := by rw [he, hmk, hii]
      subst hfin
      simp only [Tryz.ntmps80, Tryz.results80, push_cast, seval, ents_length, marksE_length, hlt]


end Go.Proofs.YtlbmojbkmcpnaaaGreatDoor

