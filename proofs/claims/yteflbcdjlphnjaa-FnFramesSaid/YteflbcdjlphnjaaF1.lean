/- Frames: their functions, by their code. -/
import Derived.Test.YteflbcdjlphnjaaTy
import Derived.Test.YteflbcdjlphnjaaRxIV
namespace Go.Proofs.Yteflbcdjlphnjaa
open Go.RowKit Go.Rx
set_option linter.unusedSimpArgs false
set_option maxRecDepth 100000

abbrev i64 (n : Int) : X := .one (.v (.int .i64 n))
abbrev bo (b : Bool) : X := .one (.v (.bool b))
abbrev st (s : ByteArray) : X := .one (.v (.string s))
abbrev u32 (n : Nat) : X := .one (.v (.int .u32 n))
abbrev bad : V := .x (.one .bad)
theorem mo : Try.prog.follows .mixedOrders = true := by kernel_rfl

theorem inRange_ok (n a b : Int) : PureFn Try.prog 16 [i64 n, i64 a, i64 b] [bo (decide (a ≤ n) && decide (n ≤ b))] := by
  refine PureFn_of_Go Try.func16 rfl (by decide) mo (by decide +kernel) ?_
  simp only [Try.ntmps16, Try.results16, push_cast, Nat.reduceAdd, Nat.reduceSub, Nat.reduceMul, Nat.reduceLeDiff, Nat.reduceEqDiff, Nat.reduceLT, Int.reduceLT, Int.reduceLE, Int.reduceEq, Int.reduceNeg, Int.reduceToNat]
  by_cases h : a ≤ n
  · simp [h, push_cast, resOk, Try.results16]
  · simp [h, push_cast, resOk, Try.results16]
/-! ### sums -/
def crcBit (x : Nat) : Nat := if x % 2 = 1 then (x / 2) ^^^ 3558460437 else x / 2
def crcBits (x : Nat) : Nat → Nat
  | 0 => x
  | k + 1 => crcBit (crcBits x k)
def crcTo (s : ByteArray) (x : Nat) : Nat → Nat
  | 0 => x
  | i + 1 => crcBits (crcTo s x i ^^^ (bu s i).toNat) 8
theorem crcBit_lt {x : Nat} (h : x < 4294967296) : crcBit x < 4294967296 := by
  unfold crcBit
  split
  · exact Nat.xor_lt_two_pow (n := 32) (by omega) (by omega)
  · omega
theorem crcBits_lt {x : Nat} (h : x < 4294967296) (k : Nat) : crcBits x k < 4294967296 := by
  induction k with
  | zero => exact h
  | succ k ih => exact crcBit_lt ih
theorem u8_lt (b : UInt8) : b.toNat < 256 := by have := b.toNat_lt; omega
theorem crcTo_lt {s : ByteArray} {x : Nat} (h : x < 4294967296) (i : Nat) : crcTo s x i < 4294967296 := by
  induction i with
  | zero => exact h
  | succ i ih =>
    have := u8_lt (bu s i)
    exact crcBits_lt (Nat.xor_lt_two_pow (n := 32) (by omega) (by omega)) 8

theorem sumMoreI_ok (x : Nat) (hx : x < 4294967296) (s : ByteArray) (hs : s.size ≤ 140737488355328) : PureFn Try.prog 25 [u32 x, st s] [u32 (crcTo s x s.size)] := by
  refine PureFn_of_Go Try.func25 rfl (by decide) mo (by decide +kernel) ?_
  simp only [Try.ntmps25, Try.results25, push_cast, Nat.reduceAdd, Nat.reduceSub, Nat.reduceMul, Nat.reduceLeDiff, Nat.reduceEqDiff, Nat.reduceLT, Int.reduceLT, Int.reduceLE, Int.reduceEq, Int.reduceNeg, Int.reduceToNat]
  refine Go_loop (α := {i : Nat // i ≤ s.size}) (fun i => ⟨tp 31 [(0, .x (u32 (crcTo s x i.1))), (1, .x (st s)), (5, int i.1)], 0, [], []⟩) (fun i => s.size - i.1) ⟨0, Nat.zero_le _⟩ ?_ ?_
  · exact Weak.same (by simp only [push_cast, Nat.reduceAdd, Nat.reduceSub, Nat.reduceMul, Nat.reduceLeDiff, Nat.reduceEqDiff, Nat.reduceLT, Int.reduceLT, Int.reduceLE, Int.reduceEq, Int.reduceNeg, Int.reduceToNat, crcTo, Int.ofNat_zero])
  · rintro ⟨i, hi⟩ X hX
    by_cases hlt : (i : Int) < (s.size : Int)
    · have hi' : i < s.size := by omega
      have hb := bu_get hi'
      have hc := crcTo_lt (s := s) hx i
      have hu := u8_lt (bu s i)
      have hw : IntKind.u32.wrap ((bu s i).toNat : Int) = ((bu s i).toNat : Int) := w32 rfl (by omega)
      have hx1 := xor32 hc (show (bu s i).toNat < 4294967296 by omega)
      obtain ⟨y, hy⟩ : ∃ y, y = crcTo s x i ^^^ (bu s i).toNat := ⟨_, rfl⟩
      rw [← hy] at hx1
      have hyl : y < 4294967296 := by rw [hy]; exact Nat.xor_lt_two_pow (n := 32) (by omega) (by omega)
      simp only [push_cast, Nat.reduceAdd, Nat.reduceSub, Nat.reduceMul, Nat.reduceLeDiff, Nat.reduceEqDiff, Nat.reduceLT, Int.reduceLT, Int.reduceLE, Int.reduceEq, Int.reduceNeg, Int.reduceToNat, hlt, hb, hw, hx1]
      refine Go_loop (α := {k : Nat // k ≤ 8}) (fun k => ⟨tp 31 [(0, .x (u32 (crcBits y k.1))), (1, .x (st s)), (5, int i), (19, int k.1)], 0, [], []⟩) (fun k => 8 - k.1) ⟨0, Nat.zero_le _⟩ ?_ ?_
      · exact Weak.same (by simp only [push_cast, Nat.reduceAdd, Nat.reduceSub, Nat.reduceMul, Nat.reduceLeDiff, Nat.reduceEqDiff, Nat.reduceLT, Int.reduceLT, Int.reduceLE, Int.reduceEq, Int.reduceNeg, Int.reduceToNat, crcBits, Int.ofNat_zero])
      · rintro ⟨k, hk⟩ X2 hX2
        by_cases hk8 : (k : Int) < 8
        · have hz := crcBits_lt hyl k
          have hstep : crcBits y (k + 1) = crcBit (crcBits y k) := rfl
          obtain ⟨z, hz'⟩ : ∃ z, z = crcBits y k := ⟨_, rfl⟩
          rw [← hz'] at hz hstep ⊢
          have hand := and32 (b := 1) hz (by omega)
          have hand2 : ((z &&& 1 : Nat) : Int) = ((z % 2 : Nat) : Int) := by rw [show (1 : Nat) = 2 ^ 1 - 1 from rfl, Nat.and_two_pow_sub_one_eq_mod]
          rw [hand2, show ((1 : Nat) : Int) = 1 from rfl] at hand
          have hshr := shr32 z 1 (by omega)
          rw [show ((1 : Nat) : Int) = 1 from rfl, Nat.pow_one] at hshr
          have hwk : IntKind.i64.wrap ((k : Int) + 1) = ((k + 1 : Nat) : Int) := wN (by omega) (by omega)
          obtain ⟨k', hk'⟩ : ∃ k', k' = k + 1 := ⟨_, rfl⟩
          obtain ⟨h2, hh2⟩ : ∃ h2, h2 = z / 2 := ⟨_, rfl⟩
          rw [← hh2] at hshr
          rw [← hk'] at hwk hstep
          rcases Nat.mod_two_eq_zero_or_one z with e | e
          · rw [e, show ((0 : Nat) : Int) = 0 from rfl] at hand
            have hfin : crcBits y k' = h2 := by rw [hstep, crcBit, if_neg (by omega), hh2]
            simp only [push_cast, Nat.reduceAdd, Nat.reduceSub, Nat.reduceMul, Nat.reduceLeDiff, Nat.reduceEqDiff, Nat.reduceLT, Int.reduceLT, Int.reduceLE, Int.reduceEq, Int.reduceNeg, Int.reduceToNat, hk8, hand, hshr, hwk]
            refine ⟨_, ?_, hX2 ⟨k', by omega⟩ (by simp only; omega)⟩
            exact Weak.same (by simp only [push_cast, Nat.reduceAdd, Nat.reduceSub, Nat.reduceMul, Nat.reduceLeDiff, Nat.reduceEqDiff, Nat.reduceLT, Int.reduceLT, Int.reduceLE, Int.reduceEq, Int.reduceNeg, Int.reduceToNat, hfin])
          · rw [e, show ((1 : Nat) : Int) = 1 from rfl] at hand
            have hx2 := xor32 (a := h2) (b := 3558460437) (by omega) (by omega)
            rw [show ((3558460437 : Nat) : Int) = 3558460437 from rfl] at hx2
            have hfin : crcBits y k' = h2 ^^^ 3558460437 := by rw [hstep, crcBit, if_pos e, hh2]
            rw [← hfin] at hx2
            simp only [push_cast, Nat.reduceAdd, Nat.reduceSub, Nat.reduceMul, Nat.reduceLeDiff, Nat.reduceEqDiff, Nat.reduceLT, Int.reduceLT, Int.reduceLE, Int.reduceEq, Int.reduceNeg, Int.reduceToNat, hk8, hand, hshr, hwk, hx2]
            refine ⟨_, ?_, hX2 ⟨k', by omega⟩ (by simp only; omega)⟩
            exact Weak.same (by simp only [push_cast, Nat.reduceAdd, Nat.reduceSub, Nat.reduceMul, Nat.reduceLeDiff, Nat.reduceEqDiff, Nat.reduceLT, Int.reduceLT, Int.reduceLE, Int.reduceEq, Int.reduceNeg, Int.reduceToNat])
        · have hke : k = 8 := by omega
          have hwi : IntKind.i64.wrap ((i : Int) + 1) = ((i + 1 : Nat) : Int) := wN (by omega) (by omega)
          have hfin : crcTo s x (i + 1) = crcBits y k := by rw [hy, hke]; rfl
          obtain ⟨i', hi1⟩ : ∃ i', i' = i + 1 := ⟨_, rfl⟩
          rw [← hi1] at hwi hfin
          simp only [push_cast, Nat.reduceAdd, Nat.reduceSub, Nat.reduceMul, Nat.reduceLeDiff, Nat.reduceEqDiff, Nat.reduceLT, Int.reduceLT, Int.reduceLE, Int.reduceEq, Int.reduceNeg, Int.reduceToNat, hk8, hwi]
          refine ⟨_, ?_, hX ⟨i', by omega⟩ (by simp only; omega)⟩
          exact Weak.same (by simp only [push_cast, Nat.reduceAdd, Nat.reduceSub, Nat.reduceMul, Nat.reduceLeDiff, Nat.reduceEqDiff, Nat.reduceLT, Int.reduceLT, Int.reduceLE, Int.reduceEq, Int.reduceNeg, Int.reduceToNat, hfin])
    · obtain rfl : i = s.size := by omega
      simp only [Try.ntmps25, Try.results25, push_cast, Nat.reduceAdd, Nat.reduceSub, Nat.reduceMul, Nat.reduceLeDiff, Nat.reduceEqDiff, Nat.reduceLT, Int.reduceLT, Int.reduceLE, Int.reduceEq, Int.reduceNeg, Int.reduceToNat, hlt]

def sumN (s : ByteArray) : Nat := crcTo s 4294967295 s.size
theorem sumN_lt (s : ByteArray) : sumN s < 4294967296 := crcTo_lt (by omega) _
theorem sumOfI_ok (s : ByteArray) (hs : s.size ≤ 140737488355328) : PureFn Try.prog 22 [st s] [u32 (sumN s)] := by
  refine PureFn_of_Go Try.func22 rfl (by decide) mo (by decide +kernel) ?_
  simp only [Try.ntmps22, Try.results22, push_cast, Nat.reduceAdd, Nat.reduceSub, Nat.reduceMul, Nat.reduceLeDiff, Nat.reduceEqDiff, Nat.reduceLT, Int.reduceLT, Int.reduceLE, Int.reduceEq, Int.reduceNeg, Int.reduceToNat]
  refine GoL_call rfl rfl (sumMoreI_ok 4294967295 (by omega) s hs) rfl rfl ?_
  simp only [Try.ntmps22, Try.results22, push_cast, Nat.reduceAdd, Nat.reduceSub, Nat.reduceMul, Nat.reduceLeDiff, Nat.reduceEqDiff, Nat.reduceLT, Int.reduceLT, Int.reduceLE, Int.reduceEq, Int.reduceNeg, Int.reduceToNat, sumN]
def four (x : Nat) : ByteArray := ⟨[UInt8.ofNat (x / 2 ^ 24), UInt8.ofNat (x / 2 ^ 16), UInt8.ofNat (x / 2 ^ 8), UInt8.ofNat x].toArray⟩
theorem four_size (x : Nat) : (four x).size = 4 := rfl
theorem sumText_ok (s : ByteArray) (hs : s.size ≤ 140737488355328) : PureFn Try.prog 20 [st s] [st (four (sumN s))] := by
  refine PureFn_of_Go Try.func20 rfl (by decide) mo (by decide +kernel) ?_
  simp only [Try.ntmps20, Try.results20, push_cast, Nat.reduceAdd, Nat.reduceSub, Nat.reduceMul, Nat.reduceLeDiff, Nat.reduceEqDiff, Nat.reduceLT, Int.reduceLT, Int.reduceLE, Int.reduceEq, Int.reduceNeg, Int.reduceToNat]
  refine GoL_call rfl rfl (sumOfI_ok s hs) rfl rfl ?_
  generalize sumN s = x
  have h1 := shr32 x 24 (by omega)
  have h2 := shr32 x 16 (by omega)
  have h3 := shr32 x 8 (by omega)
  rw [show ((24 : Nat) : Int) = 24 from rfl] at h1
  rw [show ((16 : Nat) : Int) = 16 from rfl] at h2
  rw [show ((8 : Nat) : Int) = 8 from rfl] at h3
  have w0 := wu8 (n := x)
  have w1 := wu8 (n := x / 2 ^ 24)
  have w2 := wu8 (n := x / 2 ^ 16)
  have w3 := wu8 (n := x / 2 ^ 8)
  have hf := str_natsOf [UInt8.ofNat (x / 2 ^ 24), UInt8.ofNat (x / 2 ^ 16), UInt8.ofNat (x / 2 ^ 8), UInt8.ofNat x]
  change _ = four x at hf
  generalize x / 2 ^ 24 = a1 at h1 w1 hf
  generalize x / 2 ^ 16 = a2 at h2 w2 hf
  generalize x / 2 ^ 8 = a3 at h3 w3 hf
  generalize UInt8.ofNat a1 = b1 at w1 hf
  generalize UInt8.ofNat a2 = b2 at w2 hf
  generalize UInt8.ofNat a3 = b3 at w3 hf
  generalize UInt8.ofNat x = b0 at w0 hf
  simp only [natsOf, List.map_cons, List.map_nil] at hf
  simp only [Try.ntmps20, Try.results20, push_cast, Nat.reduceAdd, Nat.reduceSub, Nat.reduceMul, Nat.reduceLeDiff, Nat.reduceEqDiff, Nat.reduceLT, Int.reduceLT, Int.reduceLE, Int.reduceEq, Int.reduceNeg, Int.reduceToNat, h1, h2, h3, w0, w1, w2, w3, hf]

/-! ### numbers in bytes -/
def varL (n : Nat) : List UInt8 := if n ≤ 127 then [UInt8.ofNat n] else UInt8.ofNat (128 + n % 128) :: varL (n / 128)
termination_by n
decreasing_by omega
def varB (n : Nat) : ByteArray := ⟨(varL n).toArray⟩
theorem varL_small {n : Nat} (h : n ≤ 127) : varL n = [UInt8.ofNat n] := by rw [varL, if_pos h]
theorem varL_big {n : Nat} (h : ¬ n ≤ 127) : varL n = UInt8.ofNat (128 + n % 128) :: varL (n / 128) := by rw [varL, if_neg h]

theorem varText_ok (n : Nat) (hn : n ≤ 4294967290) : PureFn Try.prog 19 [i64 n] [st (varB n)] := by
  refine PureFn_of_Go Try.func19 rfl (by decide) mo (by decide +kernel) ?_
  simp only [Try.ntmps19, Try.results19, push_cast, Nat.reduceAdd, Nat.reduceSub, Nat.reduceMul, Nat.reduceLeDiff, Nat.reduceEqDiff, Nat.reduceLT, Int.reduceLT, Int.reduceLE, Int.reduceEq, Int.reduceNeg, Int.reduceToNat]
  refine Go_loop (α := {p : List UInt8 × Nat // p.1 ++ varL p.2 = varL n ∧ p.1.length + p.2 ≤ n}) (fun p => ⟨tp 21 [(0, int p.1.2), (3, .x (.one (.rs (0, 768) [] 1 0 p.1.1.length)))], 0, [((0, 768), ⟨.sl, 1, byR p.1.1⟩)], []⟩) (fun p => p.1.2) ⟨([], n), by simp, by simp⟩ ?_ ?_
  · refine Weak.trans (Weak.nilRoot (0, 768) 1 3 rfl rfl rfl) ?_
    simp only [push_cast, Nat.reduceAdd, Nat.reduceSub, Nat.reduceMul, Nat.reduceLeDiff, Nat.reduceEqDiff, Nat.reduceLT, Int.reduceLT, Int.reduceLE, Int.reduceEq, Int.reduceNeg, Int.reduceToNat, byR_nil]
    exact Weak.same (by simp only [push_cast, Nat.reduceAdd, Nat.reduceSub, Nat.reduceMul, Nat.reduceLeDiff, Nat.reduceEqDiff, Nat.reduceLT, Int.reduceLT, Int.reduceLE, Int.reduceEq, Int.reduceNeg, Int.reduceToNat, byR_nil])
  · rintro ⟨⟨l, m⟩, hp, hm⟩ X hX
    simp only at hp hm
    have a0 : l.length + 1 ≤ 4294967296 := by omega
    have a1 := max_len a0
    have a2 := room_le (b := 1) a0 (by decide)
    have hfl := byR_length l
    by_cases hlt : (127 : Int) < (m : Int)
    · have hrem := tmodN m 128
      rw [show ((128 : Nat) : Int) = 128 from rfl] at hrem
      obtain ⟨q, hq⟩ : ∃ q, q = m % 128 := ⟨_, rfl⟩
      rw [← hq] at hrem
      have hw1 : IntKind.i64.wrap (128 + (q : Int)) = ((128 + q : Nat) : Int) := wN (by omega) (by omega)
      have hw2 := wu8 (n := 128 + q)
      have hb : UInt8.ofNat (128 + q) = UInt8.ofNat (128 + m % 128) := by rw [hq]
      obtain ⟨z, hz⟩ : ∃ z, z = 128 + q := ⟨_, rfl⟩
      rw [← hz] at hw1 hw2 hb
      obtain ⟨c, hc⟩ : ∃ c, c = UInt8.ofNat z := ⟨_, rfl⟩
      rw [← hc] at hw2 hb
      have hdiv := tdivN m 128
      rw [show ((128 : Nat) : Int) = 128 from rfl] at hdiv
      have hw3 : IntKind.i64.wrap ((m : Int).tdiv 128) = ((m / 128 : Nat) : Int) := wN hdiv (by omega)
      obtain ⟨m', hm'⟩ : ∃ m', m' = m / 128 := ⟨_, rfl⟩
      rw [← hm'] at hw3
      have hsn := byR_snoc l c
      obtain ⟨l', hl'⟩ : ∃ l', l' = l ++ [c] := ⟨_, rfl⟩
      rw [← hl'] at hsn
      have hll : l'.length = l.length + 1 := by rw [hl']; simp
      have hinv : l' ++ varL m' = varL n := by
        have hv := varL_big (n := m) (by omega)
        rw [hl', hb, hm', ← hp, hv, List.append_assoc]; rfl
      have hml : l'.length + m' ≤ n := by rw [hll]; omega
      simp only [push_cast, Nat.reduceAdd, Nat.reduceSub, Nat.reduceMul, Nat.reduceLeDiff, Nat.reduceEqDiff, Nat.reduceLT, Int.reduceLT, Int.reduceLE, Int.reduceEq, Int.reduceNeg, Int.reduceToNat, hlt, hrem, hw1, hw2, hw3, a1, a2, hsn, hfl]
      refine ⟨_, ?_, hX ⟨(l', m'), hinv, hml⟩ (by simp only; omega)⟩
      exact Weak.drop (by simp only [push_cast, Nat.reduceAdd, Nat.reduceSub, Nat.reduceMul, Nat.reduceLeDiff, Nat.reduceEqDiff, Nat.reduceLT, Int.reduceLT, Int.reduceLE, Int.reduceEq, Int.reduceNeg, Int.reduceToNat, hll]) (by simp only [push_cast, Nat.reduceAdd, Nat.reduceSub, Nat.reduceMul, Nat.reduceLeDiff, Nat.reduceEqDiff, Nat.reduceLT, Int.reduceLT, Int.reduceLE, Int.reduceEq, Int.reduceNeg, Int.reduceToNat, hll]) (by simp only [push_cast, Nat.reduceAdd, Nat.reduceSub, Nat.reduceMul, Nat.reduceLeDiff, Nat.reduceEqDiff, Nat.reduceLT, Int.reduceLT, Int.reduceLE, Int.reduceEq, Int.reduceNeg, Int.reduceToNat, hll])
    · have hw2 := wu8 (n := m)
      obtain ⟨c, hc⟩ : ∃ c, c = UInt8.ofNat m := ⟨_, rfl⟩
      rw [← hc] at hw2
      have hsn := byR_snoc l c
      obtain ⟨l', hl'⟩ : ∃ l', l' = l ++ [c] := ⟨_, rfl⟩
      rw [← hl'] at hsn
      have hll : l'.length = l.length + 1 := by rw [hl']; simp
      have ht := byR_take l'
      rw [hll] at ht
      have hfin : (⟨l'.toArray⟩ : ByteArray) = varB n := by rw [hl', hc, varB, ← hp, varL_small (by omega)]
      simp only [Try.ntmps19, Try.results19, push_cast, Nat.reduceAdd, Nat.reduceSub, Nat.reduceMul, Nat.reduceLeDiff, Nat.reduceEqDiff, Nat.reduceLT, Int.reduceLT, Int.reduceLE, Int.reduceEq, Int.reduceNeg, Int.reduceToNat, hlt, hw2, a1, a2, hsn, hfl, ht, hfin]
def rvL (s : ByteArray) (a : Nat) : Nat → Nat → Nat → Nat → Option (Nat × Nat)
  | 0, _, _, _ => none
  | k + 1, i, n, u => if a + i < s.size then
      if 128 ≤ (bu s (a + i)).toNat then rvL s a k (i + 1) (n + (bu s (a + i)).toNat % 128 * u) (u * 128)
      else if ((bu s (a + i)).toNat = 0 ∧ 0 < i) ∨ 1000000000 < n + (bu s (a + i)).toNat % 128 * u then none
      else some (n + (bu s (a + i)).toNat % 128 * u, a + i + 1)
    else none
def rvO (s : ByteArray) (at_ : Int) : Option (Nat × Nat) := if 0 ≤ at_ ∧ at_ ≤ s.size then rvL s at_.toNat 5 0 0 1 else none
def rvX : Option (Nat × Nat) → List X
  | none => [i64 0, i64 0, bo false]
  | some (n, x) => [i64 n, i64 x, bo true]
theorem rvL_out {s : ByteArray} {a k i n u : Nat} (h : ¬ a + i < s.size) : rvL s a k i n u = none := by
  cases k with
  | zero => rfl
  | succ k => rw [rvL, if_neg h]
theorem rvL_go {s : ByteArray} {a k i n u : Nat} (h : a + i < s.size) (hb : 128 ≤ (bu s (a + i)).toNat) : rvL s a (k + 1) i n u = rvL s a k (i + 1) (n + (bu s (a + i)).toNat % 128 * u) (u * 128) := by
  rw [rvL, if_pos h, if_pos hb]
theorem rvL_no {s : ByteArray} {a k i n u : Nat} (h : a + i < s.size) (hb : ¬ 128 ≤ (bu s (a + i)).toNat) (hc : ((bu s (a + i)).toNat = 0 ∧ 0 < i) ∨ 1000000000 < n + (bu s (a + i)).toNat % 128 * u) : rvL s a (k + 1) i n u = none := by
  rw [rvL, if_pos h, if_neg hb, if_pos hc]
theorem rvL_yes {s : ByteArray} {a k i n u : Nat} (h : a + i < s.size) (hb : ¬ 128 ≤ (bu s (a + i)).toNat) (hc : ¬ (((bu s (a + i)).toNat = 0 ∧ 0 < i) ∨ 1000000000 < n + (bu s (a + i)).toNat % 128 * u)) : rvL s a (k + 1) i n u = some (n + (bu s (a + i)).toNat % 128 * u, a + i + 1) := by
  rw [rvL, if_pos h, if_neg hb, if_neg hc]
theorem rvL_bound {s : ByteArray} {a : Nat} : ∀ {k i n u m x : Nat}, rvL s a k i n u = some (m, x) → m ≤ 1000000000 ∧ a < x ∧ x ≤ s.size
  | 0, i, n, u, m, x, h => by cases h
  | k + 1, i, n, u, m, x, h => by
    by_cases h1 : a + i < s.size
    · by_cases h2 : 128 ≤ (bu s (a + i)).toNat
      · rw [rvL_go h1 h2] at h; exact rvL_bound h
      · by_cases h3 : ((bu s (a + i)).toNat = 0 ∧ 0 < i) ∨ 1000000000 < n + (bu s (a + i)).toNat % 128 * u
        · rw [rvL_no h1 h2 h3] at h; cases h
        · rw [rvL_yes h1 h2 h3] at h
          obtain ⟨rfl, rfl⟩ := Prod.mk.inj (Option.some.inj h)
          exact ⟨by omega, by omega, by omega⟩
    · rw [rvL_out h1] at h; cases h
theorem rvO_bound {s : ByteArray} {at_ : Int} {m x : Nat} (h : rvO s at_ = some (m, x)) : m ≤ 1000000000 ∧ 0 ≤ at_ ∧ at_ < x ∧ x ≤ s.size := by
  unfold rvO at h
  split at h
  · rename_i hc
    have := rvL_bound h
    omega
  · cases h
theorem pow128 {i : Nat} (h : i < 5) : 128 ^ i ≤ 268435456 := Nat.le_trans (Nat.pow_le_pow_right (by decide) (show i ≤ 4 by omega)) (by decide)

theorem readVarI_ok (s : ByteArray) (hs : s.size ≤ 140737488355328) (at_ : Int) : PureFn Try.prog 26 [st s, i64 at_] (rvX (rvO s at_)) := by
  refine PureFn_of_Go Try.func26 rfl (by decide) mo (by decide +kernel) ?_
  by_cases h0 : at_ < 0
  · have hr : rvO s at_ = none := if_neg (by omega)
    simp only [Try.ntmps26, Try.results26, push_cast, Nat.reduceAdd, Nat.reduceSub, Nat.reduceMul, Nat.reduceLeDiff, Nat.reduceEqDiff, Nat.reduceLT, Int.reduceLT, Int.reduceLE, Int.reduceEq, Int.reduceNeg, Int.reduceToNat, h0, hr, rvX]
  by_cases h1 : (s.size : Int) < at_
  · have hr : rvO s at_ = none := if_neg (by omega)
    simp only [Try.ntmps26, Try.results26, push_cast, Nat.reduceAdd, Nat.reduceSub, Nat.reduceMul, Nat.reduceLeDiff, Nat.reduceEqDiff, Nat.reduceLT, Int.reduceLT, Int.reduceLE, Int.reduceEq, Int.reduceNeg, Int.reduceToNat, h0, h1, hr, rvX]
  obtain ⟨a, rfl⟩ := Int.eq_ofNat_of_zero_le (show 0 ≤ at_ by omega)
  have hrv : rvO s a = rvL s a 5 0 0 1 := if_pos (by omega)
  obtain ⟨r, hr⟩ : ∃ r, r = rvO s a := ⟨_, rfl⟩
  rw [← hr] at hrv ⊢
  simp only [Try.ntmps26, Try.results26, push_cast, Nat.reduceAdd, Nat.reduceSub, Nat.reduceMul, Nat.reduceLeDiff, Nat.reduceEqDiff, Nat.reduceLT, Int.reduceLT, Int.reduceLE, Int.reduceEq, Int.reduceNeg, Int.reduceToNat, h0, h1]
  refine Go_loop (α := {p : Nat × Nat × Nat // p.2.2 = 128 ^ p.1 ∧ p.2.1 < p.2.2 ∧ p.1 ≤ 5 ∧ r = rvL s a (5 - p.1) p.1 p.2.1 p.2.2})
    (fun p => ⟨tp 62 [(0, .x (st s)), (1, int a), (7, int p.1.2.1), (8, int p.1.2.2), (9, int p.1.1)], 0, [], []⟩) (fun p => 5 - p.1.1) ⟨(0, 0, 1), rfl, by simp, by simp, hrv⟩ ?_ ?_
  · exact Weak.same (by simp only [push_cast, Nat.reduceAdd, Nat.reduceSub, Nat.reduceMul, Nat.reduceLeDiff, Nat.reduceEqDiff, Nat.reduceLT, Int.reduceLT, Int.reduceLE, Int.reduceEq, Int.reduceNeg, Int.reduceToNat, Int.ofNat_zero, Int.ofNat_one])
  · rintro ⟨⟨i, n, u⟩, hu, hnu, hi, hri⟩ X hX
    simp only at hu hnu hi hri
    by_cases c5 : (i : Int) < 5
    · have hu4 : u ≤ 268435456 := by rw [hu]; exact pow128 (by omega)
      obtain ⟨k, hk⟩ : ∃ k, 5 - i = k + 1 := ⟨4 - i, by omega⟩
      rw [hk] at hri
      obtain ⟨j, hj⟩ : ∃ j, j = a + i := ⟨_, rfl⟩
      have wa : IntKind.i64.wrap ((a : Int) + (i : Int)) = (j : Int) := wN (by omega) (by omega)
      by_cases c1 : (j : Int) < (s.size : Int)
      · have hjs : j < s.size := by omega
        have hb := bu_get hjs
        have hb256 := u8_lt (bu s j)
        obtain ⟨b, hbb⟩ : ∃ b, b = (bu s j).toNat := ⟨_, rfl⟩
        rw [← hbb] at hb256
        have hcv : IntKind.i64.wrap ((bu s j).toNat : Int) = (b : Int) := wN (by omega) (by omega)
        have hrem := tmodN b 128
        rw [show ((128 : Nat) : Int) = 128 from rfl] at hrem
        obtain ⟨q, hq⟩ : ∃ q, q = b % 128 := ⟨_, rfl⟩
        rw [← hq] at hrem
        have hqu : q * u ≤ 127 * u := Nat.mul_le_mul_right _ (by omega)
        have hw1 : IntKind.i64.wrap ((q : Int) * (u : Int)) = ((q * u : Nat) : Int) := wN (by rw [Int.natCast_mul]) (by omega)
        obtain ⟨m, hm⟩ : ∃ m, m = q * u := ⟨_, rfl⟩
        rw [← hm] at hw1 hqu
        have hw2 : IntKind.i64.wrap ((n : Int) + (m : Int)) = ((n + m : Nat) : Int) := wN (by rw [Int.natCast_add]) (by omega)
        obtain ⟨n', hn'⟩ : ∃ n', n' = n + m := ⟨_, rfl⟩
        rw [← hn'] at hw2
        have hw3 : IntKind.i64.wrap ((u : Int) * 128) = ((u * 128 : Nat) : Int) := wN (by rw [Int.natCast_mul]; rfl) (by omega)
        obtain ⟨u', hu'⟩ : ∃ u', u' = u * 128 := ⟨_, rfl⟩
        rw [← hu'] at hw3
        have hw4 : IntKind.i64.wrap ((i : Int) + 1) = ((i + 1 : Nat) : Int) := wN (by omega) (by omega)
        obtain ⟨i', hi'⟩ : ∃ i', i' = i + 1 := ⟨_, rfl⟩
        rw [← hi'] at hw4
        have hw5 : IntKind.i64.wrap ((j : Int) + 1) = ((j + 1 : Nat) : Int) := wN (by omega) (by omega)
        obtain ⟨j', hj'⟩ : ∃ j', j' = j + 1 := ⟨_, rfl⟩
        rw [← hj'] at hw5
        have hnn : n + (bu s (a + i)).toNat % 128 * u = n' := by rw [hn', hm, hq, hbb, hj]
        have hbe : (bu s (a + i)).toNat = b := by rw [hbb, hj]
        by_cases c2 : (128 : Int) ≤ (b : Int)
        · have hgo := rvL_go (k := k) (n := n) (u := u) (show a + i < s.size by omega) (by rw [hbe]; omega)
          rw [← hri, hnn, ← hu', ← hi', show k = 5 - i' by omega] at hgo
          simp only [push_cast, Nat.reduceAdd, Nat.reduceSub, Nat.reduceMul, Nat.reduceLeDiff, Nat.reduceEqDiff, Nat.reduceLT, Int.reduceLT, Int.reduceLE, Int.reduceEq, Int.reduceNeg, Int.reduceToNat, c5, wa, c1, hb, hcv, hrem, hw1, hw2, hw3, c2, hw4]
          refine ⟨_, ?_, hX ⟨(i', n', u'), ?_, ?_, ?_, hgo⟩ (by simp only; omega)⟩
          · exact Weak.same (by simp only [push_cast, Nat.reduceAdd, Nat.reduceSub, Nat.reduceMul, Nat.reduceLeDiff, Nat.reduceEqDiff, Nat.reduceLT, Int.reduceLT, Int.reduceLE, Int.reduceEq, Int.reduceNeg, Int.reduceToNat])
          · show u' = 128 ^ i'; rw [hi', Nat.pow_succ, hu', hu]
          · show n' < u'; omega
          · show i' ≤ 5; omega
        · have hbl : ¬ 128 ≤ (bu s (a + i)).toNat := by rw [hbe]; omega
          cases c3 : decide ((b : Int) = 0) with
          | true =>
            have e3 := of_decide_eq_true c3
            by_cases c4 : (0 : Int) < (i : Int)
            · have hno := rvL_no (k := k) (n := n) (u := u) (show a + i < s.size by omega) hbl (.inl ⟨by omega, by omega⟩)
              rw [← hri] at hno
              simp only [Try.ntmps26, Try.results26, push_cast, Nat.reduceAdd, Nat.reduceSub, Nat.reduceMul, Nat.reduceLeDiff, Nat.reduceEqDiff, Nat.reduceLT, Int.reduceLT, Int.reduceLE, Int.reduceEq, Int.reduceNeg, Int.reduceToNat, c5, wa, c1, hb, hcv, hrem, hw1, hw2, hw3, c2, c3, c4, hno, rvX]
            · by_cases c6 : (1000000000 : Int) < (n' : Int)
              · have hno := rvL_no (k := k) (n := n) (u := u) (show a + i < s.size by omega) hbl (.inr (by rw [hnn]; omega))
                rw [← hri] at hno
                simp only [Try.ntmps26, Try.results26, push_cast, Nat.reduceAdd, Nat.reduceSub, Nat.reduceMul, Nat.reduceLeDiff, Nat.reduceEqDiff, Nat.reduceLT, Int.reduceLT, Int.reduceLE, Int.reduceEq, Int.reduceNeg, Int.reduceToNat, c5, wa, c1, hb, hcv, hrem, hw1, hw2, hw3, c2, c3, c4, c6, hno, rvX]
              · have hyes := rvL_yes (k := k) (n := n) (u := u) (show a + i < s.size by omega) hbl (by rw [hnn]; omega)
                rw [← hri, hnn, ← hj, ← hj'] at hyes
                simp only [Try.ntmps26, Try.results26, push_cast, Nat.reduceAdd, Nat.reduceSub, Nat.reduceMul, Nat.reduceLeDiff, Nat.reduceEqDiff, Nat.reduceLT, Int.reduceLT, Int.reduceLE, Int.reduceEq, Int.reduceNeg, Int.reduceToNat, c5, wa, c1, hb, hcv, hrem, hw1, hw2, hw3, c2, c3, c4, c6, hw5, hyes, rvX]
          | false =>
            have e3 := of_decide_eq_false c3
            by_cases c6 : (1000000000 : Int) < (n' : Int)
            · have hno := rvL_no (k := k) (n := n) (u := u) (show a + i < s.size by omega) hbl (.inr (by rw [hnn]; omega))
              rw [← hri] at hno
              simp only [Try.ntmps26, Try.results26, push_cast, Nat.reduceAdd, Nat.reduceSub, Nat.reduceMul, Nat.reduceLeDiff, Nat.reduceEqDiff, Nat.reduceLT, Int.reduceLT, Int.reduceLE, Int.reduceEq, Int.reduceNeg, Int.reduceToNat, c5, wa, c1, hb, hcv, hrem, hw1, hw2, hw3, c2, c3, c6, hno, rvX]
            · have hyes := rvL_yes (k := k) (n := n) (u := u) (show a + i < s.size by omega) hbl (by rw [hnn]; omega)
              rw [← hri, hnn, ← hj, ← hj'] at hyes
              simp only [Try.ntmps26, Try.results26, push_cast, Nat.reduceAdd, Nat.reduceSub, Nat.reduceMul, Nat.reduceLeDiff, Nat.reduceEqDiff, Nat.reduceLT, Int.reduceLT, Int.reduceLE, Int.reduceEq, Int.reduceNeg, Int.reduceToNat, c5, wa, c1, hb, hcv, hrem, hw1, hw2, hw3, c2, c3, c6, hw5, hyes, rvX]
      · have hno := rvL_out (k := k + 1) (n := n) (u := u) (show ¬ a + i < s.size by omega)
        rw [← hri] at hno
        simp only [Try.ntmps26, Try.results26, push_cast, Nat.reduceAdd, Nat.reduceSub, Nat.reduceMul, Nat.reduceLeDiff, Nat.reduceEqDiff, Nat.reduceLT, Int.reduceLT, Int.reduceLE, Int.reduceEq, Int.reduceNeg, Int.reduceToNat, c5, wa, c1, hno, rvX]
    · have hno : r = none := by rw [hri, show 5 - i = 0 by omega]; rfl
      simp only [Try.ntmps26, Try.results26, push_cast, Nat.reduceAdd, Nat.reduceSub, Nat.reduceMul, Nat.reduceLeDiff, Nat.reduceEqDiff, Nat.reduceLT, Int.reduceLT, Int.reduceLE, Int.reduceEq, Int.reduceNeg, Int.reduceToNat, c5, hno, rvX]


def seg (s : ByteArray) (a k : Nat) : List UInt8 := (s.data.toList.drop a).take k
theorem seg_zero (s : ByteArray) (a : Nat) : seg s a 0 = [] := by simp [seg]
theorem seg_succ {s : ByteArray} {a k : Nat} (h : a + k < s.size) : seg s a (k + 1) = seg s a k ++ [bu s (a + k)] := by
  unfold seg
  have h2 : a + k < s.data.toList.length := by rw [Array.length_toList]; exact h
  rw [List.take_add_one, List.getElem?_drop, List.getElem?_eq_getElem h2]
  simp only [bu, List.getD_eq_getElem?_getD, List.getElem?_eq_getElem h2, Option.getD_some, Option.toList_some]
theorem extract_list (s : ByteArray) (a b : Nat) : (s.extract a b).data.toList = seg s a (b - a) := by
  rw [ByteArray.data_extract, Array.toList_extract, List.extract_eq_take_drop]; rfl
theorem bytes_ext {x y : ByteArray} (h : x.data.toList = y.data.toList) : x = y := by
  cases x; cases y; simp only at h; congr; exact Array.toList_inj.1 h
theorem varB_list (n : Nat) : (varB n).data.toList = varL n := rfl
theorem varB_seg (s : ByteArray) (n a b : Nat) : varB n = s.extract a b ↔ varL n = seg s a (b - a) := by
  rw [← extract_list, ← varB_list]
  exact ⟨fun h => by rw [h], bytes_ext⟩

def val (l : List UInt8) : Nat := l.foldr (fun b v => b.toNat % 128 + 128 * v) 0
theorem val_snoc (l : List UInt8) (b : UInt8) : val (l ++ [b]) = val l + b.toNat % 128 * 128 ^ l.length := by
  induction l with
  | nil => simp [val]
  | cons c l ih =>
    simp only [val, List.cons_append, List.foldr_cons, List.length_cons] at ih ⊢
    rw [ih, Nat.pow_succ, Nat.mul_add, Nat.add_assoc]
    congr 2
    rw [Nat.mul_left_comm, Nat.mul_comm 128]
theorem varL_last : ∀ (n : Nat) (l : List UInt8) (b : UInt8), l ≠ [] → varL n = l ++ [b] → b.toNat ≠ 0 := by
  intro n
  induction n using Nat.strongRecOn with
  | ind n ih =>
    intro l b hl h
    by_cases hn : n ≤ 127
    · rw [varL_small hn] at h
      cases l with
      | nil => exact absurd rfl hl
      | cons c l => simp at h
    · rw [varL_big hn] at h
      cases l with
      | nil => exact absurd rfl hl
      | cons c l =>
        simp only [List.cons_append, List.cons.injEq] at h
        cases l with
        | cons d l => exact ih (n / 128) (by omega) (d :: l) b (by simp) h.2
        | nil =>
          by_cases hn2 : n / 128 ≤ 127
          · rw [varL_small hn2] at h
            have := h.2
            simp only [List.nil_append, List.cons.injEq, and_true] at this
            rw [← this, UInt8.toNat_ofNat']
            omega
          · rw [varL_big hn2] at h
            have := congrArg List.length h.2
            simp only [List.length_cons, List.nil_append, List.length_nil] at this
            rw [varL] at this
            split at this <;> simp at this
theorem val_lt : ∀ (l : List UInt8), val l < 128 ^ l.length
  | [] => by simp [val]
  | b :: l => by
    have := val_lt l
    simp only [val, List.foldr_cons, List.length_cons, Nat.pow_succ] at this ⊢
    omega
theorem canon_yes : ∀ (l : List UInt8) (b : UInt8), (∀ p ∈ l, 128 ≤ p.toNat) → b.toNat < 128 → ¬ (b.toNat = 0 ∧ 0 < l.length) → varL (val (l ++ [b])) = l ++ [b]
  | [], b, _, hb, _ => by
    have e : val ([] ++ [b]) = b.toNat := by simp [val]; omega
    rw [e, varL_small (by omega)]; simp
  | p :: l, b, hp, hb, hn => by
    have hb0 : b.toNat ≠ 0 := fun e => hn ⟨e, by simp⟩
    have ih := canon_yes l b (fun q hq => hp q (List.mem_cons_of_mem _ hq)) hb (fun h => hb0 h.1)
    have h1 := hp p (List.mem_cons_self ..)
    have e : val (p :: l ++ [b]) = p.toNat % 128 + 128 * val (l ++ [b]) := rfl
    have hv : 0 < val (l ++ [b]) := by
      rw [val_snoc]
      have h2 : 0 < b.toNat % 128 * 128 ^ l.length := Nat.mul_pos (by omega) (Nat.pow_pos (by decide))
      omega
    have hlt := u8_lt p
    rw [e, varL_big (by omega), show (p.toNat % 128 + 128 * val (l ++ [b])) / 128 = val (l ++ [b]) by omega, ih,
      show 128 + (p.toNat % 128 + 128 * val (l ++ [b])) % 128 = p.toNat by omega]
    simp
theorem canon {l : List UInt8} {b : UInt8} (hp : ∀ p ∈ l, 128 ≤ p.toNat) (hb : b.toNat < 128) : varL (val (l ++ [b])) = l ++ [b] ↔ ¬ (b.toNat = 0 ∧ 0 < l.length) := by
  refine ⟨fun h hc => ?_, canon_yes l b hp hb⟩
  exact varL_last _ l b (fun e => by rw [e] at hc; exact absurd hc.2 (by simp)) h hc.1

def sc (s : ByteArray) (a : Nat) (b : Bool) : List Value := [.string s, .int .i64 a, .bool b]
def numN (s : ByteArray) (a : Nat) (b : Bool) : Nat := if b then 0 else match rvO s a with | some (n, _) => n | none => 0
def numA (s : ByteArray) (a : Nat) (b : Bool) : Nat := if b then a else match rvO s a with | some (_, x) => x | none => a
def numB (s : ByteArray) (a : Nat) (b : Bool) : Bool := if b then true else match rvO s a with | some _ => false | none => true
theorem number_ok (s : ByteArray) (hs : s.size ≤ 140737488355328) (a : Nat) (b : Bool) : IoFn Try.prog 23 .box 3 [sc s a b] [] [sc s (numA s a b) (numB s a b)] [i64 (numN s a b)] := by
  refine IoFn_of_Go Try.func23 rfl (by decide) mo (by decide +kernel) (ioOk_box rfl) (ioOk_box rfl) rfl rfl ?_
  have k := readVarI_ok s hs a
  cases b with
  | true =>
    cases hr : rvO s a with
    | none =>
      rw [hr] at k
      simp only [Try.ntmps23, Try.results23, push_cast, Nat.reduceAdd, Nat.reduceSub, Nat.reduceMul, Nat.reduceLeDiff, Nat.reduceEqDiff, Nat.reduceLT, Int.reduceLT, Int.reduceLE, Int.reduceEq, Int.reduceNeg, Int.reduceToNat, sc, numA, numB, numN, hr]
      refine GoD_call rfl rfl k rfl rfl ?_
      simp only [Try.ntmps23, Try.results23, push_cast, Nat.reduceAdd, Nat.reduceSub, Nat.reduceMul, Nat.reduceLeDiff, Nat.reduceEqDiff, Nat.reduceLT, Int.reduceLT, Int.reduceLE, Int.reduceEq, Int.reduceNeg, Int.reduceToNat, rvX, sc, numA, numB, numN, hr]
    | some p =>
      obtain ⟨n, x⟩ := p
      rw [hr] at k
      simp only [Try.ntmps23, Try.results23, push_cast, Nat.reduceAdd, Nat.reduceSub, Nat.reduceMul, Nat.reduceLeDiff, Nat.reduceEqDiff, Nat.reduceLT, Int.reduceLT, Int.reduceLE, Int.reduceEq, Int.reduceNeg, Int.reduceToNat, sc, numA, numB, numN, hr]
      refine GoD_call rfl rfl k rfl rfl ?_
      simp only [Try.ntmps23, Try.results23, push_cast, Nat.reduceAdd, Nat.reduceSub, Nat.reduceMul, Nat.reduceLeDiff, Nat.reduceEqDiff, Nat.reduceLT, Int.reduceLT, Int.reduceLE, Int.reduceEq, Int.reduceNeg, Int.reduceToNat, rvX, sc, numA, numB, numN, hr]
  | false =>
    cases hr : rvO s a with
    | none =>
      rw [hr] at k
      simp only [Try.ntmps23, Try.results23, push_cast, Nat.reduceAdd, Nat.reduceSub, Nat.reduceMul, Nat.reduceLeDiff, Nat.reduceEqDiff, Nat.reduceLT, Int.reduceLT, Int.reduceLE, Int.reduceEq, Int.reduceNeg, Int.reduceToNat, sc, numA, numB, numN, hr]
      refine GoD_call rfl rfl k rfl rfl ?_
      simp only [Try.ntmps23, Try.results23, push_cast, Nat.reduceAdd, Nat.reduceSub, Nat.reduceMul, Nat.reduceLeDiff, Nat.reduceEqDiff, Nat.reduceLT, Int.reduceLT, Int.reduceLE, Int.reduceEq, Int.reduceNeg, Int.reduceToNat, rvX, sc, numA, numB, numN, hr]
    | some p =>
      obtain ⟨n, x⟩ := p
      rw [hr] at k
      simp only [Try.ntmps23, Try.results23, push_cast, Nat.reduceAdd, Nat.reduceSub, Nat.reduceMul, Nat.reduceLeDiff, Nat.reduceEqDiff, Nat.reduceLT, Int.reduceLT, Int.reduceLE, Int.reduceEq, Int.reduceNeg, Int.reduceToNat, sc, numA, numB, numN, hr]
      refine GoD_call rfl rfl k rfl rfl ?_
      simp only [Try.ntmps23, Try.results23, push_cast, Nat.reduceAdd, Nat.reduceSub, Nat.reduceMul, Nat.reduceLeDiff, Nat.reduceEqDiff, Nat.reduceLT, Int.reduceLT, Int.reduceLE, Int.reduceEq, Int.reduceNeg, Int.reduceToNat, rvX, sc, numA, numB, numN, hr]

def takeOk (s : ByteArray) (a : Nat) (b : Bool) (n : Nat) : Bool := !b && decide (a + n ≤ s.size)
def takeT (s : ByteArray) (a : Nat) (b : Bool) (n : Nat) : ByteArray := if takeOk s a b n then s.extract a (a + n) else ⟨#[]⟩
def takeA (s : ByteArray) (a : Nat) (b : Bool) (n : Nat) : Nat := if takeOk s a b n then a + n else a
def takeB (s : ByteArray) (a : Nat) (b : Bool) (n : Nat) : Bool := !takeOk s a b n
theorem take_ok (s : ByteArray) (hs : s.size ≤ 140737488355328) (a : Nat) (ha : a ≤ s.size) (b : Bool) (n : Nat) (hn : n ≤ 140737488355328) : IoFn Try.prog 24 .box 3 [sc s a b] [i64 n] [sc s (takeA s a b n) (takeB s a b n)] [st (takeT s a b n)] := by
  refine IoFn_of_Go Try.func24 rfl (by decide) mo (by decide +kernel) (ioOk_box rfl) (ioOk_box rfl) rfl rfl ?_
  have w1 : IntKind.i64.wrap ((s.size : Int) - (a : Int)) = ((s.size - a : Nat) : Int) := wN (by omega) (by omega)
  obtain ⟨r, hr⟩ : ∃ r, r = s.size - a := ⟨_, rfl⟩
  rw [← hr] at w1
  have w2 : IntKind.i64.wrap ((a : Int) + (n : Int)) = ((a + n : Nat) : Int) := wN (by omega) (by omega)
  obtain ⟨x, hx⟩ : ∃ x, x = a + n := ⟨_, rfl⟩
  rw [← hx] at w2
  have w3 : IntKind.i64.wrap ((x : Int) - (n : Int)) = (a : Int) := wN (by omega) (by omega)
  cases b with
  | true =>
    have ho : takeOk s a true n = false := rfl
    simp only [Try.ntmps24, Try.results24, push_cast, Nat.reduceAdd, Nat.reduceSub, Nat.reduceMul, Nat.reduceLeDiff, Nat.reduceEqDiff, Nat.reduceLT, Int.reduceLT, Int.reduceLE, Int.reduceEq, Int.reduceNeg, Int.reduceToNat, sc, takeT, takeA, takeB, ho]
  | false =>
    by_cases c : (r : Int) < (n : Int)
    · have ho : takeOk s a false n = false := by simp [takeOk]; omega
      simp only [Try.ntmps24, Try.results24, push_cast, Nat.reduceAdd, Nat.reduceSub, Nat.reduceMul, Nat.reduceLeDiff, Nat.reduceEqDiff, Nat.reduceLT, Int.reduceLT, Int.reduceLE, Int.reduceEq, Int.reduceNeg, Int.reduceToNat, sc, takeT, takeA, takeB, ho, w1, c]
    · have ho : takeOk s a false n = true := by simp [takeOk]; omega
      have h1 : a ≤ x := by omega
      have h2 : x ≤ s.size := by omega
      simp only [Try.ntmps24, Try.results24, push_cast, Nat.reduceAdd, Nat.reduceSub, Nat.reduceMul, Nat.reduceLeDiff, Nat.reduceEqDiff, Nat.reduceLT, Int.reduceLT, Int.reduceLE, Int.reduceEq, Int.reduceNeg, Int.reduceToNat, sc, takeT, takeA, takeB, ho, w1, c, w2, w3, h1, h2, ← hx]

/-! ### frames -/
def frO (s : ByteArray) (a : Nat) : Option (ByteArray × Nat) := match rvO s a with
  | some (n, x) => if x + 4 + n ≤ s.size ∧ 1 ≤ n ∧ n ≤ 9000 ∧ four (sumN (s.extract (x + 4) (x + 4 + n))) = s.extract x (x + 4) then some (s.extract (x + 4) (x + 4 + n), x + 4 + n) else none
  | none => none
def frX : Option (ByteArray × Nat) → List X
  | none => [st ⟨#[]⟩, i64 0, bo false]
  | some (t, x) => [st t, i64 x, bo true]
theorem extract_size (s : ByteArray) (a b : Nat) : (s.extract a b).size ≤ s.size := by
  rw [ByteArray.size_extract]; omega
theorem frameAt_ok (s : ByteArray) (hs : s.size ≤ 140737488355328) (a : Nat) (ha : a ≤ s.size) : PureFn Try.prog 21 [st s, i64 a] (frX (frO s a)) := by
  refine PureFn_of_Go Try.func21 rfl (by decide) mo (by decide +kernel) ?_
  simp only [Try.ntmps21, Try.results21, push_cast, Nat.reduceAdd, Nat.reduceSub, Nat.reduceMul, Nat.reduceLeDiff, Nat.reduceEqDiff, Nat.reduceLT, Int.reduceLT, Int.reduceLE, Int.reduceEq, Int.reduceNeg, Int.reduceToNat]
  refine GoL_io (0, 448) .box 3 [sc s a false] rfl rfl rfl rfl (.inl rfl) rfl (number_ok s hs a false) rfl rfl ?_
  cases hr : rvO s a with
  | none =>
    have hn : numN s a false = 0 := by simp [numN, hr]
    have hA : numA s a false = a := by simp [numA, hr]
    have hB : numB s a false = true := by simp [numB, hr]
    have ho : ∀ n, takeOk s a true n = false := fun n => rfl
    have hf : frO s a = none := by simp [frO, hr]
    rw [hn, hA, hB, hf]
    simp only [Try.ntmps21, Try.results21, push_cast, Nat.reduceAdd, Nat.reduceSub, Nat.reduceMul, Nat.reduceLeDiff, Nat.reduceEqDiff, Nat.reduceLT, Int.reduceLT, Int.reduceLE, Int.reduceEq, Int.reduceNeg, Int.reduceToNat, sc]
    refine GoL_io (0, 448) .box 3 [sc s a true] rfl rfl rfl rfl (.inl rfl) rfl (take_ok s hs a ha true 4 (by omega)) rfl rfl ?_
    simp only [takeA, takeB, takeT, ho, Bool.false_eq_true, if_false, Bool.not_false]
    simp only [Try.ntmps21, Try.results21, push_cast, Nat.reduceAdd, Nat.reduceSub, Nat.reduceMul, Nat.reduceLeDiff, Nat.reduceEqDiff, Nat.reduceLT, Int.reduceLT, Int.reduceLE, Int.reduceEq, Int.reduceNeg, Int.reduceToNat, sc]
    refine GoL_io (0, 448) .box 3 [sc s a true] rfl rfl rfl rfl (.inl rfl) rfl (take_ok s hs a ha true 0 (by omega)) rfl rfl ?_
    simp only [takeA, takeB, takeT, ho, Bool.false_eq_true, if_false, Bool.not_false]
    simp only [Try.ntmps21, Try.results21, push_cast, Nat.reduceAdd, Nat.reduceSub, Nat.reduceMul, Nat.reduceLeDiff, Nat.reduceEqDiff, Nat.reduceLT, Int.reduceLT, Int.reduceLE, Int.reduceEq, Int.reduceNeg, Int.reduceToNat, sc, frX]
  | some p =>
    obtain ⟨n, x⟩ := p
    obtain ⟨hn1, _, hx1, hx2⟩ := rvO_bound hr
    have hn : numN s a false = n := by simp [numN, hr]
    have hA : numA s a false = x := by simp [numA, hr]
    have hB : numB s a false = false := by simp [numB, hr]
    have hf : frO s a = if x + 4 + n ≤ s.size ∧ 1 ≤ n ∧ n ≤ 9000 ∧ four (sumN (s.extract (x + 4) (x + 4 + n))) = s.extract x (x + 4) then some (s.extract (x + 4) (x + 4 + n), x + 4 + n) else none := by simp [frO, hr]
    rw [hn, hA, hB]
    simp only [Try.ntmps21, Try.results21, push_cast, Nat.reduceAdd, Nat.reduceSub, Nat.reduceMul, Nat.reduceLeDiff, Nat.reduceEqDiff, Nat.reduceLT, Int.reduceLT, Int.reduceLE, Int.reduceEq, Int.reduceNeg, Int.reduceToNat, sc]
    refine GoL_io (0, 448) .box 3 [sc s x false] rfl rfl rfl rfl (.inl rfl) rfl (take_ok s hs x hx2 false 4 (by omega)) rfl rfl ?_
    by_cases c1 : x + 4 ≤ s.size
    · have o1 : takeOk s x false 4 = true := by simp [takeOk]; omega
      simp only [takeA, takeB, takeT, o1, if_true, Bool.not_true]
      obtain ⟨y, hy⟩ : ∃ y, y = x + 4 := ⟨_, rfl⟩
      rw [← hy] at hf c1 ⊢
      simp only [Try.ntmps21, Try.results21, push_cast, Nat.reduceAdd, Nat.reduceSub, Nat.reduceMul, Nat.reduceLeDiff, Nat.reduceEqDiff, Nat.reduceLT, Int.reduceLT, Int.reduceLE, Int.reduceEq, Int.reduceNeg, Int.reduceToNat, sc]
      refine GoL_io (0, 448) .box 3 [sc s y false] rfl rfl rfl rfl (.inl rfl) rfl (take_ok s hs y c1 false n (by omega)) rfl rfl ?_
      by_cases c2 : y + n ≤ s.size
      · have o2 : takeOk s y false n = true := by simp [takeOk]; omega
        simp only [takeA, takeB, takeT, o2, if_true, Bool.not_true]
        obtain ⟨z, hz⟩ : ∃ z, z = y + n := ⟨_, rfl⟩
        rw [← hz] at hf c2 ⊢
        have k1 := inRange_ok n 1 9000
        simp only [Try.ntmps21, Try.results21, push_cast, Nat.reduceAdd, Nat.reduceSub, Nat.reduceMul, Nat.reduceLeDiff, Nat.reduceEqDiff, Nat.reduceLT, Int.reduceLT, Int.reduceLE, Int.reduceEq, Int.reduceNeg, Int.reduceToNat, sc]
        refine GoL_call rfl rfl k1 rfl rfl ?_
        cases c3 : (decide ((1 : Int) ≤ (n : Int)) && decide ((n : Int) ≤ 9000)) with
        | false =>
          have hff : frO s a = none := by
            rw [hf, if_neg]
            intro hc
            simp at c3
            omega
          rw [hff]
          simp only [Try.ntmps21, Try.results21, push_cast, Nat.reduceAdd, Nat.reduceSub, Nat.reduceMul, Nat.reduceLeDiff, Nat.reduceEqDiff, Nat.reduceLT, Int.reduceLT, Int.reduceLE, Int.reduceEq, Int.reduceNeg, Int.reduceToNat, sc, frX, c3]
        | true =>
          have hc3 : 1 ≤ n ∧ n ≤ 9000 := by simp at c3; omega
          have k2 := sumText_ok (s.extract y z) (Nat.le_trans (extract_size s y z) hs)
          simp only [Try.ntmps21, Try.results21, push_cast, Nat.reduceAdd, Nat.reduceSub, Nat.reduceMul, Nat.reduceLeDiff, Nat.reduceEqDiff, Nat.reduceLT, Int.reduceLT, Int.reduceLE, Int.reduceEq, Int.reduceNeg, Int.reduceToNat, sc, c3]
          refine GoL_call rfl rfl k2 rfl rfl ?_
          cases c4 : decide (four (sumN (s.extract y z)) = s.extract x y) with
          | true =>
            have hff : frO s a = some (s.extract y z, z) := by rw [hf, if_pos ⟨c2, hc3.1, hc3.2, of_decide_eq_true c4⟩]
            rw [hff]
            simp only [Try.ntmps21, Try.results21, push_cast, Nat.reduceAdd, Nat.reduceSub, Nat.reduceMul, Nat.reduceLeDiff, Nat.reduceEqDiff, Nat.reduceLT, Int.reduceLT, Int.reduceLE, Int.reduceEq, Int.reduceNeg, Int.reduceToNat, sc, frX, c3, c4]
          | false =>
            have hff : frO s a = none := by rw [hf, if_neg fun h => of_decide_eq_false c4 h.2.2.2]
            rw [hff]
            simp only [Try.ntmps21, Try.results21, push_cast, Nat.reduceAdd, Nat.reduceSub, Nat.reduceMul, Nat.reduceLeDiff, Nat.reduceEqDiff, Nat.reduceLT, Int.reduceLT, Int.reduceLE, Int.reduceEq, Int.reduceNeg, Int.reduceToNat, sc, frX, c3, c4]
      · have o2 : takeOk s y false n = false := by simp [takeOk]; omega
        simp only [takeA, takeB, takeT, o2, if_false, Bool.not_false, Bool.false_eq_true]
        have hff : frO s a = none := by rw [hf, if_neg fun h => c2 h.1]
        rw [hff]
        simp only [Try.ntmps21, Try.results21, push_cast, Nat.reduceAdd, Nat.reduceSub, Nat.reduceMul, Nat.reduceLeDiff, Nat.reduceEqDiff, Nat.reduceLT, Int.reduceLT, Int.reduceLE, Int.reduceEq, Int.reduceNeg, Int.reduceToNat, sc, frX]
    · have o1 : takeOk s x false 4 = false := by simp [takeOk]; omega
      have o2 : takeOk s x true n = false := rfl
      simp only [takeA, takeB, takeT, o1, if_false, Bool.not_false, Bool.false_eq_true]
      have hff : frO s a = none := by rw [hf, if_neg fun h => c1 (by omega)]
      rw [hff]
      simp only [Try.ntmps21, Try.results21, push_cast, Nat.reduceAdd, Nat.reduceSub, Nat.reduceMul, Nat.reduceLeDiff, Nat.reduceEqDiff, Nat.reduceLT, Int.reduceLT, Int.reduceLE, Int.reduceEq, Int.reduceNeg, Int.reduceToNat, sc]
      refine GoL_io (0, 448) .box 3 [sc s x true] rfl rfl rfl rfl (.inl rfl) rfl (take_ok s hs x hx2 true n (by omega)) rfl rfl ?_
      simp only [takeA, takeB, takeT, o2, if_false, Bool.not_false, Bool.false_eq_true]
      simp only [Try.ntmps21, Try.results21, push_cast, Nat.reduceAdd, Nat.reduceSub, Nat.reduceMul, Nat.reduceLeDiff, Nat.reduceEqDiff, Nat.reduceLT, Int.reduceLT, Int.reduceLE, Int.reduceEq, Int.reduceNeg, Int.reduceToNat, sc, frX]


def strs (xs : List ByteArray) : List (List Value) := xs.map fun x => [.string x]
def ints (xs : List Int) : List (List Value) := xs.map fun x => [.int .i64 x]
theorem strs_length (xs : List ByteArray) : (strs xs).length = xs.length := by simp [strs]
theorem ints_length (xs : List Int) : (ints xs).length = xs.length := by simp [ints]
theorem strs_getD (xs : List ByteArray) {i : Nat} (h : i < xs.length) : (strs xs).getD i [] = [.string (xs.getD i default)] := by
  simp [strs, List.getD_eq_getElem?_getD, List.getElem?_map, List.getElem?_eq_getElem h]
theorem ints_getD (xs : List Int) {i : Nat} (h : i < xs.length) : (ints xs).getD i [] = [.int .i64 (xs.getD i default)] := by
  simp [ints, List.getD_eq_getElem?_getD, List.getElem?_map, List.getElem?_eq_getElem h]
theorem wsucc {i n : Nat} (h : i < n) (hn : n ≤ 140737488355328) : IntKind.i64.wrap ((i : Int) + 1) = ((i + 1 : Nat) : Int) := by rw [IntKind.wrap_i64]; omega

/-! ### marks -/
def digB (n : Nat) : ByteArray := if n = 0 then ⟨#[]⟩ else digB (n / 10) ++ ⟨[UInt8.ofNat (48 + n % 10)].toArray⟩
termination_by n
decreasing_by omega
theorem digB_zero : digB 0 = ⟨#[]⟩ := by rw [digB, if_pos rfl]
theorem digB_pos {n : Nat} (h : n ≠ 0) : digB n = digB (n / 10) ++ ⟨[UInt8.ofNat (48 + n % 10)].toArray⟩ := by rw [digB, if_neg h]
def mkB (k : Nat) : ByteArray := ⟨#[109]⟩ ++ digB k
theorem empty_append (b : ByteArray) : (⟨#[]⟩ : ByteArray) ++ b = b := bytes_ext (by simp [ByteArray.data_append])

def marks (k n : Nat) : List (List Value) := (List.range n).map fun j => [.string (mkB (k + j))]
theorem marks_length (k n : Nat) : (marks k n).length = n := by simp [marks]
theorem marks_getD (k : Nat) {n i : Nat} (h : i < n) : (marks k n).getD i [] = [.string (mkB (k + i))] := by
  simp [marks, List.getD_eq_getElem?_getD, List.getElem?_map, h]
theorem frO_bound {s : ByteArray} {a x : Nat} {t : ByteArray} (h : frO s a = some (t, x)) : a < x ∧ x ≤ s.size := by
  unfold frO at h
  split at h
  · rename_i n y hr
    have hb := rvO_bound hr
    split at h
    · rename_i hc
      obtain ⟨_, rfl⟩ := Prod.mk.inj (Option.some.inj h)
      omega
    · cases h
  · cases h
def frL (s : ByteArray) : Nat → Nat → List (ByteArray × Nat)
  | 0, _ => []
  | k + 1, a => match frO s a with
    | some (t, x) => (t, x) :: frL s k x
    | none => []
def frs (s : ByteArray) : List (ByteArray × Nat) := if s.size ≤ 20000 then frL s (s.size + 1) 0 else []
theorem frL_len (s : ByteArray) : ∀ (k a : Nat), (frL s k a).length ≤ s.size - a
  | 0, a => by simp [frL]
  | k + 1, a => by
    rw [frL]
    cases h : frO s a with
    | none => simp
    | some p =>
      obtain ⟨t, x⟩ := p
      have hb := frO_bound h
      have := frL_len s k x
      simp only [List.length_cons]; omega
theorem frs_len (s : ByteArray) : (frs s).length ≤ 20000 := by
  unfold frs
  split
  · have := frL_len s (s.size + 1) 0; omega
  · simp
/-- More fuel changes nothing. -/
theorem frL_fuel (s : ByteArray) : ∀ (k k' a : Nat), s.size < k + a → s.size < k' + a → frL s k a = frL s k' a
  | 0, 0, _, _, _ => rfl
  | 0, k' + 1, a, h, _ => by
    rw [frL, frL]
    cases hf : frO s a with
    | none => rfl
    | some p => obtain ⟨t, x⟩ := p; have := frO_bound hf; omega
  | k + 1, 0, a, _, h => by
    rw [frL, frL]
    cases hf : frO s a with
    | none => rfl
    | some p => obtain ⟨t, x⟩ := p; have := frO_bound hf; omega
  | k + 1, k' + 1, a, h, h' => by
    rw [frL, frL]
    cases hf : frO s a with
    | none => rfl
    | some p =>
      obtain ⟨t, x⟩ := p
      have := frO_bound hf
      simp only
      rw [frL_fuel s k k' x (by omega) (by omega)]
def frLast (l : List (ByteArray × Nat)) : Nat := (l.getLast?.map (·.2)).getD 0
def frTs (l : List (ByteArray × Nat)) : List ByteArray := l.map (·.1)
def frEs (l : List (ByteArray × Nat)) : List Int := l.map fun p => (p.2 : Int)

theorem framesOf_ok (s : ByteArray) (hs : s.size ≤ 140737488355328) : PureFn Try.prog 18 [st s] [.one (.own 1 (vR (strs (frTs (frs s))))), .one (.own 1 (vR (ints (frEs (frs s)))))] := by
  refine PureFn_of_Go Try.func18 rfl (by decide) mo (by decide +kernel) ?_
  obtain ⟨F, hF⟩ : ∃ F, F = frs s := ⟨_, rfl⟩
  rw [← hF]
  simp only [Try.ntmps18, Try.results18, push_cast, Nat.reduceAdd, Nat.reduceSub, Nat.reduceMul, Nat.reduceLeDiff, Nat.reduceEqDiff, Nat.reduceLT, Int.reduceLT, Int.reduceLE, Int.reduceEq, Int.reduceNeg, Int.reduceToNat]
  refine Go_loop (α := {p : List (ByteArray × Nat) × Nat // p.2 ≤ s.size ∧ p.1.length ≤ p.2 ∧ (s.size ≤ 20000 → p.1 ++ frL s (s.size + 1 - p.2) p.2 = F) ∧ (¬ s.size ≤ 20000 → p.1 = [])})
    (fun p => ⟨tp 33 [(0, .x (st s)), (4, .x (.one (.rs (0, 1600) [] 1 0 p.1.1.length))), (5, .x (.one (.rs (0, 1856) [] 1 0 p.1.1.length))), (6, int p.1.2)], 0, [((0, 1600), ⟨.sl, 1, vR (strs (frTs p.1.1))⟩), ((0, 1856), ⟨.sl, 1, vR (ints (frEs p.1.1))⟩)], []⟩)
    (fun p => s.size - p.1.2) ⟨([], 0), by simp, by simp, fun h => by rw [hF, frs, if_pos h]; rfl, fun _ => rfl⟩ ?_ ?_
  · refine Weak.trans (Weak.nilRoot (0, 1856) 1 5 rfl rfl rfl) (Weak.trans (Weak.nilRoot (0, 1600) 1 4 rfl rfl rfl) ?_)
    simp only [push_cast, Nat.reduceAdd, Nat.reduceSub, Nat.reduceMul, Nat.reduceLeDiff, Nat.reduceEqDiff, Nat.reduceLT, Int.reduceLT, Int.reduceLE, Int.reduceEq, Int.reduceNeg, Int.reduceToNat, frTs, frEs, strs, ints, List.map_nil]
    exact Weak.same (by simp only [push_cast, Nat.reduceAdd, Nat.reduceSub, Nat.reduceMul, Nat.reduceLeDiff, Nat.reduceEqDiff, Nat.reduceLT, Int.reduceLT, Int.reduceLE, Int.reduceEq, Int.reduceNeg, Int.reduceToNat])
  · rintro ⟨⟨l, a⟩, ha, hla, hinv, hno⟩ X hX
    simp only at ha hla hinv hno
    have l1 : (strs (frTs l)).length = l.length := by simp [strs, frTs]
    have l2 : (ints (frEs l)).length = l.length := by simp [ints, frEs]
    by_cases c0 : (s.size : Int) ≤ 20000
    · have hinv := hinv (by omega)
      cases hf : frO s a with
      | none =>
        have k := frameAt_ok s hs a ha
        rw [hf] at k
        rw [show s.size + 1 - a = (s.size - a) + 1 by omega, frL, hf, List.append_nil] at hinv
        subst hinv
        simp only [Try.ntmps18, Try.results18, push_cast, Nat.reduceAdd, Nat.reduceSub, Nat.reduceMul, Nat.reduceLeDiff, Nat.reduceEqDiff, Nat.reduceLT, Int.reduceLT, Int.reduceLE, Int.reduceEq, Int.reduceNeg, Int.reduceToNat, c0]
        refine GoL_call rfl rfl k rfl rfl ?_
        simp only [Try.ntmps18, Try.results18, push_cast, Nat.reduceAdd, Nat.reduceSub, Nat.reduceMul, Nat.reduceLeDiff, Nat.reduceEqDiff, Nat.reduceLT, Int.reduceLT, Int.reduceLE, Int.reduceEq, Int.reduceNeg, Int.reduceToNat, frX, l1, l2, nrRR_map]
      | some p =>
        obtain ⟨t, x⟩ := p
        have hb := frO_bound hf
        have k := frameAt_ok s hs a ha
        rw [hf] at k
        rw [show s.size + 1 - a = (s.size - a) + 1 by omega, frL, hf] at hinv
        simp only at hinv
        rw [frL_fuel s (s.size - a) (s.size + 1 - x) x (by omega) (by omega)] at hinv
        have a0 : l.length + 1 ≤ 4294967296 := by omega
        have a1 := max_len a0
        have a2 := room_le (b := 16) a0 (by decide)
        have a3 := room_le (b := 8) a0 (by decide)
        have s1 := vR_snoc (strs (frTs l)) [.string t]
        have s2 := vR_snoc (ints (frEs l)) [.int .i64 x]
        have e1 : strs (frTs l) ++ [[Value.string t]] = strs (frTs (l ++ [(t, x)])) := by simp [strs, frTs]
        have e2 : ints (frEs l) ++ [[Value.int .i64 x]] = ints (frEs (l ++ [(t, x)])) := by simp [ints, frEs]
        rw [e1] at s1
        rw [e2] at s2
        simp only [List.map_cons, List.map_nil] at s1 s2
        obtain ⟨l', hl'⟩ : ∃ l', l' = l ++ [(t, x)] := ⟨_, rfl⟩
        rw [← hl'] at s1 s2
        have hll : l'.length = l.length + 1 := by rw [hl']; simp
        simp only [push_cast, Nat.reduceAdd, Nat.reduceSub, Nat.reduceMul, Nat.reduceLeDiff, Nat.reduceEqDiff, Nat.reduceLT, Int.reduceLT, Int.reduceLE, Int.reduceEq, Int.reduceNeg, Int.reduceToNat, c0]
        refine GoL_call rfl rfl k rfl rfl ?_
        simp only [push_cast, Nat.reduceAdd, Nat.reduceSub, Nat.reduceMul, Nat.reduceLeDiff, Nat.reduceEqDiff, Nat.reduceLT, Int.reduceLT, Int.reduceLE, Int.reduceEq, Int.reduceNeg, Int.reduceToNat, frX, l1, l2, a1, a2, a3, s1, s2, flatRows, flatRow]
        refine ⟨_, ?_, hX ⟨(l', x), hb.2, by simp only; omega, fun _ => by simp only; rw [hl', List.append_assoc]; exact hinv, fun h => absurd (by omega) h⟩ (by simp only; omega)⟩
        exact Weak.drop (by simp only [push_cast, Nat.reduceAdd, Nat.reduceSub, Nat.reduceMul, Nat.reduceLeDiff, Nat.reduceEqDiff, Nat.reduceLT, Int.reduceLT, Int.reduceLE, Int.reduceEq, Int.reduceNeg, Int.reduceToNat, hll]) (by simp only [push_cast, Nat.reduceAdd, Nat.reduceSub, Nat.reduceMul, Nat.reduceLeDiff, Nat.reduceEqDiff, Nat.reduceLT, Int.reduceLT, Int.reduceLE, Int.reduceEq, Int.reduceNeg, Int.reduceToNat, hll]) (by simp only [push_cast, Nat.reduceAdd, Nat.reduceSub, Nat.reduceMul, Nat.reduceLeDiff, Nat.reduceEqDiff, Nat.reduceLT, Int.reduceLT, Int.reduceLE, Int.reduceEq, Int.reduceNeg, Int.reduceToNat, hll])
    · have e0 : F = [] := by rw [hF]; exact if_neg (by omega)
      have e1 := hno (by omega)
      subst e1
      subst e0
      simp only [Try.ntmps18, Try.results18, push_cast, Nat.reduceAdd, Nat.reduceSub, Nat.reduceMul, Nat.reduceLeDiff, Nat.reduceEqDiff, Nat.reduceLT, Int.reduceLT, Int.reduceLE, Int.reduceEq, Int.reduceNeg, Int.reduceToNat, c0, l1, l2]
def unfT (s : ByteArray) : List ByteArray := frTs (frs s)
def unfE (s : ByteArray) : Nat := frLast (frs s)
theorem unframeI_ok (s : ByteArray) (hs : s.size ≤ 140737488355328) : PureFn Try.prog 8 [st s] [.one (.own 1 (vR (strs (unfT s)))), i64 (unfE s)] := by
  refine PureFn_of_GoW Try.func8 rfl (by decide) mo (by decide +kernel) ?_
  have k := framesOf_ok s hs
  simp only [Try.ntmps8, Try.results8, push_cast, Nat.reduceAdd, Nat.reduceSub, Nat.reduceMul, Nat.reduceLeDiff, Nat.reduceEqDiff, Nat.reduceLT, Int.reduceLT, Int.reduceLE, Int.reduceEq, Int.reduceNeg, Int.reduceToNat]
  refine GoL_call rfl rfl k (by simp only [push_cast, Nat.reduceAdd, Nat.reduceSub, Nat.reduceMul, Nat.reduceLeDiff, Nat.reduceEqDiff, Nat.reduceLT, Int.reduceLT, Int.reduceLE, Int.reduceEq, Int.reduceNeg, Int.reduceToNat]) rfl ?_
  have l1 : (strs (unfT s)).length = (frs s).length := by simp [strs, unfT, frTs]
  have l2 : (ints (frEs (frs s))).length = (frs s).length := by simp [ints, frEs]
  have hlen := frs_len s
  rw [show frTs (frs s) = unfT s from rfl]
  cases h0 : decide (((frs s).length : Int) = 0) with
  | true =>
    have hn : frs s = [] := by have := of_decide_eq_true h0; exact List.eq_nil_of_length_eq_zero (by omega)
    have hT : unfT s = [] := by rw [unfT, hn]; rfl
    have hE : unfE s = 0 := by rw [unfE, hn]; rfl
    simp only [Try.ntmps8, Try.results8, push_cast, Nat.reduceAdd, Nat.reduceSub, Nat.reduceMul, Nat.reduceLeDiff, Nat.reduceEqDiff, Nat.reduceLT, Int.reduceLT, Int.reduceLE, Int.reduceEq, Int.reduceNeg, Int.reduceToNat, l1, l2, h0]
    rw [hE, hT]
    refine ⟨_, Weak.nilRoot (0, 1) 1 2 rfl rfl rfl, ?_⟩
    simp only [Try.ntmps8, Try.results8, push_cast, Nat.reduceAdd, Nat.reduceSub, Nat.reduceMul, Nat.reduceLeDiff, Nat.reduceEqDiff, Nat.reduceLT, Int.reduceLT, Int.reduceLE, Int.reduceEq, Int.reduceNeg, Int.reduceToNat, strs, List.map_nil, Int.ofNat_zero]
  | false =>
    have hp : 0 < (frs s).length := by have := of_decide_eq_false h0; omega
    obtain ⟨j, hj⟩ : ∃ j, (frs s).length = j + 1 := ⟨(frs s).length - 1, by omega⟩
    have hw : IntKind.i64.wrap (((frs s).length : Int) - 1) = (j : Int) := wN (by omega) (by omega)
    have hjl : j < (frs s).length := by omega
    have hg : (ints (frEs (frs s))).getD j [] = [.int .i64 (unfE s)] := by
      have hjl2 : j < (frEs (frs s)).length := by simp only [frEs, List.length_map]; exact hjl
      rw [ints_getD _ hjl2]
      congr 2
      unfold unfE frLast
      rw [List.getLast?_eq_getElem?, show (frs s).length - 1 = j by omega, List.getElem?_eq_getElem hjl]
      simp [frEs, List.getD_eq_getElem?_getD, List.getElem?_map, List.getElem?_eq_getElem hjl]
    have hji : (j : Int) < ((frs s).length : Int) := by omega
    simp only [Try.ntmps8, Try.results8, push_cast, Nat.reduceAdd, Nat.reduceSub, Nat.reduceMul, Nat.reduceLeDiff, Nat.reduceEqDiff, Nat.reduceLT, Int.reduceLT, Int.reduceLE, Int.reduceEq, Int.reduceNeg, Int.reduceToNat, l1, l2, h0, hw, hjl, hji, vR_getD, hg]
    refine ⟨_, Weak.refl _, ?_⟩
    simp only [Try.ntmps8, Try.results8, push_cast, Nat.reduceAdd, Nat.reduceSub, Nat.reduceMul, Nat.reduceLeDiff, Nat.reduceEqDiff, Nat.reduceLT, Int.reduceLT, Int.reduceLE, Int.reduceEq, Int.reduceNeg, Int.reduceToNat, l1, l2]


theorem seg_append (s : ByteArray) (a i j : Nat) : seg s a (i + j) = seg s a i ++ seg s (a + i) j := by
  unfold seg
  rw [List.take_add, List.drop_drop]
theorem seg_len {s : ByteArray} {a k : Nat} (h : a + k ≤ s.size) : (seg s a k).length = k := by
  unfold seg
  have : s.data.toList.length = s.size := by rw [Array.length_toList]; rfl
  rw [List.length_take, List.length_drop, this]; omega
theorem rvL_canon {s : ByteArray} {a m x : Nat} : ∀ (k i n u : Nat), u = 128 ^ i → n = val (seg s a i) → a + i ≤ s.size → (∀ q ∈ seg s a i, 128 ≤ q.toNat) → rvL s a k i n u = some (m, x) → varL m = seg s a (x - a)
  | 0, _, _, _, _, _, _, _, h => by cases h
  | k + 1, i, n, u, hu, hn, hi, hall, h => by
    by_cases h1 : a + i < s.size
    · have hsg := seg_succ h1
      have hl := seg_len hi
      have hval : n + (bu s (a + i)).toNat % 128 * u = val (seg s a (i + 1)) := by rw [hsg, val_snoc, ← hn, hl, ← hu]
      by_cases h2 : 128 ≤ (bu s (a + i)).toNat
      · rw [rvL_go h1 h2] at h
        refine rvL_canon k (i + 1) _ _ (by rw [Nat.pow_succ, hu]) hval (by omega) (fun q hq => ?_) h
        rw [hsg, List.mem_append] at hq
        rcases hq with hq | hq
        · exact hall q hq
        · rw [List.mem_singleton.1 hq]; exact h2
      · by_cases h3 : ((bu s (a + i)).toNat = 0 ∧ 0 < i) ∨ 1000000000 < n + (bu s (a + i)).toNat % 128 * u
        · rw [rvL_no h1 h2 h3] at h; cases h
        · rw [rvL_yes h1 h2 h3] at h
          obtain ⟨rfl, rfl⟩ := Prod.mk.inj (Option.some.inj h)
          have hcan := (canon (b := bu s (a + i)) hall (by omega)).2 (by rw [hl]; exact fun hc => h3 (.inl hc))
          rw [← hsg] at hcan
          rw [hval, hcan]
          congr 1; omega
    · rw [rvL_out h1] at h; cases h
theorem rvO_canon {s : ByteArray} {a n x : Nat} (h : rvO s a = some (n, x)) : varL n = seg s a (x - a) := by
  unfold rvO at h
  split at h
  · rename_i hc
    exact rvL_canon 5 0 0 1 rfl (by simp [seg, val]) (by omega) (by simp [seg]) h
  · cases h
theorem varL_len (n : Nat) : (varL n).length ≤ n + 1 := by
  induction n using Nat.strongRecOn with
  | ind n ih =>
    by_cases h : n ≤ 127
    · rw [varL_small h]; simp
    · rw [varL_big h, List.length_cons]
      have := ih (n / 128) (by omega)
      omega
theorem varB_size (n : Nat) : (varB n).size ≤ n + 1 := by
  have := varL_len n
  show (varL n).toArray.size ≤ _
  simpa using this
def frameB (t : ByteArray) : ByteArray := varB t.size ++ four (sumN t) ++ t
theorem app_list (x y : ByteArray) : (x ++ y).data.toList = x.data.toList ++ y.data.toList := by rw [ByteArray.data_append, Array.toList_append]
theorem frame_iff {s : ByteArray} {a n x : Nat} (h : rvO s a = some (n, x)) (hz : x + 4 + n ≤ s.size) :
    frameB (s.extract (x + 4) (x + 4 + n)) = s.extract a (x + 4 + n) ↔ four (sumN (s.extract (x + 4) (x + 4 + n))) = s.extract x (x + 4) := by
  obtain ⟨_, ha0, hax, hxs⟩ := rvO_bound h
  have hc := rvO_canon h
  have hsz : (s.extract (x + 4) (x + 4 + n)).size = n := by rw [ByteArray.size_extract]; omega
  have e1 : (frameB (s.extract (x + 4) (x + 4 + n))).data.toList = seg s a (x - a) ++ ((four (sumN (s.extract (x + 4) (x + 4 + n)))).data.toList ++ seg s (x + 4) n) := by
    unfold frameB
    rw [app_list, app_list, hsz, varB_list, hc, extract_list, show x + 4 + n - (x + 4) = n by omega, List.append_assoc]
  have e2 : (s.extract a (x + 4 + n)).data.toList = seg s a (x - a) ++ (seg s x 4 ++ seg s (x + 4) n) := by
    rw [extract_list, show x + 4 + n - a = (x - a) + (4 + n) by omega, seg_append, show a + (x - a) = x by omega, seg_append]
  have e3 : (s.extract x (x + 4)).data.toList = seg s x 4 := by rw [extract_list, show x + 4 - x = 4 by omega]
  constructor
  · intro hh
    have : (frameB (s.extract (x + 4) (x + 4 + n))).data.toList = (s.extract a (x + 4 + n)).data.toList := by rw [hh]
    rw [e1, e2] at this
    refine bytes_ext ?_
    rw [e3]
    exact List.append_cancel_right (List.append_cancel_left this)
  · intro hh
    refine bytes_ext ?_
    rw [e1, e2, hh, e3]

theorem frame_ok (t : ByteArray) (ht : t.size ≤ 4000000000) : PureFn Try.prog 17 [st t] [st (frameB t)] := by
  refine PureFn_of_Go Try.func17 rfl (by decide) mo (by decide +kernel) ?_
  simp only [Try.ntmps17, Try.results17, push_cast, Nat.reduceAdd, Nat.reduceSub, Nat.reduceMul, Nat.reduceLeDiff, Nat.reduceEqDiff, Nat.reduceLT, Int.reduceLT, Int.reduceLE, Int.reduceEq, Int.reduceNeg, Int.reduceToNat]
  refine GoL_call rfl rfl (varText_ok t.size (by omega)) rfl rfl ?_
  simp only [Try.ntmps17, Try.results17, push_cast, Nat.reduceAdd, Nat.reduceSub, Nat.reduceMul, Nat.reduceLeDiff, Nat.reduceEqDiff, Nat.reduceLT, Int.reduceLT, Int.reduceLE, Int.reduceEq, Int.reduceNeg, Int.reduceToNat]
  refine GoL_call rfl rfl (sumText_ok t (by omega)) rfl rfl ?_
  have h1 := varB_size t.size
  have h2 := four_size (sumN t)
  have h3 : (varB t.size).size + (four (sumN t)).size ≤ 9223372036854775807 := by omega
  have h4 : (varB t.size ++ four (sumN t)).size + t.size ≤ 9223372036854775807 := by rw [ByteArray.size_append]; omega
  simp only [Try.ntmps17, Try.results17, push_cast, Nat.reduceAdd, Nat.reduceSub, Nat.reduceMul, Nat.reduceLeDiff, Nat.reduceEqDiff, Nat.reduceLT, Int.reduceLT, Int.reduceLE, Int.reduceEq, Int.reduceNeg, Int.reduceToNat, h3, h4, frameB]
def okLen (t : ByteArray) : Bool := decide ((1 : Int) ≤ (t.size : Int)) && decide ((t.size : Int) ≤ 9000)
def frameX (t : ByteArray) : List X := if okLen t then [st (frameB t), bo true] else [st ⟨#[]⟩, bo false]
theorem frameI_ok (t : ByteArray) (ht : t.size ≤ 140737488355328) : PureFn Try.prog 7 [st t] (frameX t) := by
  refine PureFn_of_Go Try.func7 rfl (by decide) mo (by decide +kernel) ?_
  have k := inRange_ok t.size 1 9000
  rw [show (decide ((1 : Int) ≤ (t.size : Int)) && decide ((t.size : Int) ≤ 9000)) = okLen t from rfl] at k
  simp only [Try.ntmps7, Try.results7, push_cast, Nat.reduceAdd, Nat.reduceSub, Nat.reduceMul, Nat.reduceLeDiff, Nat.reduceEqDiff, Nat.reduceLT, Int.reduceLT, Int.reduceLE, Int.reduceEq, Int.reduceNeg, Int.reduceToNat]
  refine GoL_call rfl rfl k rfl rfl ?_
  cases c : okLen t with
  | true =>
    have hc : t.size ≤ 9000 := by simp [okLen] at c; omega
    simp only [Try.ntmps7, Try.results7, push_cast, Nat.reduceAdd, Nat.reduceSub, Nat.reduceMul, Nat.reduceLeDiff, Nat.reduceEqDiff, Nat.reduceLT, Int.reduceLT, Int.reduceLE, Int.reduceEq, Int.reduceNeg, Int.reduceToNat, frameX, c]
    refine GoL_call rfl rfl (frame_ok t (by omega)) rfl rfl ?_
    simp only [Try.ntmps7, Try.results7, push_cast, Nat.reduceAdd, Nat.reduceSub, Nat.reduceMul, Nat.reduceLeDiff, Nat.reduceEqDiff, Nat.reduceLT, Int.reduceLT, Int.reduceLE, Int.reduceEq, Int.reduceNeg, Int.reduceToNat, frameX, c]
  | false => simp only [Try.ntmps7, Try.results7, push_cast, Nat.reduceAdd, Nat.reduceSub, Nat.reduceMul, Nat.reduceLeDiff, Nat.reduceEqDiff, Nat.reduceLT, Int.reduceLT, Int.reduceLE, Int.reduceEq, Int.reduceNeg, Int.reduceToNat, frameX, c, Bool.false_eq_true]
theorem frLast_snoc (l : List (ByteArray × Nat)) (t : ByteArray) (x : Nat) : frLast (l ++ [(t, x)]) = x := by simp [frLast]
end Go.Proofs.Yteflbcdjlphnjaa
