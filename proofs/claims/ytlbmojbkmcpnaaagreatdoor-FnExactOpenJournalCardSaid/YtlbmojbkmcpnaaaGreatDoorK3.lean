/- Numbers read from decimal numerals. -/
import Derived.Test.YtlbmojbkmcpnaaaGreatDoorK2
namespace Go.Proofs.YtlbmojbkmcpnaaaGreatDoor
open Go.RowKit Go.Rx
set_option linter.unusedSimpArgs false
set_option maxRecDepth 100000

def dT (s : ByteArray) (i : Nat) : Nat := dvL (seg s 0 i)
theorem dT_zero (s : ByteArray) : dT s 0 = 0 := by rw [dT, seg_zero]; rfl
theorem dT_succ {s : ByteArray} {i : Nat} (h : i < s.size) : dT s (i + 1) = dT s i * 10 + ((bu s i).toNat - 48) := by
  rw [dT, seg_succ (by omega), Nat.zero_add, dvL_snoc]; rfl
theorem dT_all (s : ByteArray) : dT s s.size = rdN s := by rw [dT, seg_all]; rfl
theorem seg_all_isD {s : ByteArray} {i : Nat} (h : i < s.size) : (seg s 0 (i + 1)).all isD = ((seg s 0 i).all isD && isD (bu s i)) := by
  rw [seg_succ (by omega), Nat.zero_add, List.all_append]; simp
theorem dT_lt {s : ByteArray} {i : Nat} (hi : i ≤ s.size) (h : (seg s 0 i).all isD = true) : dT s i < 10 ^ i := dvL_lt i _ (seg_len (by omega)) h
theorem pow10_le {i : Nat} (h : i ≤ 10) : 10 ^ i ≤ 10000000000 := Nat.le_trans (Nat.pow_le_pow_right (by decide) h) (by decide)
theorem rd_bad {s : ByteArray} {i : Nat} (hi : i < s.size) (h : isD (bu s i) = false) : rdX s = [i64 0, bo false] := by
  refine rdX_false ?_
  cases ha : s.data.toList.all isD with
  | false => simp [rdB, ha]
  | true => rw [isD_bu ha hi] at h; cases h
theorem rd_long {s : ByteArray} (h : ¬ s.size ≤ 10) : rdX s = [i64 0, bo false] := rdX_false (by simp [rdB, h])
theorem rd_empty {s : ByteArray} (h : s.size = 0) : rdB s = false := by
  have he : s.data.toList = [] := List.eq_nil_of_length_eq_zero (by rw [Array.length_toList]; exact h)
  have h0 : rdN s = 0 := by rw [rdN, he]; rfl
  have : decB 0 ≠ s := fun e => by rw [← e, decB_zero] at h; cases h
  simp [rdB, h0, this]
theorem isD_no {b : UInt8} (h : (b.toNat : Int) < 48 ∨ (57 : Int) < (b.toNat : Int)) : isD b = false := by
  cases hb : isD b with
  | false => rfl
  | true => rw [isD_iff] at hb; omega
theorem rd_end {s : ByteArray} (h1 : s.size ≤ 10) (h : (seg s 0 s.size).all isD = true) : rdB s = (decide (rdN s ≤ 1000000000) && decide (decB (rdN s) = s)) := by
  rw [seg_all] at h
  simp [rdB, h1, h]

theorem readDecI_ok (s : ByteArray) (hs : s.size ≤ 140737488355328) : PureFn Tryz.prog 70 [st s] (rdX s) := by
  refine PureFn_of_Go Tryz.func70 rfl (by decide) mo (by decide +kernel) ?_
  by_cases h0 : s.size = 0
  · rw [rdX_false (rd_empty h0)]
    have h0' : ((s.size : Nat) : Int) = 0 := by omega
    simp only [Tryz.ntmps70, Tryz.results70, push_cast, seval, h0']
  have h0' : ¬ ((s.size : Nat) : Int) = 0 := by omega
  by_cases h10 : (10 : Int) < (s.size : Int)
  · rw [rd_long (by omega)]
    simp only [Tryz.ntmps70, Tryz.results70, push_cast, seval, h0', h10]
  have h10n : s.size ≤ 10 := by omega
  simp only [Tryz.ntmps70, Tryz.results70, push_cast, seval, h0', h10]
  refine Go_loop (α := {i : Nat // i ≤ s.size ∧ (seg s 0 i).all isD = true}) (fun i => ⟨tp 47 [(0, .x (st s)), (4, int (dT s i.1)), (5, int i.1)], 0, [], []⟩) (fun i => s.size - i.1) ⟨0, Nat.zero_le _, by rw [seg_zero]; rfl⟩ ?_ ?_
  · exact Weak.same (by simp only [push_cast, seval, dT_zero, Int.ofNat_zero])
  · rintro ⟨i, hi, hd⟩ X hX
    simp only
    have hlt9 := dT_lt hi hd
    have hp := pow10_le (Nat.le_trans hi h10n)
    by_cases hlt : (i : Int) < (s.size : Int)
    · have hi' : i < s.size := by omega
      have hb := bu_get hi'
      have hu := u8_lt (bu s i)
      have hws : IntKind.i64.wrap ((i : Int) + 1) = ((i + 1 : Nat) : Int) := wN (by omega) (by omega)
      have hds := dT_succ hi'
      have hal := seg_all_isD hi'
      rw [hd, Bool.true_and] at hal
      obtain ⟨i', hi1⟩ : ∃ i', i' = i + 1 := ⟨_, rfl⟩
      rw [← hi1] at hws hds hal
      by_cases c1 : ((bu s i).toNat : Int) < 48
      · rw [rd_bad hi' (isD_no (.inl c1))]
        simp only [Tryz.ntmps70, Tryz.results70, push_cast, seval, hlt, hb, c1]
      by_cases c2 : (57 : Int) < ((bu s i).toNat : Int)
      · rw [rd_bad hi' (isD_no (.inr c2))]
        simp only [Tryz.ntmps70, Tryz.results70, push_cast, seval, hlt, hb, c1, c2]
      have hal : (seg s 0 i').all isD = true := by rw [hal, isD_iff]; omega
      obtain ⟨b, hbn⟩ : ∃ b, b = (bu s i).toNat := ⟨_, rfl⟩
      rw [← hbn] at c1 c2 hds
      obtain ⟨z, hz⟩ : ∃ z, z = dT s i := ⟨_, rfl⟩
      rw [← hz] at hds hlt9
      rw [← hz]
      have w1 : IntKind.i64.wrap ((z : Int) * 10) = ((z * 10 : Nat) : Int) := wN (by omega) (by omega)
      have w2 : IntKind.u8.wrap ((b : Int) - 48) = ((b - 48 : Nat) : Int) := by rw [IntKind.wrap_u8]; omega
      have w3 : IntKind.i64.wrap ((b - 48 : Nat) : Int) = ((b - 48 : Nat) : Int) := wN rfl (by omega)
      obtain ⟨z10, hz10⟩ : ∃ z10, z10 = z * 10 := ⟨_, rfl⟩
      obtain ⟨b48, hb48⟩ : ∃ b48, b48 = b - 48 := ⟨_, rfl⟩
      obtain ⟨z', hz'⟩ : ∃ z', z' = dT s i' := ⟨_, rfl⟩
      rw [← hz10, ← hb48, ← hz'] at hds
      rw [← hz10] at w1
      rw [← hb48] at w2 w3
      have w4 : IntKind.i64.wrap ((z10 : Int) + (b48 : Int)) = (z' : Int) := wN (by omega) (by omega)
      simp only [push_cast, seval, hlt, hb, ← hbn, c1, c2, w1, w2, w3, w4, hws]
      refine ⟨_, ?_, hX ⟨i', by omega, hal⟩ (by simp only; omega)⟩
      simp only [← hz']
      exact Weak.same (by simp only [push_cast, seval])
    · obtain rfl : i = s.size := by omega
      have he := rd_end h10n hd
      rw [dT_all] at hlt9 ⊢
      obtain ⟨z, hz⟩ : ∃ z, z = rdN s := ⟨_, rfl⟩
      have hX2 : rdX s = if rdB s then [i64 z, bo true] else [i64 0, bo false] := by rw [hz]; rfl
      rw [hX2, he]
      rw [← hz] at hlt9 ⊢
      by_cases c3 : (1000000000 : Int) < (z : Int)
      · rw [if_neg (by simp; omega)]
        simp only [Tryz.ntmps70, Tryz.results70, push_cast, seval, hlt, c3]
      · have c4 : z ≤ 1000000000 := by omega
        have kd := decimalI_ok z (by omega)
        simp only [Tryz.ntmps70, Tryz.results70, push_cast, seval, hlt, c3]
        refine GoL_call rfl rfl kd rfl rfl ?_
        by_cases c5 : decB z = s
        · simp only [Tryz.ntmps70, Tryz.results70, push_cast, seval, c5, c4]
        · simp only [Tryz.ntmps70, Tryz.results70, push_cast, seval, c5, c4]
theorem readDecS_ok (s : ByteArray) (hs : s.size ≤ 140737488355328) : PureFn Tryz.prog 59 [st s] (rdX s) := by
  refine PureFn_of_Go Tryz.func59 rfl (by decide) mo (by decide +kernel) ?_
  by_cases h10 : (10 : Int) < (s.size : Int)
  · rw [rd_long (by omega)]
    simp only [Tryz.ntmps59, Tryz.results59, push_cast, seval, h10]
  have h10n : s.size ≤ 10 := by omega
  simp only [Tryz.ntmps59, Tryz.results59, push_cast, seval, h10]
  refine Go_loop (α := {i : Nat // i ≤ s.size ∧ (seg s 0 i).all isD = true}) (fun i => ⟨tp 42 [(0, .x (st s)), (4, int (dT s i.1)), (5, int i.1)], 0, [], []⟩) (fun i => s.size - i.1) ⟨0, Nat.zero_le _, by rw [seg_zero]; rfl⟩ ?_ ?_
  · exact Weak.same (by simp only [push_cast, seval, dT_zero, Int.ofNat_zero])
  · rintro ⟨i, hi, hd⟩ X hX
    simp only
    have hlt9 := dT_lt hi hd
    have hp := pow10_le (Nat.le_trans hi h10n)
    by_cases hlt : (i : Int) < (s.size : Int)
    · have hi' : i < s.size := by omega
      have hb := bu_get hi'
      have hu := u8_lt (bu s i)
      have hws : IntKind.i64.wrap ((i : Int) + 1) = ((i + 1 : Nat) : Int) := wN (by omega) (by omega)
      have hds := dT_succ hi'
      have hal := seg_all_isD hi'
      rw [hd, Bool.true_and] at hal
      obtain ⟨i', hi1⟩ : ∃ i', i' = i + 1 := ⟨_, rfl⟩
      rw [← hi1] at hws hds hal
      by_cases c1 : ((bu s i).toNat : Int) < 48
      · rw [rd_bad hi' (isD_no (.inl c1))]
        simp only [Tryz.ntmps59, Tryz.results59, push_cast, seval, hlt, hb, c1]
      by_cases c2 : (57 : Int) < ((bu s i).toNat : Int)
      · rw [rd_bad hi' (isD_no (.inr c2))]
        simp only [Tryz.ntmps59, Tryz.results59, push_cast, seval, hlt, hb, c1, c2]
      have hal : (seg s 0 i').all isD = true := by rw [hal, isD_iff]; omega
      obtain ⟨b, hbn⟩ : ∃ b, b = (bu s i).toNat := ⟨_, rfl⟩
      rw [← hbn] at c1 c2 hds
      obtain ⟨z, hz⟩ : ∃ z, z = dT s i := ⟨_, rfl⟩
      rw [← hz] at hds hlt9
      rw [← hz]
      have w1 : IntKind.i64.wrap (10 * (z : Int)) = ((z * 10 : Nat) : Int) := wN (by omega) (by omega)
      have w3 : IntKind.i64.wrap (b : Int) = (b : Int) := wN rfl (by omega)
      obtain ⟨z10, hz10⟩ : ∃ z10, z10 = z * 10 := ⟨_, rfl⟩
      have w2 : IntKind.i64.wrap ((z10 : Int) + (b : Int)) = ((z10 + b : Nat) : Int) := wN (by omega) (by omega)
      obtain ⟨zb, hzb⟩ : ∃ zb, zb = z10 + b := ⟨_, rfl⟩
      obtain ⟨z', hz'⟩ : ∃ z', z' = dT s i' := ⟨_, rfl⟩
      rw [← hz10, ← hz'] at hds
      rw [← hz10] at w1
      rw [← hzb] at w2
      have w4 : IntKind.i64.wrap ((zb : Int) - 48) = (z' : Int) := wN (by omega) (by omega)
      simp only [push_cast, seval, hlt, hb, ← hbn, c1, c2, w1, w2, w3, w4, hws]
      refine ⟨_, ?_, hX ⟨i', by omega, hal⟩ (by simp only; omega)⟩
      simp only [← hz']
      exact Weak.same (by simp only [push_cast, seval])
    · obtain rfl : i = s.size := by omega
      have he := rd_end h10n hd
      rw [dT_all] at hlt9 ⊢
      obtain ⟨z, hz⟩ : ∃ z, z = rdN s := ⟨_, rfl⟩
      have hX2 : rdX s = if rdB s then [i64 z, bo true] else [i64 0, bo false] := by rw [hz]; rfl
      rw [hX2, he]
      rw [← hz] at hlt9 ⊢
      by_cases c3 : (1000000000 : Int) < (z : Int)
      · rw [if_neg (by simp; omega)]
        simp only [Tryz.ntmps59, Tryz.results59, push_cast, seval, hlt, c3]
      · have c4 : z ≤ 1000000000 := by omega
        have kd := decimalS_ok z (by omega)
        simp only [Tryz.ntmps59, Tryz.results59, push_cast, seval, hlt, c3]
        refine GoL_call rfl rfl kd rfl rfl ?_
        by_cases c5 : decB z = s
        · simp only [Tryz.ntmps59, Tryz.results59, push_cast, seval, c5, c4]
        · simp only [Tryz.ntmps59, Tryz.results59, push_cast, seval, c5, c4]
end Go.Proofs.YtlbmojbkmcpnaaaGreatDoor

