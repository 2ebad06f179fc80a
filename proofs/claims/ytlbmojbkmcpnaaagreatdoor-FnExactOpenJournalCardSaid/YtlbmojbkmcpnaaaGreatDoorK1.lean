/- Decimal numerals. -/
import Derived.Test.YtlbmojbkmcpnaaaGreatDoorX1
import Derived.Test.YtlbmojbkmcpnaaaGreatDoorSh
namespace Go.Proofs.YtlbmojbkmcpnaaaGreatDoor
open Go.RowKit Go.Rx
set_option linter.unusedSimpArgs false
set_option maxRecDepth 100000

def decB (n : Nat) : ByteArray := ⟨(Lib.decDigits n).toArray⟩
theorem decB_list (n : Nat) : (decB n).data.toList = Lib.decDigits n := by simp [decB]
theorem decB_pos : ∀ {n : Nat}, n ≠ 0 → decB n = digB n := by
  intro n
  induction n using Nat.strongRecOn with
  | _ n ih =>
    intro h
    refine bytes_ext ?_
    rw [digB_pos h, app_list, decB_list, Lib.decDigits]
    by_cases h10 : n < 10
    · rw [dif_pos h10, show n / 10 = 0 by omega, digB_zero, Nat.mod_eq_of_lt h10]
      rfl
    · rw [dif_neg h10, ← ih (n / 10) (by omega) (by omega), decB_list]
theorem decB_zero : decB 0 = ⟨#[48]⟩ := by
  refine bytes_ext ?_
  rw [decB_list, Lib.decDigits]; rfl

def isD (b : UInt8) : Bool := decide (48 ≤ b.toNat) && decide (b.toNat ≤ 57)
theorem isD_iff {b : UInt8} : isD b = true ↔ 48 ≤ b.toNat ∧ b.toNat ≤ 57 := by simp [isD]
def dvL (l : List UInt8) : Nat := l.foldl (fun a b => a * 10 + (b.toNat - 48)) 0
theorem dvL_snoc (l : List UInt8) (b : UInt8) : dvL (l ++ [b]) = dvL l * 10 + (b.toNat - 48) := by simp [dvL]
theorem dvL_lt : ∀ (n : Nat) (l : List UInt8), l.length = n → l.all isD = true → dvL l < 10 ^ n
  | 0, l, h, _ => by rw [List.eq_nil_of_length_eq_zero h]; decide
  | n + 1, l, h, hd => by
    obtain ⟨l', b, rfl⟩ : ∃ l' b, l = l' ++ [b] := by
      rcases List.eq_nil_or_concat l with rfl | ⟨l', b, e⟩
      · cases h
      · exact ⟨l', b, by rw [e, List.concat_eq_append]⟩
    rw [List.all_append, Bool.and_eq_true] at hd
    have h1 := dvL_lt n l' (by simpa using h) hd.1
    have h2 : isD b = true := by simpa using hd.2
    rw [isD_iff] at h2
    rw [dvL_snoc, Nat.pow_succ]; omega
theorem ofNat_digit {d : Nat} (h : d < 10) : (UInt8.ofNat (48 + d)).toNat = 48 + d := by
  simp only [UInt8.toNat_ofNat']; omega
theorem dvL_dec (n : Nat) : dvL (Lib.decDigits n) = n ∧ (Lib.decDigits n).all isD = true := by
  induction n using Nat.strongRecOn with
  | _ n ih =>
    rw [Lib.decDigits]
    by_cases h10 : n < 10
    · rw [dif_pos h10]
      have := ofNat_digit h10
      refine ⟨?_, ?_⟩
      · show 0 * 10 + ((UInt8.ofNat (48 + n)).toNat - 48) = n
        rw [this]; omega
      · simp only [List.all_cons, List.all_nil, Bool.and_true]; rw [isD_iff, this]; omega
    · rw [dif_neg h10, dvL_snoc, List.all_append, (ih (n / 10) (by omega)).1, (ih (n / 10) (by omega)).2]
      have := ofNat_digit (show n % 10 < 10 by omega)
      refine ⟨by rw [this]; omega, ?_⟩
      simp only [List.all_cons, List.all_nil, Bool.and_true, Bool.true_and]; rw [isD_iff, this]; omega
def rdN (s : ByteArray) : Nat := dvL s.data.toList
def rdB (s : ByteArray) : Bool := (decide (s.size ≤ 10) && s.data.toList.all isD) && (decide (rdN s ≤ 1000000000) && decide (decB (rdN s) = s))
def rdX (s : ByteArray) : List X := if rdB s then [i64 (rdN s), bo true] else [i64 0, bo false]
theorem rdX_true {s : ByteArray} (h : rdB s = true) : rdX s = [i64 (rdN s), bo true] := by simp only [rdX, h, if_true]
theorem rdX_false {s : ByteArray} (h : rdB s = false) : rdX s = [i64 0, bo false] := by simp only [rdX, h, Bool.false_eq_true, if_false]
theorem rdB_spec {s : ByteArray} (h : rdB s = true) : rdN s ≤ 1000000000 ∧ decB (rdN s) = s := by
  simp only [rdB, Bool.and_eq_true, decide_eq_true_eq] at h
  exact h.2
theorem rdN_dec (n : Nat) : rdN (decB n) = n := by rw [rdN, decB_list]; exact (dvL_dec n).1
theorem decDigits_le : ∀ (k n : Nat), n < 10 ^ (k + 1) → (Lib.decDigits n).length ≤ k + 1
  | 0, n, h => by rw [Lib.decDigits, dif_pos (by simpa using h)]; simp
  | k + 1, n, h => by
    rw [Lib.decDigits]
    by_cases h10 : n < 10
    · rw [dif_pos h10]; simp
    · rw [dif_neg h10, List.length_append]
      have := decDigits_le k (n / 10) (by rw [Nat.pow_succ] at h; omega)
      simp only [List.length_cons, List.length_nil]; omega
theorem decB_size (n : Nat) (h : n < 10 ^ 10) : (decB n).size ≤ 10 := by
  have := decDigits_le 9 n h
  rw [ByteArray.size, ← Array.length_toList, decB_list]; exact this
theorem rdB_dec {n : Nat} (h : n ≤ 1000000000) : rdB (decB n) = true := by
  have h1 := decB_size n (by omega)
  have h2 := dvL_dec n
  simp [rdB, rdN_dec, h, h1, decB_list, h2.2]

/-! ### strconv.Itoa -/
theorem itoa_ok (n : Nat) (hn : n ≤ 9223372036854775807) : PureFn Tryz.prog 106 [i64 n] [st (decB n)] := by
  refine PureFn_v (vs := [.int .i64 n]) ⟨_, Tryz.func106, by decide, rfl⟩ fun w h => ?_
  have hv : (Tryz.prog.globalNamed "internal/strconv.uint64pow10").isSome = true := by kernel_rfl
  obtain ⟨v, hv⟩ := Option.isSome_iff_exists.1 hv
  have ht := (h.tab _ _ _ _ (.head _) hv).2
  have := Any.strconv_Itoa laysItoa n (by omega) (by omega) w ht
  rwa [Lib.itoa_nonneg] at this
end Go.Proofs.YtlbmojbkmcpnaaaGreatDoor

