/- Decimal numerals: the code. -/
import Derived.Test.YtlbmojbkmcpnaaaGreatDoorD1
namespace Go.Proofs.YtlbmojbkmcpnaaaGreatDoor
open Go.RowKit Go.Rx
set_option linter.unusedSimpArgs false
set_option maxRecDepth 100000

theorem l01Figure_ok (x : Nat) (h : x < 10) : PureFn Tryz.prog 96 [i64 x] [.one (.v (.int .u8 ((48 + x : Nat) : Int)))] := by
  refine PureFn_of_Go Tryz.func96 rfl (by decide) mo (by decide +kernel) ?_
  have h1 : (x : Int) < 10 := by omega
  have hw1 : IntKind.i64.wrap (48 + (x : Int)) = ((48 + x : Nat) : Int) := wN (by omega) (by omega)
  have hw2 : IntKind.u8.wrap ((48 + x : Nat) : Int) = ((48 + x : Nat) : Int) := by rw [IntKind.wrap_u8]; omega
  obtain ⟨z, hz⟩ : ∃ z, z = 48 + x := ⟨_, rfl⟩
  rw [← hz] at hw1 hw2 ⊢
  simp only [Tryz.ntmps96, Tryz.results96, push_cast, seval, h1, hw1, hw2]
theorem decimalI_ok (n : Nat) (hn : n ≤ 9223372036854775807) : PureFn Tryz.prog 72 [i64 n] [st (decB n)] := by
  refine PureFn_of_Go Tryz.func72 rfl (by decide) mo (by decide +kernel) ?_
  simp only [Tryz.ntmps72, Tryz.results72, push_cast, seval]
  refine GoL_call rfl rfl (itoa_ok n hn) rfl rfl ?_
  simp only [Tryz.ntmps72, Tryz.results72, push_cast, seval]
theorem decimalS_ok (n : Nat) (hn : n ≤ 1000000000000000000) : PureFn Tryz.prog 60 [i64 n] [st (decB n)] := by
  refine PureFn_of_Go Tryz.func60 rfl (by decide) mo (by decide +kernel) ?_
  by_cases h0 : n = 0
  · subst h0
    rw [decB_zero]
    simp only [Tryz.ntmps60, Tryz.results60, push_cast, seval, Int.ofNat_zero]
  have h1 : ¬ ((n : Int) = 0) := by omega
  have h2 : ¬ ((n : Int) < 0) := by omega
  rw [decB_pos h0]
  simp only [Tryz.ntmps60, Tryz.results60, push_cast, seval, h1, h2]
  refine Go_loop (α := {p : Nat × ByteArray // digB p.1 ++ p.2 = digB n ∧ p.1 + p.2.size ≤ n})
    (fun p => ⟨tp 30 [(0, int p.1.1), (3, .x (bo false)), (4, .x (st p.1.2))], 0, [], []⟩) (fun p => p.1.1) ⟨(n, ⟨#[]⟩), bytes_ext (by simp [ByteArray.data_append]), by simp [ByteArray.size]⟩ ?_ ?_
  · exact Weak.same (by simp only [push_cast, seval])
  · rintro ⟨⟨m, out⟩, hp, hm⟩ X hX
    simp only at hp hm
    by_cases hlt : (m : Int) = 0
    · have hm0 : m = 0 := by omega
      rw [hm0, digB_zero, empty_append] at hp
      simp only [Tryz.ntmps60, Tryz.results60, push_cast, seval, hlt, hp]
    · have hrem := tmodN m 10
      rw [show ((10 : Nat) : Int) = 10 from rfl] at hrem
      obtain ⟨q, hq⟩ : ∃ q, q = m % 10 := ⟨_, rfl⟩
      have hq10 : q < 10 := by omega
      have hb : UInt8.ofNat (48 + q) = UInt8.ofNat (48 + m % 10) := by rw [hq]
      rw [← hq] at hrem
      have hq0 : ¬ ((q : Int) < 0) := by omega
      have kf := l01Figure_ok q hq10
      have hw2 := ofNat_digit hq10
      obtain ⟨z, hz⟩ : ∃ z, z = 48 + q := ⟨_, rfl⟩
      rw [← hz] at hb kf hw2
      obtain ⟨c, hc⟩ : ∃ c, c = UInt8.ofNat z := ⟨_, rfl⟩
      rw [← hc] at hb hw2
      rw [← hw2] at kf
      have hdiv := tdivN m 10
      rw [show ((10 : Nat) : Int) = 10 from rfl] at hdiv
      have hw3 : IntKind.i64.wrap ((m : Int).tdiv 10) = ((m / 10 : Nat) : Int) := wN hdiv (by omega)
      obtain ⟨m', hm'⟩ : ∃ m', m' = m / 10 := ⟨_, rfl⟩
      rw [← hm'] at hw3
      have hf := str_natsOf [c]
      simp only [natsOf, List.map_cons, List.map_nil] at hf
      obtain ⟨cc, hcc⟩ : ∃ cc : ByteArray, cc = ⟨[c].toArray⟩ := ⟨_, rfl⟩
      rw [← hcc] at hf
      have hcs : cc.size = 1 := by rw [hcc]; rfl
      have hroom : cc.size + out.size ≤ 9223372036854775807 := by omega
      have hinv : digB m' ++ (cc ++ out) = digB n := by
        rw [← hp, digB_pos (n := m) (by omega), hm', hcc, hb, ByteArray.append_assoc]
      have hsz : m' + (cc ++ out).size ≤ n := by rw [ByteArray.size_append]; omega
      simp only [push_cast, seval, hlt, hrem, hq0]
      refine GoL_call rfl rfl kf rfl rfl ?_
      simp only [push_cast, seval, hf, hroom, hw3]
      refine ⟨_, ?_, hX ⟨(m', cc ++ out), hinv, hsz⟩ (by simp only; omega)⟩
      exact Weak.drop (by simp only [push_cast, seval]) (by simp only [push_cast, seval]) (by simp only [push_cast, seval])
theorem isD_bu {s : ByteArray} (h : s.data.toList.all isD = true) {i : Nat} (hi : i < s.size) : isD (bu s i) = true := by
  have hl : i < s.data.toList.length := by rw [Array.length_toList]; exact hi
  have := List.all_eq_true.1 h (s.data.toList[i]) (List.getElem_mem hl)
  have he : bu s i = s.data.toList[i] := by simp only [bu, List.getD_eq_getElem?_getD, List.getElem?_eq_getElem hl, Option.getD_some]
  rw [he]; exact this
end Go.Proofs.YtlbmojbkmcpnaaaGreatDoor

