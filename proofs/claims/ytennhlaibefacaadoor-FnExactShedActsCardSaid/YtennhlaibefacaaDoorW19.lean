/- Sealed texts; octets; snapshots' texts: by their code. -/
import Derived.Test.YtennhlaibefacaaDoorW18
namespace Go.Proofs.YtennhlaibefacaaDoor
open Go.RowKit Go.Rx
set_option linter.unusedSimpArgs false
set_option maxRecDepth 100000

/-! ### sealed texts -/
def seB (s : ByteArray) : ByteArray := s ++ four (sumN s)
theorem seB_size (s : ByteArray) : (seB s).size = s.size + 4 := by unfold seB; rw [ByteArray.size_append, four_size]
def seX (s : ByteArray) : List X := if decide ((20000 : Int) < (s.size : Int)) then [st ⟨#[]⟩, bo false] else [st (seB s), bo true]
theorem sealedI_ok (s : ByteArray) (hs : s.size ≤ 140737488355328) : PureFn Tryd.prog 78 [st s] (seX s) := by
  refine PureFn_of_Go Tryd.func78 rfl (by decide) mo (by decide +kernel) ?_
  have k := sumText_ok s hs
  have hf : s.size + (four (sumN s)).size ≤ 9223372036854775807 := by rw [four_size]; omega
  unfold seX seB
  cases c : decide ((20000 : Int) < (s.size : Int)) with
  | true => simp only [Tryd.ntmps78, Tryd.results78, push_cast, seval, c]
  | false =>
    simp only [Tryd.ntmps78, Tryd.results78, push_cast, seval, c]
    refine GoL_call rfl rfl k rfl rfl ?_
    simp only [Tryd.ntmps78, Tryd.results78, push_cast, seval, hf, Bool.false_eq_true]
theorem sealedS_ok (s : ByteArray) (hs : s.size ≤ 140737488355328) : PureFn Tryd.prog 70 [st s] (seX s) := by
  refine PureFn_of_Go Tryd.func70 rfl (by decide) mo (by decide +kernel) ?_
  have k := sumOfS_ok s hs
  have k2 := l02Four_ok (sumN s)
  have hf : s.size + (four (sumN s)).size ≤ 9223372036854775807 := by rw [four_size]; omega
  unfold seX seB
  cases c : decide ((20000 : Int) < (s.size : Int)) with
  | true => simp only [Tryd.ntmps70, Tryd.results70, push_cast, seval, c]
  | false =>
    simp only [Tryd.ntmps70, Tryd.results70, push_cast, seval, c]
    refine GoL_call rfl rfl k rfl rfl ?_
    simp only [Tryd.ntmps70, Tryd.results70, push_cast, seval]
    refine GoL_call rfl rfl k2 rfl rfl ?_
    simp only [Tryd.ntmps70, Tryd.results70, push_cast, seval, hf, Bool.false_eq_true]
def uIn (s : ByteArray) : ByteArray := s.extract 0 (s.size - 4)
def uB (s : ByteArray) : Bool := (!decide ((s.size : Int) - 4 < 0) && !decide ((20000 : Int) < (s.size : Int) - 4)) && decide (four (sumN (uIn s)) = s.extract (s.size - 4) s.size)
def uX (s : ByteArray) : List X := if uB s then [st (uIn s), bo true] else [st ⟨#[]⟩, bo false]
theorem uX_true {s : ByteArray} (h : uB s = true) : uX s = [st (uIn s), bo true] := by simp only [uX, h, if_true]
theorem uX_false {s : ByteArray} (h : uB s = false) : uX s = [st ⟨#[]⟩, bo false] := by simp only [uX, h, Bool.false_eq_true, if_false]
theorem uIn_size (s : ByteArray) : (uIn s).size = s.size - 4 := by unfold uIn; rw [ByteArray.size_extract]; omega
/-- What is unsealed, sealed again. -/
theorem uB_spec {s : ByteArray} (h : uB s = true) : s = seB (uIn s) ∧ (uIn s).size ≤ 20000 ∧ s.size = (uIn s).size + 4 := by
  simp only [uB, Bool.and_eq_true, Bool.not_eq_true', decide_eq_false_iff_not, decide_eq_true_eq] at h
  obtain ⟨⟨h1, h2⟩, h3⟩ := h
  have e := uIn_size s
  refine ⟨?_, by omega, by omega⟩
  unfold seB
  rw [h3]
  apply bytes_ext
  rw [app_list, uIn, extract_list, extract_list, Nat.sub_zero, ← seg_all s]
  conv => lhs; rw [show s.size = (s.size - 4) + 4 by omega]
  rw [seg_append, Nat.zero_add]
  congr 2; omega
theorem unsealedI_ok (s : ByteArray) (hs : s.size ≤ 140737488355328) : PureFn Tryd.prog 52 [st s] (uX s) := by
  refine PureFn_of_Go Tryd.func52 rfl (by decide) mo (by decide +kernel) ?_
  have w0 := w64 (n := (s.size : Int) - 4) (by omega) (by omega)
  cases c1 : decide ((s.size : Int) - 4 < 0) with
  | true =>
    rw [uX_false (by rw [uB, c1]; rfl)]
    simp only [Tryd.ntmps52, Tryd.results52, push_cast, seval, w0, c1]
  | false =>
    cases c2 : decide ((20000 : Int) < (s.size : Int) - 4) with
    | true =>
      rw [uX_false (by rw [uB, c1, c2]; rfl)]
      simp only [Tryd.ntmps52, Tryd.results52, push_cast, seval, w0, c1, c2]
    | false =>
      have h4 : 4 ≤ s.size := by simp only [decide_eq_false_iff_not] at c1; omega
      have k := sumText_ok (uIn s) (by rw [uIn_size]; omega)
      have hb : uB s = decide (four (sumN (uIn s)) = s.extract (s.size - 4) s.size) := by rw [uB, c1, c2]; rfl
      have w1 : IntKind.i64.wrap ((s.size : Int) - 4) = ((s.size - 4 : Nat) : Int) := wN (by omega) (by omega)
      rw [show (s.size : Int) - 4 = ((s.size - 4 : Nat) : Int) by omega] at c1 c2
      unfold uIn at k
      have hu : uIn s = s.extract 0 (s.size - 4) := rfl
      have l1 : s.size - 4 ≤ s.size := by omega
      obtain ⟨n, hn⟩ : ∃ n, n = s.size - 4 := ⟨_, rfl⟩
      rw [← hn] at w1 c1 c2 k hb l1 hu
      cases c3 : decide (four (sumN (uIn s)) = s.extract n s.size) with
      | true =>
        rw [uX_true (hb.trans c3)]
        rw [hu] at c3 ⊢
        simp only [Tryd.ntmps52, Tryd.results52, push_cast, seval, w1, c1, c2, l1, Nat.zero_le]
        refine GoD_call rfl rfl k rfl rfl ?_
        simp only [Tryd.ntmps52, Tryd.results52, push_cast, seval, w1, c1, c2, l1, Nat.zero_le, decide_not, c3]
      | false =>
        rw [uX_false (hb.trans c3)]
        rw [hu] at c3
        simp only [Tryd.ntmps52, Tryd.results52, push_cast, seval, w1, c1, c2, l1, Nat.zero_le]
        refine GoD_call rfl rfl k rfl rfl ?_
        simp only [Tryd.ntmps52, Tryd.results52, push_cast, seval, w1, c1, c2, l1, Nat.zero_le, decide_not, c3]
theorem unsealedS_ok (s : ByteArray) (hs : s.size ≤ 140737488355328) : PureFn Tryd.prog 42 [st s] (uX s) := by
  refine PureFn_of_Go Tryd.func42 rfl (by decide) mo (by decide +kernel) ?_
  have w0 := w64 (n := (s.size : Int) - 4) (by omega) (by omega)
  cases c1 : decide ((s.size : Int) - 4 < 0) with
  | true =>
    rw [uX_false (by rw [uB, c1]; rfl)]
    simp only [Tryd.ntmps42, Tryd.results42, push_cast, seval, w0, c1]
  | false =>
    cases c2 : decide ((20000 : Int) < (s.size : Int) - 4) with
    | true =>
      rw [uX_false (by rw [uB, c1, c2]; rfl)]
      simp only [Tryd.ntmps42, Tryd.results42, push_cast, seval, w0, c1, c2]
    | false =>
      have h4 : 4 ≤ s.size := by simp only [decide_eq_false_iff_not] at c1; omega
      have k := sumOfS_ok (uIn s) (by rw [uIn_size]; omega)
      have k2 := l02Four_ok (sumN (uIn s))
      have hb : uB s = decide (four (sumN (uIn s)) = s.extract (s.size - 4) s.size) := by rw [uB, c1, c2]; rfl
      have w1 : IntKind.i64.wrap ((s.size : Int) - 4) = ((s.size - 4 : Nat) : Int) := wN (by omega) (by omega)
      rw [show (s.size : Int) - 4 = ((s.size - 4 : Nat) : Int) by omega] at c1 c2
      unfold uIn at k k2
      have hu : uIn s = s.extract 0 (s.size - 4) := rfl
      have l1 : s.size - 4 ≤ s.size := by omega
      obtain ⟨n, hn⟩ : ∃ n, n = s.size - 4 := ⟨_, rfl⟩
      rw [← hn] at w1 c1 c2 k k2 hb l1 hu
      cases c3 : decide (four (sumN (uIn s)) = s.extract n s.size) with
      | true =>
        rw [uX_true (hb.trans c3)]
        rw [hu] at c3 ⊢
        have c4 : decide (s.extract n s.size = four (sumN (s.extract 0 n))) = true := decide_eq_true (of_decide_eq_true c3).symm
        simp only [Tryd.ntmps42, Tryd.results42, push_cast, seval, w1, c1, c2, l1, Nat.zero_le]
        refine GoD_call rfl rfl k rfl rfl ?_
        simp only [Tryd.ntmps42, Tryd.results42, push_cast, seval]
        refine GoD_call rfl rfl k2 rfl rfl ?_
        simp only [Tryd.ntmps42, Tryd.results42, push_cast, seval, w1, c1, c2, l1, Nat.zero_le, decide_not, c4]
      | false =>
        rw [uX_false (hb.trans c3)]
        rw [hu] at c3
        have c4 : decide (s.extract n s.size = four (sumN (s.extract 0 n))) = false := decide_eq_false fun h => of_decide_eq_false c3 h.symm
        simp only [Tryd.ntmps42, Tryd.results42, push_cast, seval, w1, c1, c2, l1, Nat.zero_le]
        refine GoD_call rfl rfl k rfl rfl ?_
        simp only [Tryd.ntmps42, Tryd.results42, push_cast, seval]
        refine GoD_call rfl rfl k2 rfl rfl ?_
        simp only [Tryd.ntmps42, Tryd.results42, push_cast, seval, w1, c1, c2, l1, Nat.zero_le, decide_not, c4]

/-! ### octets -/
def oct8 (n : Int) : UInt8 := UInt8.ofNat (n % 256).toNat
theorem oct8_wrap (n : Int) : IntKind.u8.wrap n = ((oct8 n).toNat : Int) := by
  rw [IntKind.wrap_u8]; unfold oct8; simp; omega
theorem oct8_nat (b : UInt8) : oct8 (b.toNat : Int) = b := by
  apply UInt8.toNat_inj.1
  have := u8_lt b
  unfold oct8; simp; omega
def octB (l : List Int) : ByteArray := ⟨(l.map oct8).toArray⟩
theorem octB_list (l : List Int) : (octB l).data.toList = l.map oct8 := by simp [octB]
theorem octB_size (l : List Int) : (octB l).size = l.length := by simp [octB, ByteArray.size]
theorem octB_nats (s : ByteArray) : octB (natsL s) = s := by
  apply bytes_ext
  rw [octB_list, natsL, List.map_map]
  have : (oct8 ∘ fun b : UInt8 => (b.toNat : Int)) = id := funext fun b => oct8_nat b
  rw [this, List.map_id]
theorem oct_take (l : List Int) {i : Nat} (h : i < l.length) : (l.map oct8).take (i + 1) = (l.map oct8).take i ++ [oct8 (at_ l i)] := by
  rw [List.take_add_one, List.getElem?_map, List.getElem?_eq_getElem h]
  simp [at_, List.getD_eq_getElem?_getD, List.getElem?_eq_getElem h]
theorem octets_ok (l : List Int) (hl : l.length ≤ 1000000) : PureFn Tryd.prog 81 [.one (.sh 1 (vR (ints l)))] [st (octB l)] := by
  refine PureFn_of_Go Tryd.func81 rfl (by decide) mo (by decide +kernel) ?_
  obtain ⟨F, hF⟩ : ∃ F, F = l.map oct8 := ⟨_, rfl⟩
  have hFl : F.length = l.length := by rw [hF, List.length_map]
  have hfin : (⟨F.toArray⟩ : ByteArray) = octB l := by rw [hF]; rfl
  simp only [Tryd.ntmps81, Tryd.results81, push_cast, seval, ints_length]
  refine Go_loop (α := {i : Nat // i ≤ l.length})
    (fun i => ⟨tp 20 [(0, .x (.one (.sh 1 (vR (ints l))))), (3, .x (.one (.rs (0, 1024) [] 1 0 i.1))), (6, .x (.one (.sh 1 (vR (ints l))))), (7, int l.length), (8, int i.1)], 0, [((0, 1024), ⟨.sl, 1, byR (F.take i.1)⟩)], []⟩) (fun i => l.length - i.1) ⟨0, by omega⟩ ?_ ?_
  · refine Weak.trans (Weak.nilRoot (0, 1024) 1 3 rfl rfl rfl) ?_
    simp only [push_cast, seval, List.take_zero, byR_nil]
    exact Weak.same (by simp only [push_cast, seval, Int.ofNat_zero])
  · rintro ⟨i, hi⟩ X hX
    have hll : (byR (F.take i)).length = i := by rw [byR_length, List.length_take, hFl]; omega
    by_cases hlt : (i : Int) < (l.length : Int)
    · have hi' : i < l.length := by omega
      have ws := wsucc hi' (by omega)
      have hg := ints_getD l hi'
      rw [show l.getD i default = at_ l i from rfl] at hg
      have hw := oct8_wrap (at_ l i)
      have a0 : i + 1 ≤ 4294967296 := by omega
      have a1 := max_len a0
      have a2 := room_le (b := 1) a0 (by decide)
      have s1 := byR_snoc (F.take i) (oct8 (at_ l i))
      have e1 : F.take i ++ [oct8 (at_ l i)] = F.take (i + 1) := by rw [hF, oct_take l hi']
      rw [e1] at s1
      obtain ⟨y, hy⟩ : ∃ y, y = oct8 (at_ l i) := ⟨_, rfl⟩
      rw [← hy] at hw s1
      obtain ⟨x, hx⟩ : ∃ x, x = at_ l i := ⟨_, rfl⟩
      rw [← hx] at hg hw
      obtain ⟨i', hi1⟩ : ∃ i', i' = i + 1 := ⟨_, rfl⟩
      rw [← hi1] at ws s1
      simp only [push_cast, seval, ints_length, hlt, hi', vR_getD, hg, hw, hll, a1, a2, s1, ws]
      refine ⟨_, ?_, hX ⟨i', by omega⟩ (by simp only; omega)⟩
      exact Weak.drop (by simp only [push_cast, seval, hi1]) (by simp only [push_cast, seval, hi1]) (by simp only [push_cast, seval, hi1])
    · have hie : i = l.length := by omega
      have hft : F.take i = F := List.take_of_length_le (by rw [hFl, hie]; exact Nat.le_refl _)
      rw [hft] at hll
      have ht := byR_take F
      rw [byR_length] at hll
      rw [hll] at ht
      simp only [hft]
      simp only [Tryd.ntmps81, Tryd.results81, push_cast, seval, hlt, hll, ht, byR_length, hfin]
end Go.Proofs.YtennhlaibefacaaDoor

