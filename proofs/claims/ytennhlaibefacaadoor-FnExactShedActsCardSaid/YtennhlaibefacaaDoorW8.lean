/- The scanner's other methods, and the reference's cursor. -/
import Derived.Test.YtennhlaibefacaaDoorW7
namespace Go.Proofs.YtennhlaibefacaaDoor
open Go.RowKit Go.Rx
set_option linter.unusedSimpArgs false
set_option maxRecDepth 100000

theorem numA_le {s : ByteArray} {a : Nat} {b : Bool} (ha : a ≤ s.size) : numA s a b ≤ s.size := by
  unfold numA
  split
  · exact ha
  · cases h : rvO s a with
    | none => exact ha
    | some p => obtain ⟨n, x⟩ := p; exact (rvO_bound h).2.2.2
theorem numN_le (s : ByteArray) (a : Nat) (b : Bool) : numN s a b ≤ 1000000000 := by
  unfold numN
  split
  · exact Nat.zero_le _
  · cases h : rvO s a with
    | none => exact Nat.zero_le _
    | some p => obtain ⟨n, x⟩ := p; exact (rvO_bound h).1
theorem takeA_le {s : ByteArray} {a : Nat} {b : Bool} {n : Nat} (ha : a ≤ s.size) : takeA s a b n ≤ s.size := by
  unfold takeA
  cases h : takeOk s a b n with
  | false => simpa using ha
  | true =>
    simp [takeOk] at h
    simp; exact h.2

theorem l05Var_ok (s : ByteArray) (hs : s.size ≤ 140737488355328) (a : Nat) (ha : a ≤ s.size) (b : Bool) : IoFn Tryd.prog 43 .box 3 [sc s a b] [] [sc s (numA s a b) (numB s a b)] [i64 (numN s a b)] := by
  refine IoFn_of_Go Tryd.func43 rfl (by decide) mo (by decide +kernel) (ioOk_box rfl) (ioOk_box rfl) rfl rfl ?_
  have k := readVarS_ok s hs a (by omega)
  cases b with
  | true =>
    cases hr : rvO s a with
    | none =>
      rw [hr] at k
      simp only [Tryd.ntmps43, Tryd.results43, push_cast, seval, sc, numA, numB, numN, hr]
      refine GoD_call rfl rfl k rfl rfl ?_
      simp only [Tryd.ntmps43, Tryd.results43, push_cast, seval, rvX, sc, numA, numB, numN, hr]
    | some p =>
      obtain ⟨n, x⟩ := p
      rw [hr] at k
      simp only [Tryd.ntmps43, Tryd.results43, push_cast, seval, sc, numA, numB, numN, hr]
      refine GoD_call rfl rfl k rfl rfl ?_
      simp only [Tryd.ntmps43, Tryd.results43, push_cast, seval, rvX, sc, numA, numB, numN, hr]
  | false =>
    cases hr : rvO s a with
    | none =>
      rw [hr] at k
      simp only [Tryd.ntmps43, Tryd.results43, push_cast, seval, sc, numA, numB, numN, hr]
      refine GoD_call rfl rfl k rfl rfl ?_
      simp only [Tryd.ntmps43, Tryd.results43, push_cast, seval, rvX, sc, numA, numB, numN, hr]
    | some p =>
      obtain ⟨n, x⟩ := p
      rw [hr] at k
      simp only [Tryd.ntmps43, Tryd.results43, push_cast, seval, sc, numA, numB, numN, hr]
      refine GoD_call rfl rfl k rfl rfl ?_
      simp only [Tryd.ntmps43, Tryd.results43, push_cast, seval, rvX, sc, numA, numB, numN, hr]
theorem l05Take_ok (s : ByteArray) (hs : s.size ≤ 140737488355328) (a : Nat) (ha : a ≤ s.size) (b : Bool) (n : Nat) (hn : n ≤ 140737488355328) : IoFn Tryd.prog 66 .box 3 [sc s a b] [i64 n] [sc s (takeA s a b n) (takeB s a b n)] [st (takeT s a b n)] := by
  refine IoFn_of_Go Tryd.func66 rfl (by decide) mo (by decide +kernel) (ioOk_box rfl) (ioOk_box rfl) rfl rfl ?_
  have w1 : IntKind.i64.wrap ((s.size : Int) - (a : Int)) = ((s.size - a : Nat) : Int) := wN (by omega) (by omega)
  obtain ⟨r, hr⟩ : ∃ r, r = s.size - a := ⟨_, rfl⟩
  rw [← hr] at w1
  have w2 : IntKind.i64.wrap ((a : Int) + (n : Int)) = ((a + n : Nat) : Int) := wN (by omega) (by omega)
  obtain ⟨x, hx⟩ : ∃ x, x = a + n := ⟨_, rfl⟩
  rw [← hx] at w2
  have w3 : IntKind.i64.wrap ((x : Int) - (n : Int)) = (a : Int) := wN (by omega) (by omega)
  cases b with
  | true =>
    have ho : takeOk s a true n = false := rfl
    simp only [Tryd.ntmps66, Tryd.results66, push_cast, seval, sc, takeT, takeA, takeB, ho]
  | false =>
    by_cases c : (r : Int) < (n : Int)
    · have ho : takeOk s a false n = false := by simp [takeOk]; omega
      simp only [Tryd.ntmps66, Tryd.results66, push_cast, seval, sc, takeT, takeA, takeB, ho, w1, c]
    · have ho : takeOk s a false n = true := by simp [takeOk]; omega
      have h1 : a ≤ x := by omega
      have h2 : x ≤ s.size := by omega
      simp only [Tryd.ntmps66, Tryd.results66, push_cast, seval, sc, takeT, takeA, takeB, ho, w1, c, w2, w3, h1, h2, ← hx]

def octN (s : ByteArray) (a : Nat) (b : Bool) : Nat := if takeOk s a b 1 then (bu s a).toNat else 0
theorem octN_lt (s : ByteArray) (a : Nat) (b : Bool) : octN s a b < 256 := by
  unfold octN
  split
  · exact u8_lt _
  · decide
theorem extract_one {s : ByteArray} {a : Nat} (h : a + 1 ≤ s.size) : s.extract a (a + 1) = ⟨[bu s a].toArray⟩ := by
  refine bytes_ext ?_
  rw [extract_list, show a + 1 - a = 0 + 1 by omega, seg_succ (by omega), seg_zero]; rfl
def flagB (s : ByteArray) (a : Nat) (b : Bool) : Bool := if 1 < octN s a b then true else takeB s a b 1
def shB (s : ByteArray) (a : Nat) (b : Bool) : Bool := if 20000 < numN s a b then true else numB s a b
def shT (s : ByteArray) (a : Nat) (b : Bool) : ByteArray := takeT s (numA s a b) (shB s a b) (numN s a b)
def shA (s : ByteArray) (a : Nat) (b : Bool) : Nat := takeA s (numA s a b) (shB s a b) (numN s a b)
def shBB (s : ByteArray) (a : Nat) (b : Bool) : Bool := takeB s (numA s a b) (shB s a b) (numN s a b)
theorem short_ok (s : ByteArray) (hs : s.size ≤ 140737488355328) (a : Nat) (ha : a ≤ s.size) (b : Bool) : IoFn Tryd.prog 54 .box 3 [sc s a b] [] [sc s (shA s a b) (shBB s a b)] [st (shT s a b)] := by
  refine IoFn_of_Go Tryd.func54 rfl (by decide) mo (by decide +kernel) (ioOk_box rfl) (ioOk_box rfl) rfl rfl ?_
  have k := number_ok s hs a b
  have hle := numA_le (b := b) ha
  have hnl := numN_le s a b
  simp only [Tryd.ntmps54, Tryd.results54, push_cast, seval, sc]
  refine GoL_io (0, 1) .box 3 [sc s a b] rfl rfl rfl rfl (.inl rfl) rfl k rfl rfl ?_
  unfold shA shBB shT shB
  generalize numA s a b = x at hle ⊢
  generalize numB s a b = y
  generalize numN s a b = n at hnl ⊢
  by_cases c : (20000 : Int) < (n : Int)
  · have c' : 20000 < n := by omega
    have k2 := take_ok s hs x hle true n (by omega)
    simp only [c', if_true]
    simp only [Tryd.ntmps54, Tryd.results54, push_cast, seval, sc, c]
    refine GoL_io (0, 1) .box 3 [sc s x true] rfl rfl rfl rfl (.inl rfl) rfl k2 rfl rfl ?_
    simp only [Tryd.ntmps54, Tryd.results54, push_cast, seval, sc]
  · have c' : ¬ 20000 < n := by omega
    have k2 := take_ok s hs x hle y n (by omega)
    simp only [c', if_false]
    simp only [Tryd.ntmps54, Tryd.results54, push_cast, seval, sc, c]
    refine GoL_io (0, 1) .box 3 [sc s x y] rfl rfl rfl rfl (.inl rfl) rfl k2 rfl rfl ?_
    simp only [Tryd.ntmps54, Tryd.results54, push_cast, seval, sc]
def l5A (s : ByteArray) (a : Nat) (b : Bool) : Nat := takeA s (numA s a b) (numB s a b) (numN s a b)
def l5B (s : ByteArray) (a : Nat) (b : Bool) : Bool := takeB s (numA s a b) (numB s a b) (numN s a b)
def l5T (s : ByteArray) (a : Nat) (b : Bool) : ByteArray := takeT s (numA s a b) (numB s a b) (numN s a b)
theorem l05ReadShort_ok (s : ByteArray) (hs : s.size ≤ 140737488355328) (a : Nat) (ha : a ≤ s.size) (b : Bool) : IoFn Tryd.prog 45 .box 3 [sc s a b] [] [sc s (l5A s a b) (l5B s a b)] [st (l5T s a b)] := by
  refine IoFn_of_Go Tryd.func45 rfl (by decide) mo (by decide +kernel) (ioOk_box rfl) (ioOk_box rfl) rfl rfl ?_
  have k := l05Var_ok s hs a ha b
  have hle := numA_le (b := b) ha
  have hnl := numN_le s a b
  simp only [Tryd.ntmps45, Tryd.results45, push_cast, seval, sc]
  refine GoL_io (0, 1) .box 3 [sc s a b] rfl rfl rfl rfl (.inl rfl) rfl k rfl rfl ?_
  unfold l5A l5B l5T
  generalize numA s a b = x at hle ⊢
  generalize numB s a b = y
  generalize numN s a b = n at hnl ⊢
  have k2 := l05Take_ok s hs x hle y n (by omega)
  simp only [Tryd.ntmps45, Tryd.results45, push_cast, seval, sc]
  refine GoL_io (0, 1) .box 3 [sc s x y] rfl rfl rfl rfl (.inl rfl) rfl k2 rfl rfl ?_
  simp only [Tryd.ntmps45, Tryd.results45, push_cast, seval, sc]
theorem done_ok (s : ByteArray) (a : Nat) (b : Bool) : IoFn Tryd.prog 55 .box 3 [sc s a b] [] [sc s a b] [bo (!b && decide ((a : Int) = (s.size : Int)))] := by
  refine IoFn_of_Go Tryd.func55 rfl (by decide) mo (by decide +kernel) (ioOk_box rfl) (ioOk_box rfl) rfl rfl ?_
  cases b with
  | true => simp only [Tryd.ntmps55, Tryd.results55, push_cast, seval, sc]
  | false => simp only [Tryd.ntmps55, Tryd.results55, push_cast, seval, sc]
end Go.Proofs.YtennhlaibefacaaDoor

