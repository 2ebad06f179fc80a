/- Lists of texts: equality, marks; frames. -/
import Derived.Test.YtennhlaibefacaaDoorW4
namespace Go.Proofs.YtennhlaibefacaaDoor
open Go.RowKit Go.Rx
set_option linter.unusedSimpArgs false
set_option maxRecDepth 100000

def strs (xs : List ByteArray) : List (List Value) := xs.map fun x => [.string x]
def ints (xs : List Int) : List (List Value) := xs.map fun x => [.int .i64 x]
theorem strs_length (xs : List ByteArray) : (strs xs).length = xs.length := by simp [strs]
theorem ints_length (xs : List Int) : (ints xs).length = xs.length := by simp [ints]
theorem strs_getD (xs : List ByteArray) {i : Nat} (h : i < xs.length) : (strs xs).getD i [] = [.string (xs.getD i default)] := by
  simp [strs, List.getD_eq_getElem?_getD, List.getElem?_map, List.getElem?_eq_getElem h]
theorem ints_getD (xs : List Int) {i : Nat} (h : i < xs.length) : (ints xs).getD i [] = [.int .i64 (xs.getD i default)] := by
  simp [ints, List.getD_eq_getElem?_getD, List.getElem?_map, List.getElem?_eq_getElem h]
theorem wsucc {i n : Nat} (h : i < n) (hn : n ≤ 140737488355328) : IntKind.i64.wrap ((i : Int) + 1) = ((i + 1 : Nat) : Int) := by rw [IntKind.wrap_i64]; omega

/-! ### marks -/
def digB (n : Nat) : ByteArray := if n = 0 then ⟨#[]⟩ else digB (n / 10) ++ ⟨[UInt8.ofNat (48 + n % 10)].toArray⟩
termination_by n
decreasing_by omega
theorem digB_zero : digB 0 = ⟨#[]⟩ := by rw [digB, if_pos rfl]
theorem digB_pos {n : Nat} (h : n ≠ 0) : digB n = digB (n / 10) ++ ⟨[UInt8.ofNat (48 + n % 10)].toArray⟩ := by rw [digB, if_neg h]
def mkB (k : Nat) : ByteArray := ⟨#[109]⟩ ++ digB k
theorem empty_append (b : ByteArray) : (⟨#[]⟩ : ByteArray) ++ b = b := bytes_ext (by simp [ByteArray.data_append])

theorem markText_ok (k : Nat) (hk : 0 < k) (hk2 : k ≤ 140737488355328) : PureFn Tryd.prog 36 [i64 k] [st (mkB k)] := by
  refine PureFn_of_Go Tryd.func36 rfl (by decide) mo (by decide +kernel) ?_
  have h0 : ¬ (k : Int) ≤ 0 := by omega
  simp only [Tryd.ntmps36, Tryd.results36, push_cast, seval, h0]
  refine Go_loop (α := {p : Nat × ByteArray // digB p.1 ++ p.2 = digB k ∧ p.1 + p.2.size ≤ k})
    (fun p => ⟨tp 20 [(0, int p.1.1), (3, .x (st p.1.2))], 0, [], []⟩) (fun p => p.1.1) ⟨(k, ⟨#[]⟩), bytes_ext (by simp [ByteArray.data_append]), by simp [ByteArray.size]⟩ ?_ ?_
  · exact Weak.same (by simp only [push_cast, seval])
  · rintro ⟨⟨m, out⟩, hp, hm⟩ X hX
    simp only at hp hm
    by_cases hlt : (0 : Int) < (m : Int)
    · have hrem := tmodN m 10
      rw [show ((10 : Nat) : Int) = 10 from rfl] at hrem
      obtain ⟨q, hq⟩ : ∃ q, q = m % 10 := ⟨_, rfl⟩
      rw [← hq] at hrem
      have hw1 : IntKind.i64.wrap (48 + (q : Int)) = ((48 + q : Nat) : Int) := wN (by omega) (by omega)
      have hw2 := wu8 (n := 48 + q)
      have hb : UInt8.ofNat (48 + q) = UInt8.ofNat (48 + m % 10) := by rw [hq]
      obtain ⟨z, hz⟩ : ∃ z, z = 48 + q := ⟨_, rfl⟩
      rw [← hz] at hw1 hw2 hb
      obtain ⟨c, hc⟩ : ∃ c, c = UInt8.ofNat z := ⟨_, rfl⟩
      rw [← hc] at hw2 hb
      have hdiv := tdivN m 10
      rw [show ((10 : Nat) : Int) = 10 from rfl] at hdiv
      have hw3 : IntKind.i64.wrap ((m : Int).tdiv 10) = ((m / 10 : Nat) : Int) := wN hdiv (by omega)
      obtain ⟨m', hm'⟩ : ∃ m', m' = m / 10 := ⟨_, rfl⟩
      rw [← hm'] at hw3
      have hf := str_natsOf [c]
      simp only [natsOf, List.map_cons, List.map_nil] at hf
      obtain ⟨cc, hcc⟩ : ∃ cc : ByteArray, cc = ⟨[c].toArray⟩ := ⟨_, rfl⟩
      rw [← hcc] at hf
      have hcs : cc.size = 1 := by rw [hcc]; rfl
      have hroom : cc.size + out.size ≤ 9223372036854775807 := by omega
      have hinv : digB m' ++ (cc ++ out) = digB k := by
        rw [← hp, digB_pos (n := m) (by omega), hm', hcc, hb, ByteArray.append_assoc]
      have hsz : m' + (cc ++ out).size ≤ k := by rw [ByteArray.size_append]; omega
      simp only [push_cast, seval, hlt, hrem, hw1, hw2, hw3, hf, hroom]
      refine ⟨_, ?_, hX ⟨(m', cc ++ out), hinv, hsz⟩ (by simp only; omega)⟩
      exact Weak.drop (by simp only [push_cast, seval]) (by simp only [push_cast, seval]) (by simp only [push_cast, seval])
    · have hm0 : m = 0 := by omega
      have hfin : (⟨#[109]⟩ : ByteArray) ++ out = mkB k := by
        rw [mkB, ← hp, hm0, digB_zero, empty_append]
      have hroom : (⟨#[109]⟩ : ByteArray).size + out.size ≤ 9223372036854775807 := by
        have : (⟨#[109]⟩ : ByteArray).size = 1 := rfl
        omega
      simp only [Tryd.ntmps36, Tryd.results36, push_cast, seval, hlt, hroom, hfin]

def marks (k n : Nat) : List (List Value) := (List.range n).map fun j => [.string (mkB (k + j))]
theorem marks_length (k n : Nat) : (marks k n).length = n := by simp [marks]
theorem marks_getD (k : Nat) {n i : Nat} (h : i < n) : (marks k n).getD i [] = [.string (mkB (k + i))] := by
  simp [marks, List.getD_eq_getElem?_getD, List.getElem?_map, h]
end Go.Proofs.YtennhlaibefacaaDoor

