/- Entries read and told: by their code. -/
import Derived.Test.YtennhlaibefacaaDoorW9
namespace Go.Proofs.YtennhlaibefacaaDoor
open Go.RowKit Go.Rx
set_option linter.unusedSimpArgs false
set_option maxRecDepth 100000

def rcB (s : ByteArray) : Bool := decide ((s.size : Int) ≤ 4) && confB (natsL s)
def rcX (s : ByteArray) : List X := if rcB s then [.one (.own 1 (vR (ints (natsL s)))), bo true] else [.one (.own 1 []), bo false]
theorem readConfS_ok (s : ByteArray) (hs : s.size ≤ 140737488355328) : PureFn Tryd.prog 44 [st s] (rcX s) := by
  refine PureFn_of_Go Tryd.func44 rfl (by decide) mo (by decide +kernel) ?_
  obtain ⟨F, hF⟩ : ∃ F, F = natsL s := ⟨_, rfl⟩
  have hFl : F.length = s.size := by rw [hF, natsL_length]
  obtain ⟨ret, hret⟩ : ∃ ret, ret = rcX s := ⟨_, rfl⟩
  rw [← hret]
  simp only [Tryd.ntmps44, Tryd.results44, push_cast, seval]
  refine Go_loop (α := {i : Nat // i ≤ s.size ∧ i ≤ 5})
    (fun i => ⟨tp 36 [(0, .x (st s)), (4, .x (.one (.rs (0, 1472) [] 1 0 i.1))), (5, int i.1)], 0, [((0, 1472), ⟨.sl, 1, vR (ints (F.take i.1))⟩)], []⟩) (fun i => s.size - i.1) ⟨0, Nat.zero_le _, by omega⟩ ?_ ?_
  · refine Weak.trans (Weak.rename (0, 384) (0, 1472) rfl rfl (by decide) rfl) ?_
    simp only [push_cast, seval, ints, List.map_nil, List.take_zero]
    exact Weak.same (by simp only [push_cast, seval, Int.ofNat_zero])
  · rintro ⟨i, hi, hi5⟩ X hX
    have hll : (ints (F.take i)).length = i := by rw [ints_length, List.length_take, hFl]; omega
    by_cases hlt : (i : Int) < (s.size : Int)
    · have hi' : i < s.size := by omega
      by_cases h4 : (i : Int) ≤ 4
      · have ws := wsucc hi' (by omega)
        have hb := bu_get hi'
        have hw : IntKind.i64.wrap ((bu s i).toNat : Int) = ((bu s i).toNat : Int) := wN rfl (by have := u8_lt (bu s i); omega)
        have a0 : i + 1 ≤ 4294967296 := by omega
        have a1 := max_len a0
        have a2 := room_le (b := 8) a0 (by decide)
        have s1 := vR_snoc (ints (F.take i)) [.int .i64 ((bu s i).toNat : Int)]
        have e1 : ints (F.take i) ++ [[Value.int .i64 ((bu s i).toNat : Int)]] = ints (F.take (i + 1)) := by rw [hF, natsL_take s hi']; simp [ints]
        rw [e1] at s1
        simp only [List.map_cons, List.map_nil] at s1
        obtain ⟨i', hi1⟩ : ∃ i', i' = i + 1 := ⟨_, rfl⟩
        rw [← hi1] at ws s1
        simp only [push_cast, seval, hlt, h4, hb, hw, hll, a1, a2, s1, ws, flatRows, flatRow]
        refine ⟨_, ?_, hX ⟨i', by omega, by omega⟩ (by simp only; omega)⟩
        exact Weak.drop (by simp only [push_cast, seval, hi1]) (by simp only [push_cast, seval, hi1]) (by simp only [push_cast, seval, hi1])
      · have hne : decide ((i : Int) = (s.size : Int)) = false := decide_eq_false (by omega)
        have hr : rcB s = false := by simp only [rcB]; rw [decide_eq_false (by omega), Bool.false_and]
        simp only [rcX, hr, Bool.false_eq_true, if_false] at hret
        subst hret
        simp only [Tryd.ntmps44, Tryd.results44, push_cast, seval, hlt, h4, decide_not, hne, hll]
    · have hie : i = s.size := by omega
      have hfin : F.take i = F := List.take_of_length_le (by rw [hFl, hie]; exact Nat.le_refl _)
      have heq : decide ((i : Int) = (s.size : Int)) = true := decide_eq_true (by omega)
      rw [hfin] at hll
      have k2 := confOkS_ok F (by rw [hFl]; omega)
      have ht : (vR (ints F)).take i = vR (ints F) := List.take_of_length_le (by rw [vR_length, hll]; exact Nat.le_refl _)
      have hr : rcB s = confB F := by
        simp only [rcB, ← hF]
        cases hc : confB F with
        | false => rw [Bool.and_false]
        | true =>
          simp only [confB, Bool.and_eq_true, decide_eq_true_eq] at hc
          have := rise_len hc.2
          rw [decide_eq_true (by omega)]; rfl
      simp only [hfin]
      simp only [Tryd.ntmps44, Tryd.results44, push_cast, seval, hlt, decide_not, heq, hll]
      refine GoL_call rfl (by simp only [push_cast, seval, ht]) k2 rfl rfl ?_
      cases c2 : confB F with
      | true =>
        simp only [rcX, hr.trans c2, if_true, ← hF] at hret
        subst hret
        simp only [Tryd.ntmps44, Tryd.results44, push_cast, seval, hll]
      | false =>
        simp only [rcX, hr.trans c2, Bool.false_eq_true, if_false] at hret
        subst hret
        simp only [Tryd.ntmps44, Tryd.results44, push_cast, seval, hll]

/-! ### entries -/
def entC (term kind : Int) (data : ByteArray) : List C := [.v (.int .i64 term), .v (.int .i64 kind), .v (.string data)]
def eoB (term kind : Int) (data : ByteArray) : Bool := inR term 0 100000 &&
  (if decide (kind = 1) then decide (data = ⟨#[]⟩) else if decide (kind = 2) then rcB data else if decide (kind = 3) then decide ((data.size : Int) ≤ 640) else false)
theorem rcX_true {s : ByteArray} (h : rcB s = true) : rcX s = [.one (.own 1 (vR (ints (natsL s)))), bo true] := by simp only [rcX, h, if_true]
theorem rcX_false {s : ByteArray} (h : rcB s = false) : rcX s = [.one (.own 1 []), bo false] := by simp only [rcX, h, Bool.false_eq_true, if_false]
def etB (index term kind : Nat) (data : ByteArray) : ByteArray := (((⟨#[69]⟩ ++ varB index) ++ varB term) ++ ⟨[UInt8.ofNat kind].toArray⟩) ++ data
def etOk (index term kind : Nat) (data : ByteArray) : Bool := eoB term kind data && inR index 1 1000000
def etX (index term kind : Nat) (data : ByteArray) : List X := if etOk index term kind data then [st (etB index term kind data), bo true] else [st ⟨#[]⟩, bo false]
end Go.Proofs.YtennhlaibefacaaDoor

