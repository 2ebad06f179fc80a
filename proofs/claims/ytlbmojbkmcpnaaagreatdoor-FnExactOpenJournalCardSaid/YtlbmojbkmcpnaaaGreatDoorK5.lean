/- Right disks; the newest snapshot. -/
import Derived.Test.YtlbmojbkmcpnaaaGreatDoorD2
namespace Go.Proofs.YtlbmojbkmcpnaaaGreatDoor
open Go.RowKit Go.Rx
set_option linter.unusedSimpArgs false
set_option maxRecDepth 100000

def fOk (f : Fil) : Bool := (inR f.name.size 1 8 && decide ((f.text.size : Int) ≤ 20000)) && inR f.kept 0 f.text.size
def fAt (l : List Fil) (i : Nat) : Fil := l.getD i default
def stepsUp (l : List Fil) (i : Nat) : Bool := decide (i = 0) || ltB (fAt l (i - 1)).name (fAt l i).name
def dkTo (l : List Fil) (n : Nat) : Bool := (List.range n).all fun i => fOk (fAt l i) && stepsUp l i
def dkB (l : List Fil) : Bool := decide ((l.length : Int) ≤ 30) && dkTo l l.length
theorem dkTo_zero (l : List Fil) : dkTo l 0 = true := rfl
theorem dkTo_succ (l : List Fil) (i : Nat) : dkTo l (i + 1) = (dkTo l i && (fOk (fAt l i) && stepsUp l i)) := by
  simp [dkTo, List.range_succ, List.all_append]
theorem dkTo_false {l : List Fil} {i : Nat} (h : dkTo l (i + 1) = false) : ∀ {n}, i + 1 ≤ n → dkTo l n = false := by
  intro n hn
  cases h2 : dkTo l n with
  | false => rfl
  | true =>
    have : dkTo l (i + 1) = true := by
      unfold dkTo at h2 ⊢
      rw [List.all_eq_true] at h2 ⊢
      intro x hx
      exact h2 x (List.mem_range.2 (Nat.lt_of_lt_of_le (List.mem_range.1 hx) hn))
    rw [h] at this; cases this
theorem dk_spec {l : List Fil} (h : dkB l = true) : l.length ≤ 30 ∧ ∀ i, i < l.length → fOk (fAt l i) = true ∧ (0 < i → ltB (fAt l (i - 1)).name (fAt l i).name = true) := by
  simp only [dkB, dkTo, Bool.and_eq_true, decide_eq_true_eq, List.all_eq_true, List.mem_range] at h
  refine ⟨by omega, fun i hi => ?_⟩
  obtain ⟨h1, h2⟩ := h.2 i hi
  refine ⟨h1, fun h0 => ?_⟩
  simp only [stepsUp, Bool.or_eq_true, decide_eq_true_eq] at h2
  rcases h2 with h2 | h2
  · omega
  · exact h2
theorem dk_rise {l : List Fil} (h : dkB l = true) : ∀ (d i : Nat), i + d + 1 < l.length → ltB (fAt l i).name (fAt l (i + d + 1)).name = true
  | 0, i, hi => by have := ((dk_spec h).2 (i + 1) hi).2 (by omega); exact this
  | d + 1, i, hi => by
    have h1 := dk_rise h d i (by omega)
    have h2 := ((dk_spec h).2 (i + d + 1 + 1) (by omega)).2 (by omega)
    exact ltB_trans h1 h2
theorem dk_ne {l : List Fil} (h : dkB l = true) {i j : Nat} (hij : i < j) (hj : j < l.length) : (fAt l i).name ≠ (fAt l j).name := by
  obtain ⟨d, rfl⟩ : ∃ d, j = i + d + 1 := ⟨j - i - 1, by omega⟩
  exact ltB_ne (dk_rise h d i hj)

theorem fileOkI_ok (f : Fil) : PureFn Tryz.prog 68 [.agg (filC f)] [bo (fOk f)] := by
  refine PureFn_of_Go Tryz.func68 rfl (by decide) mo (by decide +kernel) ?_
  have k1 := inRange_ok (f.name.size : Int) 1 8
  have k2 := inRange_ok f.kept 0 (f.text.size : Int)
  rw [show (decide ((1 : Int) ≤ (f.name.size : Int)) && decide ((f.name.size : Int) ≤ 8)) = inR f.name.size 1 8 from rfl] at k1
  rw [show (decide ((0 : Int) ≤ f.kept) && decide (f.kept ≤ (f.text.size : Int))) = inR f.kept 0 f.text.size from rfl] at k2
  unfold fOk
  simp only [Tryz.ntmps68, Tryz.results68, push_cast, seval, filC]
  refine GoL_call rfl rfl k1 rfl rfl ?_
  cases c1 : inR f.name.size 1 8 with
  | false => simp only [Tryz.ntmps68, Tryz.results68, push_cast, seval, Bool.false_eq_true]
  | true =>
    by_cases c2 : (f.text.size : Int) ≤ 20000
    · simp only [Tryz.ntmps68, Tryz.results68, push_cast, seval, c2]
      refine GoL_call rfl rfl k2 rfl rfl ?_
      simp only [Tryz.ntmps68, Tryz.results68, push_cast, seval]
    · simp only [Tryz.ntmps68, Tryz.results68, push_cast, seval, c2]
theorem l03Name_ok (s : ByteArray) : PureFn Tryz.prog 58 [st s] [bo (inR s.size 1 8)] := by
  refine PureFn_of_Go Tryz.func58 rfl (by decide) mo (by decide +kernel) ?_
  have k1 := l01In_ok (s.size : Int) 1 8
  rw [show (decide ((1 : Int) ≤ (s.size : Int)) && decide ((s.size : Int) ≤ 8)) = inR s.size 1 8 from rfl] at k1
  simp only [Tryz.ntmps58, Tryz.results58, push_cast, seval]
  refine GoL_call rfl rfl k1 rfl rfl ?_
  simp only [Tryz.ntmps58, Tryz.results58, push_cast, seval]
theorem diskOkI_ok (l : List Fil) (h : filSm l) : PureFn Tryz.prog 31 [.agg [.sh 3 (vR (fils l))]] [bo (dkB l)] := by
  refine PureFn_of_Go Tryz.func31 rfl (by decide) mo (by decide +kernel) ?_
  obtain ⟨hl, hs⟩ := h
  simp only [Tryz.ntmps31, Tryz.results31, push_cast, seval, fils_length]
  refine Go_loop (α := {i : Nat // i ≤ l.length ∧ dkTo l i = true})
    (fun i => ⟨tp 37 [(1, .x (.one (.pt (0, 64) [] 1 0 0))), (2, .x (bo false)), (6, .x (.one (.sh 3 (vR (fils l))))), (7, int l.length), (8, int i.1)], 0, [((0, 64), ⟨.box, 1, [[.sh 3 (vR (fils l))]]⟩)], []⟩) (fun i => l.length - i.1) ⟨0, Nat.zero_le _, dkTo_zero l⟩ ?_ ?_
  · exact Weak.same (by simp only [push_cast, seval, Int.ofNat_zero])
  · rintro ⟨i, hi, hd⟩ X hX
    by_cases hlt : (i : Int) < (l.length : Int)
    · have hi' : i < l.length := by omega
      have hg := fils_getD l hi'
      have hmem := getD_mem' l i hi'
      have hdk := dkTo_succ l i
      rw [hd, Bool.true_and] at hdk
      have ws := wsucc hi' (by omega)
      obtain ⟨i', hi1⟩ : ∃ i', i' = i + 1 := ⟨_, rfl⟩
      have hbad : dkTo l i' = false → dkB l = false := fun e => by unfold dkB; rw [dkTo_false (i := i) (by rw [← hi1]; exact e) (by omega), Bool.and_false]
      rw [← hi1] at ws hdk
      rw [show fAt l i = l.getD i default from rfl] at hdk
      have hsu : stepsUp l i = (decide (i = 0) || ltB (l.getD (i - 1) default).name (l.getD i default).name) := rfl
      obtain ⟨f, hf⟩ : ∃ f, f = l.getD i default := ⟨_, rfl⟩
      rw [← hf] at hg hmem hdk hsu
      have k1 := fileOkI_ok f
      simp only [filC] at k1
      simp only [push_cast, seval, hlt, fils_length, hi', hg, filV, vR_getD]
      refine GoD_call rfl rfl k1 rfl rfl ?_
      cases c1 : fOk f with
      | false =>
        rw [c1, Bool.false_and] at hdk
        rw [hbad hdk]
        simp only [Tryz.ntmps31, Tryz.results31, push_cast, seval]
      | true =>
        rw [c1, Bool.true_and] at hdk
        by_cases h0 : (0 : Int) < (i : Int)
        · have w1 : IntKind.i64.wrap ((i : Int) - 1) = ((i - 1 : Nat) : Int) := wN (by omega) (by omega)
          have hg1 := fils_getD l (i := i - 1) (by omega)
          have hi1' : i - 1 < l.length := by omega
          rw [show decide (i = 0) = false by simp; omega, Bool.false_or] at hsu
          obtain ⟨p, hp⟩ : ∃ p, p = i - 1 := ⟨_, rfl⟩
          rw [← hp] at w1 hg1 hi1' hsu
          obtain ⟨f1, hf1⟩ : ∃ f1, f1 = l.getD p default := ⟨_, rfl⟩
          rw [← hf1] at hg1 hsu
          have hpl : (p : Int) < (l.length : Int) := by omega
          rw [hsu] at hdk
          cases c2 : ltB f1.name f.name with
          | false =>
            rw [c2] at hdk
            rw [hbad hdk]
            simp only [Tryz.ntmps31, Tryz.results31, push_cast, seval, h0, w1, fils_length, hpl, hi1', hg1, filV, vR_getD, c2]
          | true =>
            rw [c2] at hdk
            simp only [push_cast, seval, h0, w1, fils_length, hpl, hi1', hg1, filV, vR_getD, c2, ws]
            refine ⟨_, ?_, hX ⟨i', by omega, hdk⟩ (by simp only; omega)⟩
            exact Weak.drop (by simp only [push_cast, seval]) (by simp only [push_cast, seval]) (by simp only [push_cast, seval])
        · have hi0 : i = 0 := by omega
          rw [hsu, show decide (i = 0) = true by simp [hi0], Bool.true_or] at hdk
          simp only [push_cast, seval, h0, ws]
          refine ⟨_, ?_, hX ⟨i', by omega, hdk⟩ (by simp only; omega)⟩
          exact Weak.drop (by simp only [push_cast, seval]) (by simp only [push_cast, seval]) (by simp only [push_cast, seval])
    · obtain rfl : i = l.length := by omega
      rw [show dkB l = decide ((l.length : Int) ≤ 30) by unfold dkB; rw [hd, Bool.and_true]]
      simp only [Tryz.ntmps31, Tryz.results31, push_cast, seval, hlt, fils_length]
theorem diskOkS_ok (l : List Fil) (h : filSm l) : PureFn Tryz.prog 22 [.agg [.sh 3 (vR (fils l))]] [bo (dkB l)] := by
  refine PureFn_of_Go Tryz.func22 rfl (by decide) mo (by decide +kernel) ?_
  obtain ⟨hl, hs⟩ := h
  by_cases h30 : (30 : Int) < (l.length : Int)
  · rw [show dkB l = false by unfold dkB; rw [show decide ((l.length : Int) ≤ 30) = false by simp; omega, Bool.false_and]]
    simp only [Tryz.ntmps22, Tryz.results22, push_cast, seval, fils_length, h30]
  have hdB : dkB l = dkTo l l.length := by unfold dkB; rw [show decide ((l.length : Int) ≤ 30) = true by simp; omega, Bool.true_and]
  simp only [Tryz.ntmps22, Tryz.results22, push_cast, seval, fils_length, h30]
  refine Go_loop (α := {i : Nat // i ≤ l.length ∧ dkTo l i = true})
    (fun i => ⟨tp 56 [(1, .x (.one (.pt (0, 64) [] 1 0 0))), (2, .x (bo false)), (3, int i.1)], 0, [((0, 64), ⟨.box, 1, [[.sh 3 (vR (fils l))]]⟩)], []⟩) (fun i => l.length - i.1) ⟨0, Nat.zero_le _, dkTo_zero l⟩ ?_ ?_
  · exact Weak.same (by simp only [push_cast, seval, Int.ofNat_zero])
  · rintro ⟨i, hi, hd⟩ X hX
    by_cases hlt : (i : Int) < (l.length : Int)
    · have hi' : i < l.length := by omega
      have hg := fils_getD l hi'
      have hmem := getD_mem' l i hi'
      have hdk := dkTo_succ l i
      rw [hd, Bool.true_and] at hdk
      have ws := wsucc hi' (by omega)
      obtain ⟨i', hi1⟩ : ∃ i', i' = i + 1 := ⟨_, rfl⟩
      have hbad : dkTo l i' = false → dkB l = false := fun e => by unfold dkB; rw [dkTo_false (i := i) (by rw [← hi1]; exact e) (by omega), Bool.and_false]
      rw [← hi1] at ws hdk
      rw [show fAt l i = l.getD i default from rfl] at hdk
      have hsu : stepsUp l i = (decide (i = 0) || ltB (l.getD (i - 1) default).name (l.getD i default).name) := rfl
      obtain ⟨f, hf⟩ : ∃ f, f = l.getD i default := ⟨_, rfl⟩
      rw [← hf] at hg hmem hdk hsu
      have k1 := l03Name_ok f.name
      have k2 := l01In_ok f.kept 0 (f.text.size : Int)
      rw [show (decide ((0 : Int) ≤ f.kept) && decide (f.kept ≤ (f.text.size : Int))) = inR f.kept 0 f.text.size from rfl] at k2
      have hfo : fOk f = ((inR f.name.size 1 8 && decide ((f.text.size : Int) ≤ 20000)) && inR f.kept 0 f.text.size) := rfl
      simp only [push_cast, seval, hlt, fils_length, hi', hg, filV, vR_getD]
      refine GoD_call rfl rfl k1 rfl rfl ?_
      cases c1 : inR f.name.size 1 8 with
      | false =>
        rw [c1, Bool.false_and, Bool.false_and] at hfo
        rw [hfo, Bool.false_and] at hdk
        rw [hbad hdk]
        simp only [Tryz.ntmps22, Tryz.results22, push_cast, seval]
      | true =>
        rw [c1, Bool.true_and] at hfo
        by_cases c2 : (20000 : Int) < (f.text.size : Int)
        · rw [show decide ((f.text.size : Int) ≤ 20000) = false by simp; omega, Bool.false_and] at hfo
          rw [hfo, Bool.false_and] at hdk
          rw [hbad hdk]
          simp only [Tryz.ntmps22, Tryz.results22, push_cast, seval, c2]
        · rw [show decide ((f.text.size : Int) ≤ 20000) = true by simp; omega, Bool.true_and] at hfo
          simp only [push_cast, seval, c2]
          refine GoD_call rfl rfl k2 rfl rfl ?_
          rw [hfo] at hdk
          cases c3 : inR f.kept 0 f.text.size with
          | false =>
            rw [c3, Bool.false_and] at hdk
            rw [hbad hdk]
            simp only [Tryz.ntmps22, Tryz.results22, push_cast, seval]
          | true =>
            rw [c3, Bool.true_and] at hdk
            by_cases h0 : (0 : Int) < (i : Int)
            · have w1 : IntKind.i64.wrap ((i : Int) - 1) = ((i - 1 : Nat) : Int) := wN (by omega) (by omega)
              have hg1 := fils_getD l (i := i - 1) (by omega)
              have hi1' : i - 1 < l.length := by omega
              rw [show decide (i = 0) = false by simp; omega, Bool.false_or] at hsu
              obtain ⟨p, hp⟩ : ∃ p, p = i - 1 := ⟨_, rfl⟩
              rw [← hp] at w1 hg1 hi1' hsu
              obtain ⟨f1, hf1⟩ : ∃ f1, f1 = l.getD p default := ⟨_, rfl⟩
              rw [← hf1] at hg1 hsu
              have hpl : (p : Int) < (l.length : Int) := by omega
              rw [hsu] at hdk
              cases c4 : ltB f1.name f.name with
              | false =>
                rw [c4] at hdk
                rw [hbad hdk]
                simp only [Tryz.ntmps22, Tryz.results22, push_cast, seval, h0, w1, fils_length, hpl, hi1', hg1, filV, vR_getD, c4]
              | true =>
                rw [c4] at hdk
                simp only [push_cast, seval, h0, w1, fils_length, hpl, hi1', hg1, filV, vR_getD, c4, ws]
                refine ⟨_, ?_, hX ⟨i', by omega, hdk⟩ (by simp only; omega)⟩
                exact Weak.drop (by simp only [push_cast, seval]) (by simp only [push_cast, seval]) (by simp only [push_cast, seval])
            · have hi0 : i = 0 := by omega
              rw [hsu, show decide (i = 0) = true by simp [hi0], Bool.true_or] at hdk
              simp only [push_cast, seval, h0, ws]
              refine ⟨_, ?_, hX ⟨i', by omega, hdk⟩ (by simp only; omega)⟩
              exact Weak.drop (by simp only [push_cast, seval]) (by simp only [push_cast, seval]) (by simp only [push_cast, seval])
    · obtain rfl : i = l.length := by omega
      have hdl : dkB l = true := by rw [hdB, hd]
      simp only [Tryz.ntmps22, Tryz.results22, push_cast, seval, hlt, fils_length]
      rw [hdl]
end Go.Proofs.YtlbmojbkmcpnaaaGreatDoor

