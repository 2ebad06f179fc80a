/- ShedActs: the code. -/
import Derived.Test.YtennhlaibefacaaDoorK9
namespace Go.Proofs.YtennhlaibefacaaDoor
open Go.RowKit Go.Rx
set_option linter.unusedSimpArgs false
set_option maxRecDepth 100000

theorem l03At_ok (l : List Fil) (hl : l.length ≤ 140737488355328) (s : ByteArray) : PureFn Tryd.prog 59 [.agg [.sh 3 (vR (fils l))], st s] [i64 (atR s l 0)] := by
  refine PureFn_of_Go Tryd.func59 rfl (by decide) mo (by decide +kernel) ?_
  simp only [Tryd.ntmps59, Tryd.results59, push_cast, seval]
  obtain ⟨r, hr⟩ : ∃ r, r = atR s l 0 := ⟨_, rfl⟩
  rw [← hr]
  refine Go_loop (α := {i : Nat // i ≤ l.length ∧ atR s (l.drop i) i = r})
    (fun i => ⟨tp 22 [(1, .x (st s)), (2, .x (.one (.pt (0, 128) [] 1 0 0))), (5, int i.1)], 0, [((0, 128), ⟨.box, 1, [[.sh 3 (vR (fils l))]]⟩)], []⟩) (fun i => l.length - i.1) ⟨0, Nat.zero_le _, hr.symm⟩ ?_ ?_
  · exact Weak.same (by simp only [push_cast, seval, Int.ofNat_zero])
  · rintro ⟨i, hi, hinv⟩ X hX
    by_cases hlt : (i : Int) < (l.length : Int)
    · have hi' : i < l.length := by omega
      have hg := fils_getD l hi'
      have ws := wsucc hi' (by omega)
      rw [drop_cons l i hi', atR] at hinv
      obtain ⟨i', hi1⟩ : ∃ i', i' = i + 1 := ⟨_, rfl⟩
      rw [← hi1] at ws hinv
      obtain ⟨f, hf⟩ : ∃ f, f = l.getD i default := ⟨_, rfl⟩
      rw [← hf] at hg hinv
      by_cases c : f.name = s
      · rw [if_pos c] at hinv
        simp only [Tryd.ntmps59, Tryd.results59, push_cast, seval, hlt, fils_length, hi', hg, filV, vR_getD, c]
        rw [hinv]
      · rw [if_neg c] at hinv
        simp only [push_cast, seval, hlt, fils_length, hi', hg, filV, vR_getD, c, ws]
        refine ⟨_, ?_, hX ⟨i', by omega, hinv⟩ (by simp only; omega)⟩
        exact Weak.same (by simp only [push_cast, seval])
    · have hie : i = l.length := by omega
      rw [hie, List.drop_length, atR] at hinv
      simp only [Tryd.ntmps59, Tryd.results59, push_cast, seval, hlt, fils_length]
      rw [← hinv]
theorem l08New_ok (l : List Fil) (hl : l.length ≤ 140737488355328) : PureFn Tryd.prog 32 [.agg [.sh 3 (vR (fils l))]] [.one (.own 4 (vR (acds (newL l))))] := by
  refine PureFn_of_Go Tryd.func32 rfl (by decide) mo (by decide +kernel) ?_
  have k := l03At_ok l hl sPlus
  have hs : (⟨#[115, 43]⟩ : ByteArray) = sPlus := rfl
  simp only [Tryd.ntmps32, Tryd.results32, push_cast, seval, fils_length, hs]
  refine GoL_call rfl (by simp only [push_cast, seval, fils_length, fils_take]) k rfl rfl ?_
  unfold newL
  by_cases c : 0 ≤ atR sPlus l 0
  · rw [if_pos c, show vR (acds [actD sPlus]) = [[.v (.int .i64 4), .v (.string sPlus), .v (.string ⟨#[]⟩), .v (.string ⟨#[]⟩)]] from rfl]
    simp only [Tryd.ntmps32, Tryd.results32, push_cast, seval, c, hs]
  · rw [if_neg c, show vR (acds []) = [] from rfl]
    simp only [Tryd.ntmps32, Tryd.results32, push_cast, seval, c]
theorem acd_row (s : ByteArray) : [C.v (.int .i64 4), .v (.string s), .v (.string ⟨#[]⟩), .v (.string ⟨#[]⟩)] = acdC (actD s) := rfl
theorem l08Drops_ok (l : List Fil) (h : filSm l) (h30 : l.length ≤ 1000000) (n : Nat) : PureFn Tryd.prog 33 [.agg [.sh 3 (vR (fils l))], i64 n] [.one (.own 4 (vR (acds (shD l n))))] := by
  refine PureFn_of_Go Tryd.func33 rfl (by decide) mo (by decide +kernel) ?_
  obtain ⟨hl, hs⟩ := h
  simp only [Tryd.ntmps33, Tryd.results33, push_cast, seval]
  refine Go_loop (α := {i : Nat // i ≤ l.length})
    (fun i => ⟨tp 41 [(1, int n), (2, .x (.one (.pt (0, 128) [] 1 0 0))), (5, .x (.one (.rs (0, 2496) [] 4 0 (shD (l.take i.1) n).length))), (6, int i.1)], 0, [((0, 2496), ⟨.sl, 4, vR (acds (shD (l.take i.1) n))⟩), ((0, 128), ⟨.box, 1, [[.sh 3 (vR (fils l))]]⟩)], []⟩) (fun i => l.length - i.1) ⟨0, Nat.zero_le _⟩ ?_ ?_
  · refine Weak.trans (Weak.rename (0, 512) (0, 2496) rfl rfl (by decide) rfl) ?_
    rw [show shD (l.take 0) n = [] from rfl, show vR (acds []) = [] from rfl]
    simp only [push_cast, seval, Int.ofNat_zero]
    exact Weak.same (by simp only [push_cast, seval])
  · rintro ⟨i, hi⟩ X hX
    simp only
    by_cases hlt : (i : Int) < (l.length : Int)
    · have hi' : i < l.length := by omega
      have hg := fils_getD l hi'
      have hmem := getD_mem' l i hi'
      have ws := wsucc hi' (by omega)
      have hsu := shD_succ hi' n
      have hln := shD_len (l.take i) n
      rw [List.length_take] at hln
      obtain ⟨i', hi1⟩ : ∃ i', i' = i + 1 := ⟨_, rfl⟩
      rw [← hi1] at ws hsu
      obtain ⟨f, hf⟩ : ∃ f, f = l.getD i default := ⟨_, rfl⟩
      rw [← hf] at hg hmem hsu
      have k1 := l08Index_ok f.name (hs f hmem).1
      generalize shD (l.take i) n = A at hsu hln
      have hal := acds_length A
      have hat := acds_take A
      have a0 : A.length + 1 ≤ 4294967296 := by omega
      have a1 := max_len a0
      have a2 := room_le (b := 56) a0 (by decide)
      simp only [push_cast, seval, hlt, fils_length, hi', hg, filV, vR_getD]
      refine GoL_call rfl rfl k1 rfl rfl ?_
      cases c1 : nmB 115 1000000 f.name with
      | false =>
        have hd : dropS n f = false := by simp [dropS, c1]
        rw [hd, if_neg Bool.false_ne_true, List.append_nil] at hsu
        simp only [push_cast, seval, if_neg Bool.false_ne_true, ws]
        refine ⟨_, ?_, hX ⟨i', by omega⟩ (by simp only; omega)⟩
        simp only [hsu]
        exact Weak.drop (by simp only [push_cast, seval]) (by simp only [push_cast, seval]) (by simp only [push_cast, seval])
      | true =>
        have hn0 : (0 : Int) ≤ (nmN 115 f.name : Int) := by omega
        by_cases c2 : (nmN 115 f.name : Int) = (n : Int)
        · have hd : dropS n f = false := by
            have : fIx f = n := by unfold fIx; omega
            simp [dropS, this]
          rw [hd, if_neg Bool.false_ne_true, List.append_nil] at hsu
          simp only [push_cast, seval, if_pos rfl, hn0, c2, ws]
          refine ⟨_, ?_, hX ⟨i', by omega⟩ (by simp only; omega)⟩
          simp only [hsu]
          exact Weak.drop (by simp only [push_cast, seval]) (by simp only [push_cast, seval]) (by simp only [push_cast, seval])
        · have hd : dropS n f = true := by
            have : ¬ fIx f = n := by unfold fIx; omega
            simp [dropS, c1, this]
          rw [hd, if_pos rfl] at hsu
          have hsn := acds_snoc A (actD f.name)
          rw [← hsu] at hsn
          simp only [acdC, actD] at hsn
          have hll : (shD (l.take i') n).length = A.length + 1 := by rw [hsu, List.length_append]; rfl
          simp only [push_cast, seval, if_pos rfl, hn0, c2, ws, fils_length, hlt, hi', hg, filV, vR_getD, a1, a2, hal, hsn]
          refine ⟨_, ?_, hX ⟨i', by omega⟩ (by simp only; omega)⟩
          exact Weak.drop (by simp only [push_cast, seval, hll]) (by simp only [push_cast, seval, hll]) (by simp only [push_cast, seval, hll])
    · obtain rfl : i = l.length := by omega
      have hat := acds_take (shD l n)
      have hal := acds_length (shD l n)
      simp only [Tryd.ntmps33, Tryd.results33, push_cast, seval, hlt, fils_length, take_all, hal, hat]
end Go.Proofs.YtennhlaibefacaaDoor

