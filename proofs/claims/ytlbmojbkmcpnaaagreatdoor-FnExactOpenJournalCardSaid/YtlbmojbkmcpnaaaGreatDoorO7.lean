/- A file by its name, by both ways. -/
import Derived.Test.YtlbmojbkmcpnaaaGreatDoorO6
namespace Go.Proofs.YtlbmojbkmcpnaaaGreatDoor
open Go.RowKit Go.Rx
set_option linter.unusedSimpArgs false
set_option maxRecDepth 100000

def atR (s : ByteArray) : List Fil → Nat → Int
  | [], _ => -1
  | f :: r, i => if f.name = s then (i : Int) else atR s r (i + 1)
theorem l03At_ok (l : List Fil) (hl : l.length ≤ 140737488355328) (s : ByteArray) : PureFn Tryz.prog 27 [.agg [.sh 3 (vR (fils l))], st s] [i64 (atR s l 0)] := by
  refine PureFn_of_Go Tryz.func27 rfl (by decide) mo (by decide +kernel) ?_
  simp only [Tryz.ntmps27, Tryz.results27, push_cast, seval]
  obtain ⟨r, hr⟩ : ∃ r, r = atR s l 0 := ⟨_, rfl⟩
  rw [← hr]
  refine Go_loop (α := {i : Nat // i ≤ l.length ∧ atR s (l.drop i) i = r})
    (fun i => ⟨tp 22 [(1, .x (st s)), (2, .x (.one (.pt (0, 128) [] 1 0 0))), (5, int i.1)], 0, [((0, 128), ⟨.box, 1, [[.sh 3 (vR (fils l))]]⟩)], []⟩) (fun i => l.length - i.1) ⟨0, Nat.zero_le _, hr.symm⟩ ?_ ?_
  · exact Weak.same (by simp only [push_cast, seval, Int.ofNat_zero])
  · rintro ⟨i, hi, hinv⟩ X hX
    by_cases hlt : (i : Int) < (l.length : Int)
    · have hi' : i < l.length := by omega
      have hg := fils_getD l hi'
      have ws := wsucc hi' (by omega)
      rw [drop_cons l i hi', atR] at hinv
      obtain ⟨i', hi1⟩ : ∃ i', i' = i + 1 := ⟨_, rfl⟩
      rw [← hi1] at ws hinv
      obtain ⟨f, hf⟩ : ∃ f, f = l.getD i default := ⟨_, rfl⟩
      rw [← hf] at hg hinv
      by_cases c : f.name = s
      · rw [if_pos c] at hinv
        simp only [Tryz.ntmps27, Tryz.results27, push_cast, seval, hlt, fils_length, hi', hg, filV, vR_getD, c]
        rw [hinv]
      · rw [if_neg c] at hinv
        simp only [push_cast, seval, hlt, fils_length, hi', hg, filV, vR_getD, c, ws]
        refine ⟨_, ?_, hX ⟨i', by omega, hinv⟩ (by simp only; omega)⟩
        exact Weak.same (by simp only [push_cast, seval])
    · have hie : i = l.length := by omega
      rw [hie, List.drop_length, atR] at hinv
      simp only [Tryz.ntmps27, Tryz.results27, push_cast, seval, hlt, fils_length]
      rw [← hinv]

def faR (s : ByteArray) : List Fil → Option ByteArray
  | [] => none
  | f :: l => if f.name = s then some f.text else faR s l
def faX (o : Option ByteArray) : List X := [st (o.getD ⟨#[]⟩), bo o.isSome]
theorem atR_faR (s : ByteArray) : ∀ (l : List Fil) (k : Nat), (atR s l k = -1 ∧ faR s l = none) ∨ (∃ j : Nat, j < l.length ∧ atR s l k = ((k + j : Nat) : Int) ∧ faR s l = some (l.getD j default).text)
  | [], k => .inl ⟨rfl, rfl⟩
  | f :: l, k => by
    by_cases c : f.name = s
    · refine .inr ⟨0, by simp, ?_, ?_⟩
      · simp [atR, c]
      · simp [faR, c]
    · rcases atR_faR s l (k + 1) with ⟨h1, h2⟩ | ⟨j, h1, h2, h3⟩
      · exact .inl ⟨by simp only [atR, if_neg c]; exact h1, by simp only [faR, if_neg c]; exact h2⟩
      · refine .inr ⟨j + 1, by simp; omega, ?_, ?_⟩
        · simp only [atR, if_neg c]; rw [h2, show k + 1 + j = k + (j + 1) by omega]
        · simp only [faR, if_neg c]; rw [h3]; simp
theorem fileAtI_ok (l : List Fil) (hl : l.length ≤ 140737488355328) (s : ByteArray) : PureFn Tryz.prog 34 [.agg [.sh 3 (vR (fils l))], st s] (faX (faR s l)) := by
  refine PureFn_of_Go Tryz.func34 rfl (by decide) mo (by decide +kernel) ?_
  obtain ⟨r, hr⟩ : ∃ r, r = faR s l := ⟨_, rfl⟩
  rw [← hr]
  simp only [Tryz.ntmps34, Tryz.results34, push_cast, seval, fils_length]
  refine Go_loop (α := {i : Nat // i ≤ l.length ∧ faR s (l.drop i) = r})
    (fun i => ⟨tp 22 [(1, .x (st s)), (9, .x (.one (.sh 3 (vR (fils l))))), (10, int l.length), (11, int i.1)], 0, [((0, 128), ⟨.box, 1, [[.sh 3 (vR (fils l))]]⟩)], []⟩) (fun i => l.length - i.1) ⟨0, Nat.zero_le _, hr.symm⟩ ?_ ?_
  · exact Weak.same (by simp only [push_cast, seval, Int.ofNat_zero])
  · rintro ⟨i, hi, hinv⟩ X hX
    by_cases hlt : (i : Int) < (l.length : Int)
    · have hi' : i < l.length := by omega
      have hg := fils_getD l hi'
      have ws := wsucc hi' (by omega)
      rw [drop_cons l i hi', faR] at hinv
      obtain ⟨i', hi1⟩ : ∃ i', i' = i + 1 := ⟨_, rfl⟩
      rw [← hi1] at ws hinv
      obtain ⟨f, hf⟩ : ∃ f, f = l.getD i default := ⟨_, rfl⟩
      rw [← hf] at hg hinv
      by_cases c : f.name = s
      · rw [if_pos c] at hinv
        have hfx : faX r = [st f.text, bo true] := by rw [← hinv]; rfl
        rw [hfx]
        simp only [Tryz.ntmps34, Tryz.results34, push_cast, seval, hlt, fils_length, hi', hg, filV, vR_getD, c]
      · rw [if_neg c] at hinv
        simp only [push_cast, seval, hlt, fils_length, hi', hg, filV, vR_getD, c, ws]
        refine ⟨_, ?_, hX ⟨i', by omega, hinv⟩ (by simp only; omega)⟩
        exact Weak.drop (by simp only [push_cast, seval, hi1]) (by simp only [push_cast, seval, hi1]) (by simp only [push_cast, seval, hi1])
    · have hie : i = l.length := by omega
      rw [hie, List.drop_length, faR] at hinv
      have hfx : faX r = [st ⟨#[]⟩, bo false] := by rw [← hinv]; rfl
      rw [hfx]
      simp only [Tryz.ntmps34, Tryz.results34, push_cast, seval, hlt, fils_length]
theorem fileAtS_ok (l : List Fil) (hl : l.length ≤ 140737488355328) (s : ByteArray) : PureFn Tryz.prog 24 [.agg [.sh 3 (vR (fils l))], st s] (faX (faR s l)) := by
  refine PureFn_of_Go Tryz.func24 rfl (by decide) mo (by decide +kernel) ?_
  have k := l03At_ok l hl s
  simp only [Tryz.ntmps24, Tryz.results24, push_cast, seval, fils_length]
  refine GoL_call rfl (by simp only [push_cast, seval, fils_length, fils_take]) k rfl rfl ?_
  rcases atR_faR s l 0 with ⟨h1, h2⟩ | ⟨j, h1, h2, h3⟩
  · rw [h1, h2]
    simp only [Tryz.ntmps24, Tryz.results24, push_cast, seval, faX, Option.getD_none, Option.isSome_none]
  · rw [h2, h3]
    have hg := fils_getD l h1
    have hlt : (j : Int) < (l.length : Int) := by omega
    have hneg2 : ¬ (j : Int) < 0 := by omega
    rw [Nat.zero_add]
    obtain ⟨f, hf⟩ : ∃ f, f = l.getD j default := ⟨_, rfl⟩
    rw [← hf] at hg ⊢
    simp only [Tryz.ntmps24, Tryz.results24, push_cast, seval, hneg2, hlt, fils_length, h1, hg, filV, vR_getD, faX, Option.getD_some, Option.isSome_some]
end Go.Proofs.YtlbmojbkmcpnaaaGreatDoor

