/- Acts. -/
import Derived.Test.YtlbmojbkmcpnaaaGreatDoorK4
namespace Go.Proofs.YtlbmojbkmcpnaaaGreatDoor
open Go.RowKit Go.Rx
set_option linter.unusedSimpArgs false
set_option maxRecDepth 100000
structure Acd where
  kind : Int
  name : ByteArray
  text : ByteArray
  to : ByteArray
  deriving Inhabited, DecidableEq
def acdV (a : Acd) : List Value := [.int .i64 a.kind, .string a.name, .string a.text, .string a.to]
def acdC (a : Acd) : List C := [.v (.int .i64 a.kind), .v (.string a.name), .v (.string a.text), .v (.string a.to)]
def acds (l : List Acd) : List (List Value) := l.map acdV
theorem acds_length (l : List Acd) : (acds l).length = l.length := by simp [acds]
theorem acds_getD (l : List Acd) {i : Nat} (h : i < l.length) : (acds l).getD i [] = acdV (l.getD i default) := by
  simp [acds, List.getD_eq_getElem?_getD, List.getElem?_map, List.getElem?_eq_getElem h]
theorem acds_take (l : List Acd) : List.take l.length (vR (acds l)) = vR (acds l) := List.take_of_length_le (by rw [vR_length, acds_length]; exact Nat.le_refl _)
theorem acds_snoc (l : List Acd) (a : Acd) : vR (acds l) ++ [acdC a] = vR (acds (l ++ [a])) := by simp [vR, acds, acdV, acdC]
def Acd.small (a : Acd) : Prop := a.name.size ≤ 140737488355328 ∧ a.text.size ≤ 140737488355328 ∧ a.to.size ≤ 140737488355328
def acdSm (l : List Acd) : Prop := l.length ≤ 140737488355328 ∧ ∀ a ∈ l, a.small
def Acd.tot (a : Acd) : Nat := a.name.size + a.text.size + a.to.size
def acdSz : Int → List Acd → Int
  | n, [] => n
  | n, a :: l => if n - a.tot < 0 then -1 else acdSz (n - a.tot) l
theorem acdSz_bound : ∀ (l : List Acd) (n : Int), -1 ≤ n → -1 ≤ acdSz n l ∧ acdSz n l ≤ n
  | [], n, h => ⟨h, Int.le_refl _⟩
  | a :: l, n, h => by
    unfold acdSz
    split
    · omega
    · rename_i c
      have := acdSz_bound l (n - a.tot) (by omega)
      omega
def acdZ (n : Nat) : List (List Value) := List.replicate n [.int .i64 0, .string ⟨#[]⟩, .string ⟨#[]⟩, .string ⟨#[]⟩]
theorem acdZ_vR (n : Nat) : List.replicate n [C.v (.int .i64 0), .v (.string ⟨#[]⟩), .v (.string ⟨#[]⟩), .v (.string ⟨#[]⟩)] = vR (acdZ n) := by simp [vR, acdZ]
theorem acdZ_length (n : Nat) : (acdZ n).length = n := by simp [acdZ]
theorem acdZ_getD {n i : Nat} (h : i < n) : ((acdZ n).getD i []).map C.v = [C.v (.int .i64 0), .v (.string ⟨#[]⟩), .v (.string ⟨#[]⟩), .v (.string ⟨#[]⟩)] := by
  simp [acdZ, List.getD_eq_getElem?_getD, List.getElem?_replicate, h]
def acdF (l : List Acd) (i : Nat) : List Value := acdV (l.getD i default)
theorem acdF_all (l : List Acd) : (List.range l.length).map (acdF l) = acds l := by
  apply List.ext_getElem
  · simp [acds]
  · intro i h1 h2
    simp at h1
    simp [acds, acdF, List.getD_eq_getElem?_getD, List.getElem?_eq_getElem h1]
theorem eqAct_ok (a : Acd) : PureFn Tryz.prog 38 [.agg (acdC a), .agg (acdC a)] [bo true] := by
  refine PureFn_of_Go Tryz.func38 rfl (by decide) mo (by decide +kernel) ?_
  simp only [Tryz.ntmps38, Tryz.results38, push_cast, seval, acdC]
theorem eqActS_ok (l : List Acd) (hl : l.length ≤ 1048576) : PureFn Tryz.prog 10 [.one (.sh 4 (vR (acds l))), .one (.sh 4 (vR (acds l)))] [bo true] := by
  refine PureFn_of_Go Tryz.func10 rfl (by decide) mo (by decide +kernel) ?_
  simp only [Tryz.ntmps10, Tryz.results10, push_cast, seval, acds_length]
  refine Go_loop (α := {i : Nat // i ≤ l.length})
    (fun i => ⟨tp 27 [(0, .x (.one (.sh 4 (vR (acds l))))), (1, .x (.one (.sh 4 (vR (acds l))))), (5, int i.1)], 0, [], []⟩) (fun i => l.length - i.1) ⟨0, by omega⟩ ?_ ?_
  · exact Weak.same (by simp only [push_cast, seval, Int.ofNat_zero])
  · rintro ⟨i, hi⟩ X hX
    by_cases hlt : (i : Int) < (l.length : Int)
    · have hi' : i < l.length := by omega
      have ws := wsucc hi' (by omega)
      have hg := acds_getD l hi'
      obtain ⟨a, ha⟩ : ∃ a, a = l.getD i default := ⟨_, rfl⟩
      rw [← ha] at hg
      have k := eqAct_ok a
      simp only [acdC] at k
      obtain ⟨i', hi1⟩ : ∃ i', i' = i + 1 := ⟨_, rfl⟩
      rw [← hi1] at ws
      simp only [push_cast, seval, acds_length, hlt, hi', hg, acdV, vR_getD]
      refine GoD_call rfl rfl k rfl rfl ?_
      simp only [push_cast, seval, ws]
      refine ⟨_, ?_, hX ⟨i', by omega⟩ (by simp only; omega)⟩
      exact Weak.same (by simp only [push_cast, seval])
    · simp only [Tryz.ntmps10, Tryz.results10, push_cast, seval, acds_length, hlt]
def marksAct (k n : Nat) : List Acd := (List.range n).map fun j => ⟨((k + 4 * j : Nat) : Int), mkB (k + 4 * j + 1), mkB (k + 4 * j + 2), mkB (k + 4 * j + 3)⟩
theorem marksAct_length (k n : Nat) : (marksAct k n).length = n := by simp [marksAct]
theorem marksAct_getD (k : Nat) {n i : Nat} (h : i < n) : (marksAct k n).getD i default = ⟨((k + 4 * i : Nat) : Int), mkB (k + 4 * i + 1), mkB (k + 4 * i + 2), mkB (k + 4 * i + 3)⟩ := by
  simp [marksAct, List.getD_eq_getElem?_getD, List.getElem?_map, h]
def marksFAct (k j : Nat) : List Value := [.int .i64 ((k + 4 * j : Nat) : Int), .string (mkB (k + 4 * j + 1)), .string (mkB (k + 4 * j + 2)), .string (mkB (k + 4 * j + 3))]
theorem marksFAct_all (k : Nat) (l : List Acd) : acds (marksAct k l.length) = mix (marksFAct k) (acds l) l.length := by
  have := mix_all (marksFAct k) (acds l)
  rw [acds_length] at this
  rw [this, acds, marksAct, List.map_map]; rfl
theorem markActS_ok (l : List Acd) (hl : l.length ≤ 1048576) (k : Nat) (hk : 0 < k) (hk2 : k ≤ 1073741824) (e : Nat) (he : e = k + 4 * l.length) :
    IoFn Tryz.prog 14 .sl 4 (acds l) [i64 k] (acds (marksAct k l.length)) [i64 e] := by
  have hlen : (acds (marksAct k l.length)).length = (acds l).length := by rw [acds_length, acds_length, marksAct_length]
  refine IoFn_of_Go Tryz.func14 rfl (by decide) mo (by decide +kernel) (ioOk_sl acdV (fun _ => rfl) l) (ioOk_sl acdV (fun _ => rfl) (marksAct k l.length)) rfl hlen ?_
  rw [marksFAct_all]
  simp only [Tryz.ntmps14, Tryz.results14, push_cast, seval, acds_length]
  refine Go_loop (α := {i : Nat // i ≤ l.length})
    (fun i => ⟨tp 44 [(0, .x (.one (.rs (0, 1) [] 4 0 l.length))), (1, int (k + 4 * i.1 : Nat)), (5, int i.1)], 1, [], [((0, 1), ⟨.sl, 4, vR (mix (marksFAct k) (acds l) i.1)⟩)]⟩) (fun i => l.length - i.1) ⟨0, by omega⟩ ?_ ?_
  · rw [mix_zero]
    exact Weak.same (by simp only [push_cast, seval, Int.ofNat_zero, Int.add_zero, Nat.add_zero, Nat.mul_zero])
  · rintro ⟨i, hi⟩ X hX
    obtain ⟨m, hmk⟩ : ∃ m, m = k + 4 * i := ⟨_, rfl⟩
    simp only
    rw [← hmk]
    by_cases hlt : (i : Int) < (l.length : Int)
    · have hi' : i < l.length := by omega
      have ws := wsucc hi' (by omega)
      have his : i < (acds l).length := by rw [acds_length]; exact hi'
      have hmix := mix_length (marksFAct k) (acds l) (Nat.le_of_lt his)
      rw [acds_length] at hmix
      have hg := vR_mix_getD (marksFAct k) (acds l) his
      rw [acds_getD l hi'] at hg
      have hset := mix_set (marksFAct k) (acds l) his
      simp only [marksFAct] at hset
      rw [← hmk] at hset
      obtain ⟨i', hi1⟩ : ∃ i', i' = i + 1 := ⟨_, rfl⟩
      rw [← hi1] at ws hset
      have w1 : IntKind.i64.wrap ((m : Int) + 1) = ((m + 1 : Nat) : Int) := wN (by omega) (by omega)
      obtain ⟨m1, hm1⟩ : ∃ m1, m1 = m + 1 := ⟨_, rfl⟩
      rw [← hm1] at w1
      rw [← hm1] at hset
      have w2 : IntKind.i64.wrap ((m1 : Int) + 1) = ((m + 2 : Nat) : Int) := wN (by omega) (by omega)
      obtain ⟨m2, hm2⟩ : ∃ m2, m2 = m + 2 := ⟨_, rfl⟩
      rw [← hm2] at w2
      rw [← hm2] at hset
      have w3 : IntKind.i64.wrap ((m2 : Int) + 1) = ((m + 3 : Nat) : Int) := wN (by omega) (by omega)
      obtain ⟨m3, hm3⟩ : ∃ m3, m3 = m + 3 := ⟨_, rfl⟩
      rw [← hm3] at w3
      rw [← hm3] at hset
      have w4 : IntKind.i64.wrap ((m3 : Int) + 1) = ((m + 4 : Nat) : Int) := wN (by omega) (by omega)
      obtain ⟨m4, hm4⟩ : ∃ m4, m4 = m + 4 := ⟨_, rfl⟩
      rw [← hm4] at w4
      simp only [List.map_cons, List.map_nil] at hset
      obtain ⟨⟨o0, o1, o2, o3⟩, he0⟩ : ∃ x, x = l.getD i default := ⟨_, rfl⟩
      rw [← he0] at hg
      simp only [acdV, List.map_cons, List.map_nil] at hg
      have km1 := markText_ok m1 (by omega) (by omega)
      obtain ⟨M1, hM1⟩ : ∃ M1, M1 = mkB m1 := ⟨_, rfl⟩
      rw [← hM1] at km1 hset
      have km2 := markText_ok m2 (by omega) (by omega)
      obtain ⟨M2, hM2⟩ : ∃ M2, M2 = mkB m2 := ⟨_, rfl⟩
      rw [← hM2] at km2 hset
      have km3 := markText_ok m3 (by omega) (by omega)
      obtain ⟨M3, hM3⟩ : ∃ M3, M3 = mkB m3 := ⟨_, rfl⟩
      rw [← hM3] at km3 hset
      obtain ⟨R, hR⟩ : ∃ R, R = vR (mix (marksFAct k) (acds l) i) := ⟨_, rfl⟩
      obtain ⟨R', hR'⟩ : ∃ R', R' = vR (mix (marksFAct k) (acds l) i') := ⟨_, rfl⟩
      have hRl : R.length = l.length := by rw [hR, vR_length, hmix]
      rw [← hR] at hg hset
      rw [← hR'] at hset
      have hiR : i < R.length := by omega
      have g1 := row_set_get hiR [C.v (.int .i64 m), .v (.string o1), .v (.string o2), .v (.string o3)]
      have g2 := row_set_get hiR [C.v (.int .i64 m), .v (.string M1), .v (.string o2), .v (.string o3)]
      have g3 := row_set_get hiR [C.v (.int .i64 m), .v (.string M1), .v (.string M2), .v (.string o3)]
      simp only [← hR]
      simp only [push_cast, seval, hlt, hi', hRl, hg, g1, g2, g3, List.set_set, List.length_set, hset, w1, w2, w3, w4, ws]
      refine GoL_call rfl rfl km1 rfl rfl ?_
      simp only [push_cast, seval, hlt, hi', hRl, hg, g1, g2, g3, List.set_set, List.length_set, hset, w1, w2, w3, w4, ws]
      refine GoL_call rfl rfl km2 rfl rfl ?_
      simp only [push_cast, seval, hlt, hi', hRl, hg, g1, g2, g3, List.set_set, List.length_set, hset, w1, w2, w3, w4, ws]
      refine GoL_call rfl rfl km3 rfl rfl ?_
      simp only [push_cast, seval, hlt, hi', hRl, hg, g1, g2, g3, List.set_set, List.length_set, hset, w1, w2, w3, w4, ws]
      refine ⟨_, ?_, hX ⟨i', by omega⟩ (by simp only; omega)⟩
      have hmm : m4 = k + 4 * i' := by omega
      simp only [← hmm, ← hR']
      exact Weak.same (by simp only [push_cast, seval])
    · have hii : i = l.length := by omega
      have hfin : e = m := by rw [he, hmk, hii]
      subst hfin
      simp only [hii] at hlt ⊢
      simp only [Tryz.ntmps14, Tryz.results14, push_cast, seval, hlt]
theorem heldActS_ok (k n : Nat) (hn : n ≤ 1048576) (hk : 0 < k) (hk2 : k ≤ 1073741824) (e : Nat) (he : e = k + 4 * n) :
    PureFn Tryz.prog 16 [.one (.sh 4 (vR (acds (marksAct k n)))), i64 k] [i64 e] := by
  refine PureFn_of_Go Tryz.func16 rfl (by decide) mo (by decide +kernel) ?_
  simp only [Tryz.ntmps16, Tryz.results16, push_cast, seval, acds_length, marksAct_length]
  refine Go_loop (α := {i : Nat // i ≤ n})
    (fun i => ⟨tp 52 [(0, .x (.one (.sh 4 (vR (acds (marksAct k n)))))), (1, int (k + 4 * i.1 : Nat)), (5, int i.1)], 0, [], []⟩) (fun i => n - i.1) ⟨0, by omega⟩ ?_ ?_
  · exact Weak.same (by simp only [push_cast, seval, Int.ofNat_zero, Int.add_zero, Nat.add_zero, Nat.mul_zero])
  · rintro ⟨i, hi⟩ X hX
    obtain ⟨m, hmk⟩ : ∃ m, m = k + 4 * i := ⟨_, rfl⟩
    simp only
    rw [← hmk]
    by_cases hlt : (i : Int) < (n : Int)
    · have hi' : i < n := by omega
      have ws := wsucc hi' (by omega)
      have hg := acds_getD (marksAct k n) (i := i) (by rw [marksAct_length]; exact hi')
      rw [marksAct_getD k hi', ← hmk] at hg
      simp only [acdV] at hg
      obtain ⟨i', hi1⟩ : ∃ i', i' = i + 1 := ⟨_, rfl⟩
      rw [← hi1] at ws
      have w1 : IntKind.i64.wrap ((m : Int) + 1) = ((m + 1 : Nat) : Int) := wN (by omega) (by omega)
      obtain ⟨m1, hm1⟩ : ∃ m1, m1 = m + 1 := ⟨_, rfl⟩
      rw [← hm1] at w1
      rw [← hm1] at hg
      have w2 : IntKind.i64.wrap ((m1 : Int) + 1) = ((m + 2 : Nat) : Int) := wN (by omega) (by omega)
      obtain ⟨m2, hm2⟩ : ∃ m2, m2 = m + 2 := ⟨_, rfl⟩
      rw [← hm2] at w2
      rw [← hm2] at hg
      have w3 : IntKind.i64.wrap ((m2 : Int) + 1) = ((m + 3 : Nat) : Int) := wN (by omega) (by omega)
      obtain ⟨m3, hm3⟩ : ∃ m3, m3 = m + 3 := ⟨_, rfl⟩
      rw [← hm3] at w3
      rw [← hm3] at hg
      have w4 : IntKind.i64.wrap ((m3 : Int) + 1) = ((m + 4 : Nat) : Int) := wN (by omega) (by omega)
      obtain ⟨m4, hm4⟩ : ∃ m4, m4 = m + 4 := ⟨_, rfl⟩
      rw [← hm4] at w4
      simp only [push_cast, seval, acds_length, marksAct_length, hlt, hi', vR_getD, hg, w1, w2, w3, w4, ws]
      refine GoD_call rfl rfl (markText_ok m1 (by omega) (by omega)) rfl rfl ?_
      simp only [push_cast, seval, acds_length, marksAct_length, hlt, hi', vR_getD, hg, w1, w2, w3, w4, ws]
      refine GoD_call rfl rfl (markText_ok m2 (by omega) (by omega)) rfl rfl ?_
      simp only [push_cast, seval, acds_length, marksAct_length, hlt, hi', vR_getD, hg, w1, w2, w3, w4, ws]
      refine GoD_call rfl rfl (markText_ok m3 (by omega) (by omega)) rfl rfl ?_
      simp only [push_cast, seval, acds_length, marksAct_length, hlt, hi', vR_getD, hg, w1, w2, w3, w4, ws]
      refine ⟨_, ?_, hX ⟨i', by omega⟩ (by simp only; omega)⟩
      have hmm : m4 = k + 4 * i' := by omega
      simp only [← hmm]
      exact Weak.same (by simp only [push_cast, seval])
    · have hii : i = n := by omega
      have hfin : e = m := by rw [he, hmk, hii]
      subst hfin
      simp only [Tryz.ntmps16, Tryz.results16, push_cast, seval, acds_length, marksAct_length, hlt]
end Go.Proofs.YtlbmojbkmcpnaaaGreatDoor

