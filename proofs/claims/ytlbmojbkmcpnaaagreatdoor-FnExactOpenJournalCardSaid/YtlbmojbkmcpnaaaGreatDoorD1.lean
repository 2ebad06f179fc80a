/- Files. -/
import Derived.Test.YtlbmojbkmcpnaaaGreatDoorK1
namespace Go.Proofs.YtlbmojbkmcpnaaaGreatDoor
open Go.RowKit Go.Rx
set_option linter.unusedSimpArgs false
set_option maxRecDepth 100000
structure Fil where
  name : ByteArray
  text : ByteArray
  kept : Int
  deriving Inhabited, DecidableEq
def filV (a : Fil) : List Value := [.string a.name, .string a.text, .int .i64 a.kept]
def filC (a : Fil) : List C := [.v (.string a.name), .v (.string a.text), .v (.int .i64 a.kept)]
def fils (l : List Fil) : List (List Value) := l.map filV
theorem fils_length (l : List Fil) : (fils l).length = l.length := by simp [fils]
theorem fils_getD (l : List Fil) {i : Nat} (h : i < l.length) : (fils l).getD i [] = filV (l.getD i default) := by
  simp [fils, List.getD_eq_getElem?_getD, List.getElem?_map, List.getElem?_eq_getElem h]
theorem fils_take (l : List Fil) : List.take l.length (vR (fils l)) = vR (fils l) := List.take_of_length_le (by rw [vR_length, fils_length]; exact Nat.le_refl _)
theorem fils_snoc (l : List Fil) (a : Fil) : vR (fils l) ++ [filC a] = vR (fils (l ++ [a])) := by simp [vR, fils, filV, filC]
def Fil.small (a : Fil) : Prop := a.name.size ≤ 140737488355328 ∧ a.text.size ≤ 140737488355328
def filSm (l : List Fil) : Prop := l.length ≤ 140737488355328 ∧ ∀ a ∈ l, a.small
def Fil.tot (a : Fil) : Nat := a.name.size + a.text.size
def filSz : Int → List Fil → Int
  | n, [] => n
  | n, a :: l => if n - a.tot < 0 then -1 else filSz (n - a.tot) l
theorem filSz_bound : ∀ (l : List Fil) (n : Int), -1 ≤ n → -1 ≤ filSz n l ∧ filSz n l ≤ n
  | [], n, h => ⟨h, Int.le_refl _⟩
  | a :: l, n, h => by
    unfold filSz
    split
    · omega
    · rename_i c
      have := filSz_bound l (n - a.tot) (by omega)
      omega
theorem szFile_ok (a : Fil) (ha : a.small) (n : Int) (h0 : 0 ≤ n) (h1 : n ≤ 1048576) :
    PureFn Tryz.prog 57 [.agg (filC a), i64 n] [i64 (if n - a.tot < 0 then -1 else n - a.tot)] := by
  refine PureFn_of_Go Tryz.func57 rfl (by decide) mo (by decide +kernel) ?_
  have ht : (a.tot : Int) = (a.name.size : Int) + (a.text.size : Int) := by simp only [Fil.tot]; omega
  obtain ⟨ha0, ha1⟩ := ha
  obtain ⟨m0, hm0⟩ : ∃ m0, m0 = n - (a.name.size : Int) := ⟨_, rfl⟩
  have w0 : IntKind.i64.wrap (n - (a.name.size : Int)) = m0 := by rw [w64 (by omega) (by omega)]; exact hm0.symm
  obtain ⟨m1, hm1⟩ : ∃ m1, m1 = m0 - (a.text.size : Int) := ⟨_, rfl⟩
  have w1 : IntKind.i64.wrap (m0 - (a.text.size : Int)) = m1 := by rw [w64 (by omega) (by omega)]; exact hm1.symm
  have hl : n - (a.tot : Int) = m1 := by omega
  rw [hl]
  by_cases c0 : m0 < 0
  · rw [if_pos (by omega)]; simp only [Tryz.ntmps57, Tryz.results57, push_cast, seval, filC, w0, c0]
  by_cases c1 : m1 < 0
  · rw [if_pos c1]; simp only [Tryz.ntmps57, Tryz.results57, push_cast, seval, filC, w0, w1, c0, c1]
  · rw [if_neg c1]; simp only [Tryz.ntmps57, Tryz.results57, push_cast, seval, filC, w0, w1, c0, c1]
theorem szFileS_ok (l : List Fil) (hl : filSm l) (n : Int) (h0 : -1 ≤ n) (h1 : n ≤ 1048576) :
    ∃ r, -1 ≤ r ∧ r ≤ n ∧ (0 ≤ r → l.length ≤ 1048576) ∧ PureFn Tryz.prog 21 [.one (.sh 3 (vR (fils l))), i64 n] [i64 r] := by
  obtain ⟨hl1, hl2⟩ := hl
  have w1 := w64 (n := n - l.length) (by omega) (by omega)
  by_cases c1 : n - l.length < 0
  · refine ⟨-1, by omega, h0, fun h => by omega, ?_⟩
    refine PureFn_of_Go Tryz.func21 rfl (by decide) mo (by decide +kernel) ?_
    simp only [Tryz.ntmps21, Tryz.results21, push_cast, seval, fils_length, w1, c1]
  · obtain ⟨n1, hn1⟩ : ∃ n1, n1 = n - l.length := ⟨_, rfl⟩
    rw [← hn1] at w1 c1
    obtain ⟨r, hr⟩ : ∃ r, r = filSz n1 l := ⟨_, rfl⟩
    have hb := filSz_bound l n1 (by omega)
    rw [← hr] at hb
    refine ⟨r, hb.1, by omega, fun _ => by omega, ?_⟩
    refine PureFn_of_Go Tryz.func21 rfl (by decide) mo (by decide +kernel) ?_
    simp only [Tryz.ntmps21, Tryz.results21, push_cast, seval, fils_length, ← hn1, w1, c1]
    refine Go_loop (α := {p : Nat × Int // p.1 ≤ l.length ∧ 0 ≤ p.2 ∧ p.2 ≤ 1048576 ∧ filSz p.2 (l.drop p.1) = r})
      (fun p => ⟨tp 27 [(0, .x (.one (.sh 3 (vR (fils l))))), (1, int p.1.2), (5, int p.1.1)], 0, [], []⟩) (fun p => l.length - p.1.1) ⟨(0, n1), by simp only; omega, by simp only; omega, by simp only; omega, hr.symm⟩ ?_ ?_
    · exact Weak.same (by simp only [push_cast, seval, Int.ofNat_zero])
    · rintro ⟨⟨i, m⟩, hi, hm0, hm1, hinv⟩ X hX
      simp only at hi hm0 hm1 hinv
      by_cases hlt : (i : Int) < (l.length : Int)
      · have hi' : i < l.length := by omega
        have ws := wsucc hi' (by omega)
        have hg := fils_getD l hi'
        have hmem := getD_mem' l i hi'
        rw [drop_cons l i hi'] at hinv
        obtain ⟨a, ha⟩ : ∃ a, a = l.getD i default := ⟨_, rfl⟩
        rw [← ha] at hg hmem hinv
        have k := szFile_ok a (hl2 a hmem) m hm0 hm1
        simp only [filC] at k
        obtain ⟨i', hi1⟩ : ∃ i', i' = i + 1 := ⟨_, rfl⟩
        rw [← hi1] at ws hinv
        by_cases c : m - a.tot < 0
        · rw [if_pos c] at k
          rw [filSz, if_pos c] at hinv
          subst hinv
          simp only [push_cast, seval, hlt, fils_length, hi', hg, filV, vR_getD]
          refine GoL_call rfl rfl k rfl rfl ?_
          simp only [Tryz.ntmps21, Tryz.results21, push_cast, seval]
        · rw [if_neg c] at k
          rw [filSz, if_neg c] at hinv
          obtain ⟨m', hm'⟩ : ∃ m', m' = m - a.tot := ⟨_, rfl⟩
          rw [← hm'] at k hinv c
          simp only [push_cast, seval, hlt, fils_length, hi', hg, filV, vR_getD]
          refine GoL_call rfl rfl k rfl rfl ?_
          simp only [push_cast, seval, c, ws]
          refine ⟨_, ?_, hX ⟨(i', m'), by simp only; omega, by simp only; omega, by simp only; omega, hinv⟩ (by simp only; omega)⟩
          exact Weak.drop (by simp only [push_cast, seval]) (by simp only [push_cast, seval]) (by simp only [push_cast, seval])
      · have hie : i = l.length := by omega
        rw [hie, List.drop_length, filSz] at hinv
        subst hinv
        simp only [Tryz.ntmps21, Tryz.results21, push_cast, seval, hlt, fils_length]
theorem toFile_ok (a : Fil) : PureFn Tryz.prog 67 [.agg (filC a)] [.agg (filC a)] := by
  refine PureFn_of_Go Tryz.func67 rfl (by decide) mo (by decide +kernel) ?_
  simp only [Tryz.ntmps67, Tryz.results67, push_cast, seval, filC]
def filZ (n : Nat) : List (List Value) := List.replicate n [.string ⟨#[]⟩, .string ⟨#[]⟩, .int .i64 0]
theorem filZ_vR (n : Nat) : List.replicate n [C.v (.string ⟨#[]⟩), .v (.string ⟨#[]⟩), .v (.int .i64 0)] = vR (filZ n) := by simp [vR, filZ]
theorem filZ_length (n : Nat) : (filZ n).length = n := by simp [filZ]
theorem filZ_getD {n i : Nat} (h : i < n) : ((filZ n).getD i []).map C.v = [C.v (.string ⟨#[]⟩), .v (.string ⟨#[]⟩), .v (.int .i64 0)] := by
  simp [filZ, List.getD_eq_getElem?_getD, List.getElem?_replicate, h]
def filF (l : List Fil) (i : Nat) : List Value := filV (l.getD i default)
theorem filF_all (l : List Fil) : (List.range l.length).map (filF l) = fils l := by
  apply List.ext_getElem
  · simp [fils]
  · intro i h1 h2
    simp at h1
    simp [fils, filF, List.getD_eq_getElem?_getD, List.getElem?_eq_getElem h1]
theorem toFileS_ok (l : List Fil) (hl : l.length ≤ 1048576) : PureFn Tryz.prog 30 [.one (.sh 3 (vR (fils l)))] [.one (.own 3 (vR (fils l)))] := by
  refine PureFn_of_Go Tryz.func30 rfl (by decide) mo (by decide +kernel) ?_
  have b1 : l.length * 40 ≤ 281474976710656 := by omega
  have b2 : l.length ≤ 9223372036854775807 := by omega
  have b3 : 40 * l.length ≤ 281474976710656 := by omega
  simp only [Tryz.ntmps30, Tryz.results30, push_cast, seval, fils_length, b1, b2, b3]
  refine Go_loop (α := {i : Nat // i ≤ l.length})
    (fun i => ⟨tp 23 [(0, .x (.one (.sh 3 (vR (fils l))))), (3, .x (.one (.rs (0, 448) [] 3 0 l.length))), (4, int i.1)], 0, [((0, 448), ⟨.sl, 3, vR (mix (filF l) (filZ l.length) i.1)⟩)], []⟩) (fun i => l.length - i.1) ⟨0, by omega⟩ ?_ ?_
  · simp only [mix_zero, ← filZ_vR]
    exact Weak.same (by simp only [push_cast, seval, Int.ofNat_zero])
  · rintro ⟨i, hi⟩ X hX
    have hml := mix_length (filF l) (filZ l.length) (i := i) (by rw [filZ_length]; exact hi)
    rw [filZ_length] at hml
    by_cases hlt : (i : Int) < (l.length : Int)
    · have hi' : i < l.length := by omega
      have ws := wsucc hi' (by omega)
      have hg := fils_getD l hi'
      have s1 := mix_set (filF l) (filZ l.length) (i := i) (by rw [filZ_length]; exact hi')
      have g1 := vR_mix_getD (filF l) (filZ l.length) (i := i) (by rw [filZ_length]; exact hi')
      rw [filZ_getD hi'] at g1
      simp only [filF] at s1
      obtain ⟨a, ha⟩ : ∃ a, a = l.getD i default := ⟨_, rfl⟩
      rw [← ha] at hg s1
      have k := toFile_ok a
      simp only [filC] at k
      simp only [filV, List.map_cons, List.map_nil] at s1
      obtain ⟨i', hi1⟩ : ∃ i', i' = i + 1 := ⟨_, rfl⟩
      rw [← hi1] at ws s1
      obtain ⟨R, hR⟩ : ∃ R, R = vR (mix (filF l) (filZ l.length) i) := ⟨_, rfl⟩
      have hRl : R.length = l.length := by rw [hR, vR_length, hml]
      have s1' : R.set i [C.v (.string a.name), .v (.string a.text), .v (.int .i64 a.kept)] = vR (mix (filF l) (filZ l.length) i') := by rw [hR]; exact s1
      rw [← hR] at g1
      simp only [← hR]
      simp only [push_cast, seval, hlt, fils_length, hi', hg, filV, vR_getD]
      refine GoL_call rfl rfl k rfl rfl ?_
      simp only [push_cast, seval, hlt, hi', hRl, g1, s1', ws]
      refine ⟨_, ?_, hX ⟨i', by omega⟩ (by simp only; omega)⟩
      exact Weak.drop (by simp only [push_cast, seval]) (by simp only [push_cast, seval]) (by simp only [push_cast, seval])
    · have hie : i = l.length := by omega
      have hall : mix (filF l) (filZ l.length) l.length = fils l := by
        have := mix_all (filF l) (filZ l.length)
        rw [filZ_length] at this
        rw [this, filF_all]
      simp only [hie, hall] at hlt ⊢
      simp only [Tryz.ntmps30, Tryz.results30, push_cast, seval, hlt, fils_length]
theorem eqFile_ok (a : Fil) : PureFn Tryz.prog 78 [.agg (filC a), .agg (filC a)] [bo true] := by
  refine PureFn_of_Go Tryz.func78 rfl (by decide) mo (by decide +kernel) ?_
  simp only [Tryz.ntmps78, Tryz.results78, push_cast, seval, filC]
theorem eqFileS_ok (l : List Fil) (hl : l.length ≤ 1048576) : PureFn Tryz.prog 39 [.one (.sh 3 (vR (fils l))), .one (.sh 3 (vR (fils l)))] [bo true] := by
  refine PureFn_of_Go Tryz.func39 rfl (by decide) mo (by decide +kernel) ?_
  simp only [Tryz.ntmps39, Tryz.results39, push_cast, seval, fils_length]
  refine Go_loop (α := {i : Nat // i ≤ l.length})
    (fun i => ⟨tp 27 [(0, .x (.one (.sh 3 (vR (fils l))))), (1, .x (.one (.sh 3 (vR (fils l))))), (5, int i.1)], 0, [], []⟩) (fun i => l.length - i.1) ⟨0, by omega⟩ ?_ ?_
  · exact Weak.same (by simp only [push_cast, seval, Int.ofNat_zero])
  · rintro ⟨i, hi⟩ X hX
    by_cases hlt : (i : Int) < (l.length : Int)
    · have hi' : i < l.length := by omega
      have ws := wsucc hi' (by omega)
      have hg := fils_getD l hi'
      obtain ⟨a, ha⟩ : ∃ a, a = l.getD i default := ⟨_, rfl⟩
      rw [← ha] at hg
      have k := eqFile_ok a
      simp only [filC] at k
      obtain ⟨i', hi1⟩ : ∃ i', i' = i + 1 := ⟨_, rfl⟩
      rw [← hi1] at ws
      simp only [push_cast, seval, fils_length, hlt, hi', hg, filV, vR_getD]
      refine GoD_call rfl rfl k rfl rfl ?_
      simp only [push_cast, seval, ws]
      refine ⟨_, ?_, hX ⟨i', by omega⟩ (by simp only; omega)⟩
      exact Weak.same (by simp only [push_cast, seval])
    · simp only [Tryz.ntmps39, Tryz.results39, push_cast, seval, fils_length, hlt]
def marksFile (k n : Nat) : List Fil := (List.range n).map fun j => ⟨mkB (k + 3 * j), mkB (k + 3 * j + 1), ((k + 3 * j + 2 : Nat) : Int)⟩
theorem marksFile_length (k n : Nat) : (marksFile k n).length = n := by simp [marksFile]
theorem marksFile_getD (k : Nat) {n i : Nat} (h : i < n) : (marksFile k n).getD i default = ⟨mkB (k + 3 * i), mkB (k + 3 * i + 1), ((k + 3 * i + 2 : Nat) : Int)⟩ := by
  simp [marksFile, List.getD_eq_getElem?_getD, List.getElem?_map, h]
def marksFFile (k j : Nat) : List Value := [.string (mkB (k + 3 * j)), .string (mkB (k + 3 * j + 1)), .int .i64 ((k + 3 * j + 2 : Nat) : Int)]
theorem marksFFile_all (k : Nat) (l : List Fil) : fils (marksFile k l.length) = mix (marksFFile k) (fils l) l.length := by
  have := mix_all (marksFFile k) (fils l)
  rw [fils_length] at this
  rw [this, fils, marksFile, List.map_map]; rfl
theorem markFileS_ok (l : List Fil) (hl : l.length ≤ 1048576) (k : Nat) (hk : 0 < k) (hk2 : k ≤ 1073741824) (e : Nat) (he : e = k + 3 * l.length) :
    IoFn Tryz.prog 40 .sl 3 (fils l) [i64 k] (fils (marksFile k l.length)) [i64 e] := by
  have hlen : (fils (marksFile k l.length)).length = (fils l).length := by rw [fils_length, fils_length, marksFile_length]
  refine IoFn_of_Go Tryz.func40 rfl (by decide) mo (by decide +kernel) (ioOk_sl filV (fun _ => rfl) l) (ioOk_sl filV (fun _ => rfl) (marksFile k l.length)) rfl hlen ?_
  rw [marksFFile_all]
  simp only [Tryz.ntmps40, Tryz.results40, push_cast, seval, fils_length]
  refine Go_loop (α := {i : Nat // i ≤ l.length})
    (fun i => ⟨tp 36 [(0, .x (.one (.rs (0, 1) [] 3 0 l.length))), (1, int (k + 3 * i.1 : Nat)), (5, int i.1)], 1, [], [((0, 1), ⟨.sl, 3, vR (mix (marksFFile k) (fils l) i.1)⟩)]⟩) (fun i => l.length - i.1) ⟨0, by omega⟩ ?_ ?_
  · rw [mix_zero]
    exact Weak.same (by simp only [push_cast, seval, Int.ofNat_zero, Int.add_zero, Nat.add_zero, Nat.mul_zero])
  · rintro ⟨i, hi⟩ X hX
    obtain ⟨m, hmk⟩ : ∃ m, m = k + 3 * i := ⟨_, rfl⟩
    simp only
    rw [← hmk]
    by_cases hlt : (i : Int) < (l.length : Int)
    · have hi' : i < l.length := by omega
      have ws := wsucc hi' (by omega)
      have his : i < (fils l).length := by rw [fils_length]; exact hi'
      have hmix := mix_length (marksFFile k) (fils l) (Nat.le_of_lt his)
      rw [fils_length] at hmix
      have hg := vR_mix_getD (marksFFile k) (fils l) his
      rw [fils_getD l hi'] at hg
      have hset := mix_set (marksFFile k) (fils l) his
      simp only [marksFFile] at hset
      rw [← hmk] at hset
      obtain ⟨i', hi1⟩ : ∃ i', i' = i + 1 := ⟨_, rfl⟩
      rw [← hi1] at ws hset
      have w1 : IntKind.i64.wrap ((m : Int) + 1) = ((m + 1 : Nat) : Int) := wN (by omega) (by omega)
      obtain ⟨m1, hm1⟩ : ∃ m1, m1 = m + 1 := ⟨_, rfl⟩
      rw [← hm1] at w1
      rw [← hm1] at hset
      have w2 : IntKind.i64.wrap ((m1 : Int) + 1) = ((m + 2 : Nat) : Int) := wN (by omega) (by omega)
      obtain ⟨m2, hm2⟩ : ∃ m2, m2 = m + 2 := ⟨_, rfl⟩
      rw [← hm2] at w2
      rw [← hm2] at hset
      have w3 : IntKind.i64.wrap ((m2 : Int) + 1) = ((m + 3 : Nat) : Int) := wN (by omega) (by omega)
      obtain ⟨m3, hm3⟩ : ∃ m3, m3 = m + 3 := ⟨_, rfl⟩
      rw [← hm3] at w3
      simp only [List.map_cons, List.map_nil] at hset
      obtain ⟨⟨o0, o1, o2⟩, he0⟩ : ∃ x, x = l.getD i default := ⟨_, rfl⟩
      rw [← he0] at hg
      simp only [filV, List.map_cons, List.map_nil] at hg
      have km0 := markText_ok m (by omega) (by omega)
      obtain ⟨M0, hM0⟩ : ∃ M0, M0 = mkB m := ⟨_, rfl⟩
      rw [← hM0] at km0 hset
      have km1 := markText_ok m1 (by omega) (by omega)
      obtain ⟨M1, hM1⟩ : ∃ M1, M1 = mkB m1 := ⟨_, rfl⟩
      rw [← hM1] at km1 hset
      obtain ⟨R, hR⟩ : ∃ R, R = vR (mix (marksFFile k) (fils l) i) := ⟨_, rfl⟩
      obtain ⟨R', hR'⟩ : ∃ R', R' = vR (mix (marksFFile k) (fils l) i') := ⟨_, rfl⟩
      have hRl : R.length = l.length := by rw [hR, vR_length, hmix]
      rw [← hR] at hg hset
      rw [← hR'] at hset
      have hiR : i < R.length := by omega
      have g1 := row_set_get hiR [C.v (.string M0), .v (.string o1), .v (.int .i64 o2)]
      have g2 := row_set_get hiR [C.v (.string M0), .v (.string M1), .v (.int .i64 o2)]
      simp only [← hR]
      simp only [push_cast, seval, hlt, hi', hRl, hg, g1, g2, List.set_set, List.length_set, hset, w1, w2, w3, ws]
      refine GoL_call rfl rfl km0 rfl rfl ?_
      simp only [push_cast, seval, hlt, hi', hRl, hg, g1, g2, List.set_set, List.length_set, hset, w1, w2, w3, ws]
      refine GoL_call rfl rfl km1 rfl rfl ?_
      simp only [push_cast, seval, hlt, hi', hRl, hg, g1, g2, List.set_set, List.length_set, hset, w1, w2, w3, ws]
      refine ⟨_, ?_, hX ⟨i', by omega⟩ (by simp only; omega)⟩
      have hmm : m3 = k + 3 * i' := by omega
      simp only [← hmm, ← hR']
      exact Weak.same (by simp only [push_cast, seval])
    · have hii : i = l.length := by omega
      have hfin : e = m := by rw [he, hmk, hii]
      subst hfin
      simp only [hii] at hlt ⊢
      simp only [Tryz.ntmps40, Tryz.results40, push_cast, seval, hlt]
end Go.Proofs.YtlbmojbkmcpnaaaGreatDoor

