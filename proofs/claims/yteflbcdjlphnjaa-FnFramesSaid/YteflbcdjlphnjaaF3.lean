/- Drawn values: places, texts. -/
import Derived.Test.YteflbcdjlphnjaaF2
namespace Go.Proofs.Yteflbcdjlphnjaa
open Go.RowKit Go.Rx
set_option linter.unusedSimpArgs false
set_option maxRecDepth 100000

/-! ### places -/
def plN (c : List UInt8) (j : Nat) : Int := (bigN c (curI c (curN c (new0 c)) (4 * j))).tmod 10000
def places (c : List UInt8) : List Int := (List.range 12).map (plN c)
theorem plN_b (c : List UInt8) (j : Nat) : 0 ≤ plN c j ∧ plN c j < 10000 := by
  have := bigN_pos c (curI c (curN c (new0 c)) (4 * j))
  unfold plN
  rw [Int.tmod_eq_emod_of_nonneg this]
  omega
theorem curI_add (c : List UInt8) (p : Nat × Int) (i : Nat) : ∀ j, curI c (curI c p i) j = curI c p (i + j)
  | 0 => rfl
  | j + 1 => by rw [curI, curI_add c p i j]; rfl
def plR (c : List UInt8) (m : Nat) : List (List Value) := ints ((List.range m).map (plN c))
theorem plR_length (c : List UInt8) (m : Nat) : (plR c m).length = m := by simp [plR, ints]
theorem plR_snoc (c : List UInt8) (m : Nat) : plR c m ++ [[.int .i64 (plN c m)]] = plR c (m + 1) := by simp [plR, ints, List.range_succ]
theorem places_ok (c : List UInt8) (hc : c.length ≤ 1048576) : PureFn Try.prog 5 [.one (.sh 1 (byR c))] [.one (.own 1 (vR (ints (places c))))] := by
  refine PureFn_of_GoW Try.func5 rfl (by decide) mo (by decide +kernel) ?_
  simp only [Try.ntmps5, Try.results5, push_cast, Nat.reduceAdd, Nat.reduceSub, Nat.reduceMul, Nat.reduceLeDiff, Nat.reduceEqDiff, Nat.reduceLT, Int.reduceLT, Int.reduceLE, Int.reduceEq, Int.reduceNeg, Int.reduceToNat]
  refine new_go 1 hc rfl (Nat.zero_le _) rfl ?_
  unfold curOb
  simp only [Try.ntmps5, Try.results5, push_cast, Nat.reduceAdd, Nat.reduceSub, Nat.reduceMul, Nat.reduceLeDiff, Nat.reduceEqDiff, Nat.reduceLT, Int.reduceLT, Int.reduceLE, Int.reduceEq, Int.reduceNeg, Int.reduceToNat, List.nil_append, List.append_nil]
  refine byte_go 2 (1, 1984) (c := c) (p := new0 c) hc (Nat.zero_le _) rfl rfl (Nat.zero_le _) rfl ?_
  unfold curOb
  simp only [Try.ntmps5, Try.results5, push_cast, Nat.reduceAdd, Nat.reduceSub, Nat.reduceMul, Nat.reduceLeDiff, Nat.reduceEqDiff, Nat.reduceLT, Int.reduceLT, Int.reduceLE, Int.reduceEq, Int.reduceNeg, Int.reduceToNat, List.nil_append, List.append_nil]
  have hp0 : (curN c (new0 c)).1 ≤ c.length := curN_le (Nat.zero_le _)
  have hpl : ∀ j, plN c j = (bigN c (curI c (curN c (new0 c)) (4 * j))).tmod 10000 := fun _ => rfl
  have hres : vR (ints (places c)) = vR (plR c 12) := rfl
  have h0 : (curN c (new0 c)) = curI c (curN c (new0 c)) (4 * 0) := rfl
  rw [hres]
  generalize curN c (new0 c) = p0 at hp0 hpl h0
  refine Go_loop (α := {j : Nat // j ≤ 12})
    (fun j => ⟨tp 21 [(0, .x (.one (.sh 1 (byR c)))), (3, .x (.one (.pt (1, 1984) [] 3 0 0))), (4, .x (.one (.rs (0, 1216) [] 1 0 j.1))), (5, int j.1)], 0, [((0, 1216), ⟨.sl, 1, vR (plR c j.1)⟩), ((1, 1984), curOb c (curI c p0 (4 * j.1)))], []⟩)
    (fun j => 12 - j.1) ⟨0, by omega⟩ ?_ ?_
  · refine Weak.trans (Weak.rename (0, 640) (0, 1216) rfl rfl (by decide) rfl) ?_
    unfold curOb
    simp only [push_cast, Nat.reduceAdd, Nat.reduceSub, Nat.reduceMul, Nat.reduceLeDiff, Nat.reduceEqDiff, Nat.reduceLT, Int.reduceLT, Int.reduceLE, Int.reduceEq, Int.reduceNeg, Int.reduceToNat, Int.ofNat_zero]
    exact Weak.same (by simp only [push_cast, Nat.reduceAdd, Nat.reduceSub, Nat.reduceMul, Nat.reduceLeDiff, Nat.reduceEqDiff, Nat.reduceLT, Int.reduceLT, Int.reduceLE, Int.reduceEq, Int.reduceNeg, Int.reduceToNat])
  · rintro ⟨j, hj⟩ X hX
    by_cases hlt : (j : Int) < 12
    · have l1 := plR_length c j
      obtain ⟨j', hj'⟩ : ∃ j', j' = j + 1 := ⟨_, rfl⟩
      have a0 : j + 1 ≤ 4294967296 := by omega
      have a1 := max_len a0
      have a3 := room_le (b := 8) a0 (by decide)
      have s2 := vR_snoc (plR c j) [.int .i64 (plN c j)]
      rw [plR_snoc, ← hj'] at s2
      simp only [List.map_cons, List.map_nil] at s2
      have hw : IntKind.i64.wrap ((j : Int) + 1) = (j' : Int) := wN (by omega) (by omega)
      have hq : curI c (curI c p0 (4 * j)) 4 = curI c p0 (4 * j') := by rw [curI_add, hj']; congr 1
      simp only [push_cast, Nat.reduceAdd, Nat.reduceSub, Nat.reduceMul, Nat.reduceLeDiff, Nat.reduceEqDiff, Nat.reduceLT, Int.reduceLT, Int.reduceLE, Int.reduceEq, Int.reduceNeg, Int.reduceToNat, hlt]
      refine big_go 2 (1, 1984) (c := c) (p := curI c p0 (4 * j)) (by decide) hc (curI_le hp0 _) rfl rfl (Nat.zero_le _) rfl ?_
      rw [hq, ← hpl j]
      unfold curOb
      simp only [push_cast, Nat.reduceAdd, Nat.reduceSub, Nat.reduceMul, Nat.reduceLeDiff, Nat.reduceEqDiff, Nat.reduceLT, Int.reduceLT, Int.reduceLE, Int.reduceEq, Int.reduceNeg, Int.reduceToNat, l1, a1, a3, s2, hw, flatRows, flatRow, List.nil_append, List.append_nil]
      refine ⟨_, ?_, hX ⟨j', by omega⟩ (by simp only; omega)⟩
      unfold curOb
      exact Weak.drop (by simp only [push_cast, Nat.reduceAdd, Nat.reduceSub, Nat.reduceMul, Nat.reduceLeDiff, Nat.reduceEqDiff, Nat.reduceLT, Int.reduceLT, Int.reduceLE, Int.reduceEq, Int.reduceNeg, Int.reduceToNat, hj', List.nil_append, List.append_nil]) (by simp only [push_cast, Nat.reduceAdd, Nat.reduceSub, Nat.reduceMul, Nat.reduceLeDiff, Nat.reduceEqDiff, Nat.reduceLT, Int.reduceLT, Int.reduceLE, Int.reduceEq, Int.reduceNeg, Int.reduceToNat, hj', List.nil_append, List.append_nil]) (by simp only [push_cast, Nat.reduceAdd, Nat.reduceSub, Nat.reduceMul, Nat.reduceLeDiff, Nat.reduceEqDiff, Nat.reduceLT, Int.reduceLT, Int.reduceLE, Int.reduceEq, Int.reduceNeg, Int.reduceToNat, hj', List.nil_append, List.append_nil])
    · have hj12 : j = 12 := by omega
      rw [show plR c 12 = plR c j by rw [hj12]]
      have l1 := plR_length c j
      simp only [Try.ntmps5, Try.results5, push_cast, Nat.reduceAdd, Nat.reduceSub, Nat.reduceMul, Nat.reduceLeDiff, Nat.reduceEqDiff, Nat.reduceLT, Int.reduceLT, Int.reduceLE, Int.reduceEq, Int.reduceNeg, Int.reduceToNat, hlt]
      refine ⟨_, Weak.refl _, ?_⟩
      simp only [Try.ntmps5, Try.results5, push_cast, Nat.reduceAdd, Nat.reduceSub, Nat.reduceMul, Nat.reduceLeDiff, Nat.reduceEqDiff, Nat.reduceLT, Int.reduceLT, Int.reduceLE, Int.reduceEq, Int.reduceNeg, Int.reduceToNat, l1]
      done

/-! ### texts -/
def longB (n : Nat) (b : UInt8) : ByteArray := ⟨(List.replicate n b).toArray⟩
theorem longB_size (n : Nat) (b : UInt8) : (longB n b).size = n := by
  show (List.replicate n b).toArray.size = n
  simp
def fillB (n : Nat) (b : UInt8) (i : Nat) : List (List C) := byR (List.replicate i b ++ List.replicate (n - i) 0)
theorem fillB_length {n i : Nat} (b : UInt8) (h : i ≤ n) : (fillB n b i).length = n := by simp [fillB, byR]; omega
theorem fillB_zero (n : Nat) (b : UInt8) : List.replicate n [C.v (.int .u8 0)] = fillB n b 0 := by simp [fillB, byR]
theorem fillB_all (n : Nat) (b : UInt8) : fillB n b n = byR (List.replicate n b) := by simp [fillB]
theorem fillB_set {n i : Nat} (b : UInt8) (h : i < n) : (fillB n b i).set i [.v (.int .u8 b.toNat)] = fillB n b (i + 1) := by
  obtain ⟨m, hm⟩ : ∃ m, n - i = m + 1 := ⟨n - i - 1, by omega⟩
  have h2 : n - (i + 1) = m := by omega
  unfold fillB byR
  rw [List.map_append, List.set_append, if_neg (by simp), hm, h2, List.replicate_succ' (n := i), List.append_assoc, List.map_append]
  simp [List.replicate_succ]
theorem fillB_getD {n i : Nat} (b : UInt8) (h : i < n) : (fillB n b i).getD i [] = [.v (.int .u8 0)] := by
  obtain ⟨m, hm⟩ : ∃ m, n - i = m + 1 := ⟨n - i - 1, by omega⟩
  unfold fillB byR
  rw [hm, List.map_append, List.getD_eq_getElem?_getD, List.getElem?_append_right (by simp)]
  simp [List.replicate_succ]
theorem long_ok (n : Nat) (b : UInt8) (hn : n ≤ 1048576) : PureFn Try.prog 14 [i64 n, .one (.v (.int .u8 b.toNat))] [st (longB n b)] := by
  refine PureFn_of_Go Try.func14 rfl (by decide) mo (by decide +kernel) ?_
  have q1 : n ≤ 281474976710656 := by omega
  have q2 : n ≤ 9223372036854775807 := by omega
  simp only [Try.ntmps14, Try.results14, push_cast, Nat.reduceAdd, Nat.reduceSub, Nat.reduceMul, Nat.reduceLeDiff, Nat.reduceEqDiff, Nat.reduceLT, Int.reduceLT, Int.reduceLE, Int.reduceEq, Int.reduceNeg, Int.reduceToNat, Nat.mul_one, q1, q2]
  refine Go_loop (α := {i : Nat // i ≤ n})
    (fun i => ⟨tp 20 [(0, .x (i64 n)), (1, .x (.one (.v (.int .u8 b.toNat)))), (4, .x (st ⟨#[]⟩)), (5, .x (.one (.rs (0, 512) [] 1 0 n))), (6, int i.1)], 0, [((0, 512), ⟨.sl, 1, fillB n b i.1⟩)], []⟩)
    (fun i => n - i.1) ⟨0, Nat.zero_le _⟩ ?_ ?_
  · rw [← fillB_zero]
    exact Weak.drop (by simp only [push_cast, Nat.reduceAdd, Nat.reduceSub, Nat.reduceMul, Nat.reduceLeDiff, Nat.reduceEqDiff, Nat.reduceLT, Int.reduceLT, Int.reduceLE, Int.reduceEq, Int.reduceNeg, Int.reduceToNat, Int.ofNat_zero]) (by simp only [push_cast, Nat.reduceAdd, Nat.reduceSub, Nat.reduceMul, Nat.reduceLeDiff, Nat.reduceEqDiff, Nat.reduceLT, Int.reduceLT, Int.reduceLE, Int.reduceEq, Int.reduceNeg, Int.reduceToNat, Int.ofNat_zero]) (by simp only [push_cast, Nat.reduceAdd, Nat.reduceSub, Nat.reduceMul, Nat.reduceLeDiff, Nat.reduceEqDiff, Nat.reduceLT, Int.reduceLT, Int.reduceLE, Int.reduceEq, Int.reduceNeg, Int.reduceToNat, Int.ofNat_zero])
  · rintro ⟨i, hi⟩ X hX
    have l1 := fillB_length b hi
    by_cases hlt : (i : Int) < (n : Int)
    · have hi' : i < n := by omega
      have fs := fillB_set b hi'
      have fg := fillB_getD b hi'
      obtain ⟨i', hi1⟩ : ∃ i', i' = i + 1 := ⟨_, rfl⟩
      rw [← hi1] at fs
      have hw : IntKind.i64.wrap ((i : Int) + 1) = (i' : Int) := wN (by omega) (by omega)
      simp only [push_cast, Nat.reduceAdd, Nat.reduceSub, Nat.reduceMul, Nat.reduceLeDiff, Nat.reduceEqDiff, Nat.reduceLT, Int.reduceLT, Int.reduceLE, Int.reduceEq, Int.reduceNeg, Int.reduceToNat, hlt, hi', l1, fs, fg, hw]
      refine ⟨_, ?_, hX ⟨i', by omega⟩ (by simp only; omega)⟩
      exact Weak.same (by simp only [push_cast, Nat.reduceAdd, Nat.reduceSub, Nat.reduceMul, Nat.reduceLeDiff, Nat.reduceEqDiff, Nat.reduceLT, Int.reduceLT, Int.reduceLE, Int.reduceEq, Int.reduceNeg, Int.reduceToNat])
    · have hin : i = n := by omega
      subst hin
      have ht := fillB_all i b
      have ht2 : (byR (List.replicate i b)).take i = byR (List.replicate i b) := List.take_of_length_le (by simp [byR])
      have hfin : (⟨(List.replicate i b).toArray⟩ : ByteArray) = longB i b := rfl
      simp only [Try.ntmps14, Try.results14, push_cast, Nat.reduceAdd, Nat.reduceSub, Nat.reduceMul, Nat.reduceLeDiff, Nat.reduceEqDiff, Nat.reduceLT, Int.reduceLT, Int.reduceLE, Int.reduceEq, Int.reduceNeg, Int.reduceToNat, hlt, ht, ht2, hfin]

def textL (c : List UInt8) (p : Nat × Int) (n : Nat) : List UInt8 := (List.range n).map fun j => UInt8.ofNat (curX c (curI c p j)).toNat
theorem textL_length (c : List UInt8) (p : Nat × Int) (n : Nat) : (textL c p n).length = n := by simp [textL]
theorem textL_succ (c : List UInt8) (p : Nat × Int) (n : Nat) : textL c p (n + 1) = textL c p n ++ [UInt8.ofNat (curX c (curI c p n)).toNat] := by simp [textL, List.range_succ]
theorem curX_u8 (c : List UInt8) (p : Nat × Int) : IntKind.u8.wrap (curX c p) = ((UInt8.ofNat (curX c p).toNat).toNat : Int) := by
  have h := curX_b c p
  have := wu8 (n := (curX c p).toNat)
  rw [← this]; congr 1; omega
def hexB (c : List UInt8) : ByteArray :=
  if (curX c (new0 c)).tmod 60 = 0 then longB (20000 + ((curX c (curI c (new0 c) 1)).tmod 2).toNat) 200
  else ⟨(textL c (curI c (new0 c) 2) ((curX c (curI c (new0 c) 1)).tmod 30).toNat).toArray⟩
theorem tmod_b {x n : Int} (h : 0 ≤ x) (hn : 0 < n) : 0 ≤ x.tmod n ∧ x.tmod n < n := by
  rw [Int.tmod_eq_emod_of_nonneg h]
  exact ⟨Int.emod_nonneg _ (by omega), Int.emod_lt_of_pos _ hn⟩
theorem hexB_size (c : List UInt8) : (hexB c).size ≤ 20001 := by
  have h1 := tmod_b (curX_b c (curI c (new0 c) 1)).1 (n := 2) (by decide)
  have h2 := tmod_b (curX_b c (curI c (new0 c) 1)).1 (n := 30) (by decide)
  unfold hexB
  split
  · rw [longB_size]; omega
  · show (textL c (curI c (new0 c) 2) ((curX c (curI c (new0 c) 1)).tmod 30).toNat).toArray.size ≤ 20001
    rw [List.size_toArray, textL_length]; omega

theorem hex_ok (c : List UInt8) (hc : c.length ≤ 1048576) : PureFn Try.prog 6 [.one (.sh 1 (byR c))] [st (hexB c)] := by
  refine PureFn_of_Go Try.func6 rfl (by decide) mo (by decide +kernel) ?_
  simp only [Try.ntmps6, Try.results6, push_cast, Nat.reduceAdd, Nat.reduceSub, Nat.reduceMul, Nat.reduceLeDiff, Nat.reduceEqDiff, Nat.reduceLT, Int.reduceLT, Int.reduceLE, Int.reduceEq, Int.reduceNeg, Int.reduceToNat]
  refine new_go 1 hc rfl (Nat.zero_le _) rfl ?_
  have hx : hexB c = if (curX c (new0 c)).tmod 60 = 0 then longB (20000 + ((curX c (curI c (new0 c) 1)).tmod 2).toNat) 200 else ⟨(textL c (curI c (new0 c) 2) ((curX c (curI c (new0 c) 1)).tmod 30).toNat).toArray⟩ := rfl
  have hp0 : (new0 c).1 ≤ c.length := Nat.zero_le _
  generalize new0 c = p at hx hp0
  unfold curOb
  simp only [Try.ntmps6, Try.results6, push_cast, Nat.reduceAdd, Nat.reduceSub, Nat.reduceMul, Nat.reduceLeDiff, Nat.reduceEqDiff, Nat.reduceLT, Int.reduceLT, Int.reduceLE, Int.reduceEq, Int.reduceNeg, Int.reduceToNat, List.nil_append, List.append_nil]
  refine GoL_inl2 2 Try.func13 rfl (by decide) mo (by decide +kernel) rfl rfl (Nat.zero_le _) rfl fun K hK => ?_
  simp only [Try.ntmps13, Try.results13, push_cast, Nat.reduceAdd, Nat.reduceSub, Nat.reduceMul, Nat.reduceLeDiff, Nat.reduceEqDiff, Nat.reduceLT, Int.reduceLT, Int.reduceLE, Int.reduceEq, Int.reduceNeg, Int.reduceToNat, List.nil_append, List.append_nil]
  refine small_go 3 (1, 1984) (c := c) (p := p) (by decide) (by decide) hc hp0 rfl rfl (show 2 ≤ 3 by decide) rfl ?_
  have hp1 := curI_le (c := c) hp0 1
  have hp2 := curI_le (c := c) hp0 2
  have e1 : curN c p = curI c p 1 := rfl
  have e2 : curN c (curI c p 1) = curI c p 2 := rfl
  rw [e1]
  simp only [Try.ntmps13, Try.results13, push_cast, Nat.reduceAdd, Nat.reduceSub, Nat.reduceMul, Nat.reduceLeDiff, Nat.reduceEqDiff, Nat.reduceLT, Int.reduceLT, Int.reduceLE, Int.reduceEq, Int.reduceNeg, Int.reduceToNat, List.nil_append, List.append_nil]
  refine hK _ _ _ (Weak.refl _) rfl rfl rfl ?_
  have h1 := tmod_b (curX_b c (curI c p 1)).1 (n := 2) (by decide)
  have h2 := tmod_b (curX_b c (curI c p 1)).1 (n := 30) (by decide)
  by_cases h60 : (curX c p).tmod 60 = 0
  · rw [if_pos h60] at hx
    unfold curOb
    simp only [Try.ntmps6, Try.results6, push_cast, Nat.reduceAdd, Nat.reduceSub, Nat.reduceMul, Nat.reduceLeDiff, Nat.reduceEqDiff, Nat.reduceLT, Int.reduceLT, Int.reduceLE, Int.reduceEq, Int.reduceNeg, Int.reduceToNat, List.nil_append, List.append_nil, h60]
    refine small_go 2 (1, 1984) (c := c) (p := curI c p 1) (by decide) (by decide) hc hp1 rfl rfl (Nat.zero_le _) rfl ?_
    obtain ⟨m, hm⟩ : ∃ m : Nat, m = 20000 + ((curX c (curI c p 1)).tmod 2).toNat := ⟨_, rfl⟩
    rw [← hm] at hx
    have hw : IntKind.i64.wrap (20000 + (curX c (curI c p 1)).tmod 2) = (m : Int) := wN (by omega) (by omega)
    have k := long_ok m 200 (by omega)
    rw [← hx] at k
    unfold curOb
    simp only [Try.ntmps6, Try.results6, push_cast, Nat.reduceAdd, Nat.reduceSub, Nat.reduceMul, Nat.reduceLeDiff, Nat.reduceEqDiff, Nat.reduceLT, Int.reduceLT, Int.reduceLE, Int.reduceEq, Int.reduceNeg, Int.reduceToNat, List.nil_append, List.append_nil, hw]
    refine GoL_call rfl rfl k rfl rfl ?_
    simp only [Try.ntmps6, Try.results6, push_cast, Nat.reduceAdd, Nat.reduceSub, Nat.reduceMul, Nat.reduceLeDiff, Nat.reduceEqDiff, Nat.reduceLT, Int.reduceLT, Int.reduceLE, Int.reduceEq, Int.reduceNeg, Int.reduceToNat]
  · rw [if_neg h60] at hx
    unfold curOb
    simp only [Try.ntmps6, Try.results6, push_cast, Nat.reduceAdd, Nat.reduceSub, Nat.reduceMul, Nat.reduceLeDiff, Nat.reduceEqDiff, Nat.reduceLT, Int.reduceLT, Int.reduceLE, Int.reduceEq, Int.reduceNeg, Int.reduceToNat, List.nil_append, List.append_nil, h60]
    refine small_go 2 (1, 1984) (c := c) (p := curI c p 1) (by decide) (by decide) hc hp1 rfl rfl (Nat.zero_le _) rfl ?_
    obtain ⟨m, hm⟩ : ∃ m : Nat, m = ((curX c (curI c p 1)).tmod 30).toNat := ⟨_, rfl⟩
    rw [← hm] at hx
    have hmi : (curX c (curI c p 1)).tmod 30 = (m : Int) := by omega
    have hm30 : m < 30 := by omega
    rw [hmi, e2]
    generalize curI c p 2 = p2 at hx hp2
    unfold curOb
    simp only [Try.ntmps6, Try.results6, push_cast, Nat.reduceAdd, Nat.reduceSub, Nat.reduceMul, Nat.reduceLeDiff, Nat.reduceEqDiff, Nat.reduceLT, Int.reduceLT, Int.reduceLE, Int.reduceEq, Int.reduceNeg, Int.reduceToNat, List.nil_append, List.append_nil]
    refine GoL_inl2 2 Try.func15 rfl (by decide) mo (by decide +kernel) rfl rfl (Nat.zero_le _) rfl fun K hK => ?_
    have hm5 : ¬ ((5000 : Int) < (m : Int)) := by omega
    simp only [Try.ntmps15, Try.results15, push_cast, Nat.reduceAdd, Nat.reduceSub, Nat.reduceMul, Nat.reduceLeDiff, Nat.reduceEqDiff, Nat.reduceLT, Int.reduceLT, Int.reduceLE, Int.reduceEq, Int.reduceNeg, Int.reduceToNat, List.nil_append, List.append_nil, hm5]
    refine Go_loop (α := {j : Nat // j ≤ m})
      (fun j => ⟨tp 23 [(0, .x (.one (.pt (1, 1984) [] 3 0 0))), (1, int m), (5, .x (.one (.rs (2, 1280) [] 1 0 j.1))), (6, int j.1)], 2, [((2, 1280), ⟨.sl, 1, byR (textL c p2 j.1)⟩)], [((1, 1984), curOb c (curI c p2 j.1))]⟩)
      (fun j => m - j.1) ⟨0, Nat.zero_le _⟩ ?_ ?_
    · refine Weak.trans (Weak.rename (2, 576) (2, 1280) rfl rfl (by decide) rfl) ?_
      unfold curOb
      simp only [push_cast, Nat.reduceAdd, Nat.reduceSub, Nat.reduceMul, Nat.reduceLeDiff, Nat.reduceEqDiff, Nat.reduceLT, Int.reduceLT, Int.reduceLE, Int.reduceEq, Int.reduceNeg, Int.reduceToNat, Int.ofNat_zero]
      exact Weak.same (by simp only [push_cast, Nat.reduceAdd, Nat.reduceSub, Nat.reduceMul, Nat.reduceLeDiff, Nat.reduceEqDiff, Nat.reduceLT, Int.reduceLT, Int.reduceLE, Int.reduceEq, Int.reduceNeg, Int.reduceToNat])
    · rintro ⟨j, hj⟩ X hX
      have l1 := textL_length c p2 j
      by_cases hlt : (j : Int) < (m : Int)
      · have a0 : j + 1 ≤ 4294967296 := by omega
        have a1 := max_len a0
        have a3 := room_le (b := 1) a0 (by decide)
        have hts := textL_succ c p2 j
        have hcu := curX_u8 c (curI c p2 j)
        have hcN : curN c (curI c p2 j) = curI c p2 (j + 1) := rfl
        have hsn := byR_snoc (textL c p2 j) (UInt8.ofNat (curX c (curI c p2 j)).toNat)
        rw [← hts] at hsn
        obtain ⟨j', hj'⟩ : ∃ j', j' = j + 1 := ⟨_, rfl⟩
        have hw : IntKind.i64.wrap ((j : Int) + 1) = (j' : Int) := wN (by omega) (by omega)
        rw [← hj'] at hsn hcN
        simp only [push_cast, Nat.reduceAdd, Nat.reduceSub, Nat.reduceMul, Nat.reduceLeDiff, Nat.reduceEqDiff, Nat.reduceLT, Int.reduceLT, Int.reduceLE, Int.reduceEq, Int.reduceNeg, Int.reduceToNat, hlt]
        refine byte_go 3 (1, 1984) (c := c) (p := curI c p2 j) hc (curI_le hp2 _) rfl rfl (show 2 ≤ 3 by decide) rfl ?_
        rw [hcN]
        unfold curOb
        simp only [push_cast, Nat.reduceAdd, Nat.reduceSub, Nat.reduceMul, Nat.reduceLeDiff, Nat.reduceEqDiff, Nat.reduceLT, Int.reduceLT, Int.reduceLE, Int.reduceEq, Int.reduceNeg, Int.reduceToNat, List.nil_append, List.append_nil, l1, a1, a3, hcu, hsn, hw]
        refine ⟨_, ?_, hX ⟨j', by omega⟩ (by simp only; omega)⟩
        unfold curOb
        exact Weak.drop (by simp only [push_cast, Nat.reduceAdd, Nat.reduceSub, Nat.reduceMul, Nat.reduceLeDiff, Nat.reduceEqDiff, Nat.reduceLT, Int.reduceLT, Int.reduceLE, Int.reduceEq, Int.reduceNeg, Int.reduceToNat, hj', List.nil_append, List.append_nil]) (by simp only [push_cast, Nat.reduceAdd, Nat.reduceSub, Nat.reduceMul, Nat.reduceLeDiff, Nat.reduceEqDiff, Nat.reduceLT, Int.reduceLT, Int.reduceLE, Int.reduceEq, Int.reduceNeg, Int.reduceToNat, hj', List.nil_append, List.append_nil]) (by simp only [push_cast, Nat.reduceAdd, Nat.reduceSub, Nat.reduceMul, Nat.reduceLeDiff, Nat.reduceEqDiff, Nat.reduceLT, Int.reduceLT, Int.reduceLE, Int.reduceEq, Int.reduceNeg, Int.reduceToNat, hj', List.nil_append, List.append_nil])
      · have hjm : j = m := by omega
        rw [← hjm] at hx
        have ht2 : (byR (textL c p2 j)).take j = byR (textL c p2 j) := List.take_of_length_le (by simp [byR, textL])
        unfold curOb
        simp only [Try.ntmps15, Try.results15, push_cast, Nat.reduceAdd, Nat.reduceSub, Nat.reduceMul, Nat.reduceLeDiff, Nat.reduceEqDiff, Nat.reduceLT, Int.reduceLT, Int.reduceLE, Int.reduceEq, Int.reduceNeg, Int.reduceToNat, hlt, ht2, ← hx]
        refine hK _ _ _ (Weak.refl _) rfl rfl rfl ?_
        simp only [Try.ntmps6, Try.results6, push_cast, Nat.reduceAdd, Nat.reduceSub, Nat.reduceMul, Nat.reduceLeDiff, Nat.reduceEqDiff, Nat.reduceLT, Int.reduceLT, Int.reduceLE, Int.reduceEq, Int.reduceNeg, Int.reduceToNat, List.nil_append, List.append_nil, ← hx]
end Go.Proofs.Yteflbcdjlphnjaa
