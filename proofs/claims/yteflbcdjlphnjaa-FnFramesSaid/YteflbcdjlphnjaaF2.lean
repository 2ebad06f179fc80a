/- Drawn values: the cursor. -/
import Derived.Test.YteflbcdjlphnjaaF1
namespace Go.Proofs.Yteflbcdjlphnjaa
open Go.RowKit Go.Rx
set_option linter.unusedSimpArgs false
set_option maxRecDepth 100000

theorem setA_setA (s : Store) (r : Root) (a b : Obj') : setA (setA s r a) r b = setA s r b := by
  induction s with
  | nil => rfl
  | cons p s ih =>
    obtain ⟨k, o⟩ := p
    by_cases h : k = r
    · simp only [setA, if_pos h]
    · simp only [setA, if_neg h, ih]
theorem getA_here {s : Store} {r : Root} {o : Obj'} (h : getA s r = some o) (ob : Obj') : getA (setA s r ob) r = some ob := by rw [getA_setA, if_pos rfl, h]; rfl
theorem belowS_setA (D : Nat) (r : Root) (ob : Obj') : ∀ s : Store, belowS D (setA s r ob) = belowS D s
  | [] => rfl
  | (k, o) :: s => by
    by_cases h : k = r
    · simp only [setA, if_pos h, belowS]
    · simp only [setA, if_neg h, belowS, belowS_setA D r ob s]
theorem upS_below {D : Nat} : ∀ {s : Store}, belowS D s = true → upS D s = []
  | [], _ => rfl
  | (k, o) :: s, h => by
    rw [belowS, Bool.and_eq_true, decide_eq_true_eq] at h
    rw [upS, if_neg (by omega), upS_below h.2]
theorem dnS_below {D : Nat} : ∀ {s : Store}, belowS D s = true → dnS D s = s
  | [], _ => rfl
  | (k, o) :: s, h => by
    rw [belowS, Bool.and_eq_true, decide_eq_true_eq] at h
    rw [dnS, if_pos h.1, dnS_below h.2]
theorem belowS_mono {D E : Nat} (h : D ≤ E) : ∀ {s : Store}, belowS D s = true → belowS E s = true
  | [], _ => rfl
  | (k, o) :: s, e => by
    rw [belowS, Bool.and_eq_true, decide_eq_true_eq] at e
    rw [belowS, belowS_mono h e.2, Bool.and_true, decide_eq_true_eq]; omega

/-! ### one octet -/
def curH (h : Int) : Int := IntKind.i64.wrap (IntKind.i64.wrap (h * 6364136223846793005) + 1442695040888963407)
def cur0 (h : Int) : Int := bits .and .i64 (bits .xor .i64 (shrI .i64 h 33) (shrI .i64 h 45)) 255
def curX (c : List UInt8) (p : Nat × Int) : Int := if p.1 < c.length then bits .and .i64 (IntKind.i64.wrap (cur0 (curH p.2) + ((c.getD p.1 0).toNat : Int))) 255 else cur0 (curH p.2)
def curN (c : List UInt8) (p : Nat × Int) : Nat × Int := (if p.1 < c.length then p.1 + 1 else p.1, curH p.2)
def curOb (c : List UInt8) (p : Nat × Int) : Obj' := ⟨.box, 3, [[.sh 1 (byR c), .v (.int .i64 p.1), .v (.int .i64 p.2)]]⟩
theorem and255 (x : Int) : 0 ≤ bits .and .i64 x 255 ∧ bits .and .i64 x 255 ≤ 255 := by
  have h : bits .and .i64 x 255 = IntKind.i64.wrap ((BitVec.ofInt 64 x &&& BitVec.ofInt 64 255).toNat : Int) := rfl
  have h2 : (BitVec.ofInt 64 x &&& BitVec.ofInt 64 255).toNat ≤ 255 := by
    rw [BitVec.toNat_and]
    exact Nat.le_trans Nat.and_le_right (by decide)
  rw [h, IntKind.wrap_i64]; omega
theorem curX_b (c : List UInt8) (p : Nat × Int) : 0 ≤ curX c p ∧ curX c p ≤ 255 := by
  unfold curX
  split
  · exact and255 _
  · exact and255 _
theorem curN_le {c : List UInt8} {p : Nat × Int} (h : p.1 ≤ c.length) : (curN c p).1 ≤ c.length := by
  simp only [curN]; split <;> omega
theorem byR_getD (c : List UInt8) {i : Nat} (h : i < c.length) : (byR c).getD i [] = [.v (.int .u8 (c.getD i 0).toNat)] := by
  simp [byR, List.getD_eq_getElem?_getD, List.getElem?_map, List.getElem?_eq_getElem h]

variable {Q : Ex → St → Prop} {k : List Fr} {l : List SOp} {σ : St} {dst : Option Tmp} {a a2 : Operand} {ats : Array TypeId} {ty : TypeId}

theorem byte_go (D : Nat) (r : Root) {c : List UInt8} {p : Nat × Int} (hc : c.length ≤ 1048576) (hp : p.1 ≤ c.length)
    (ha : xsV [ev σ a] = some [.one (.pt r [] 3 0 0)]) (hr : getA σ.o r = some (curOb c p)) (hd : σ.d ≤ D) (hD : belowS D σ.o = true)
    (H : GoL Try.prog l k (exitSt σ.t σ.d dst ⟨[], D, [], setA σ.o r (curOb c (curN c p))⟩ [i64 (curX c p)]) Q) :
    GoL Try.prog (⟨dst, .call { callee := .value (.func 11), args := #[a], argTypes := ats }, ty, none⟩ :: l) k σ Q := by
  refine GoL_inl2 D Try.func11 rfl (by decide) mo (by decide +kernel) rfl ha hd hD fun K hK => ?_
  generalize σ.o = s at hr hD H hK
  obtain ⟨i, h⟩ := p
  simp only at hp
  have hr1 : ∀ ob, getA (setA s r ob) r = some ob := getA_here hr
  have hu : ∀ ob, upS D (setA s r ob) = [] := fun ob => upS_below (by rw [belowS_setA]; exact hD)
  have hn : ∀ ob, dnS D (setA s r ob) = setA s r ob := fun ob => dnS_below (by rw [belowS_setA]; exact hD)
  have hs : ∀ a b, setA (setA s r a) r b = setA s r b := setA_setA s r
  unfold curOb at hr
  simp only at hr
  obtain ⟨h1, hh1⟩ : ∃ h1, h1 = curH h := ⟨_, rfl⟩
  have e1 : IntKind.i64.wrap (IntKind.i64.wrap (h * 6364136223846793005) + 1442695040888963407) = h1 := hh1.symm
  obtain ⟨x0, hx0⟩ : ∃ x0, x0 = cur0 h1 := ⟨_, rfl⟩
  have e2 : bits .and .i64 (bits .xor .i64 (shrI .i64 h1 33) (shrI .i64 h1 45)) 255 = x0 := hx0.symm
  simp only [curX, curN, ← hh1, ← hx0] at H
  by_cases hlt : (i : Int) < (c.length : Int)
  · have hi : i < c.length := by omega
    rw [if_pos hi, if_pos hi] at H
    have hg := byR_getD c hi
    obtain ⟨i', hi'⟩ : ∃ i', i' = i + 1 := ⟨_, rfl⟩
    have hw : IntKind.i64.wrap ((i : Int) + 1) = (i' : Int) := wN (by omega) (by omega)
    have hb := u8_lt (c.getD i 0)
    have hw2 : IntKind.i64.wrap ((c.getD i 0).toNat : Int) = ((c.getD i 0).toNat : Int) := wN rfl (by omega)
    rw [← hi'] at H
    simp only [Try.ntmps11, Try.results11, push_cast, Nat.reduceAdd, Nat.reduceSub, Nat.reduceMul, Nat.reduceLeDiff, Nat.reduceEqDiff, Nat.reduceLT, Int.reduceLT, Int.reduceLE, Int.reduceEq, Int.reduceNeg, Int.reduceToNat, List.nil_append, hr, hr1, hs, hlt, hi, hg, hw, hw2, e1, e2]
    refine hK _ _ _ (Weak.refl _) rfl rfl rfl H
  · have hi : ¬ i < c.length := by omega
    rw [if_neg hi, if_neg hi] at H
    simp only [Try.ntmps11, Try.results11, push_cast, Nat.reduceAdd, Nat.reduceSub, Nat.reduceMul, Nat.reduceLeDiff, Nat.reduceEqDiff, Nat.reduceLT, Int.reduceLT, Int.reduceLE, Int.reduceEq, Int.reduceNeg, Int.reduceToNat, List.nil_append, hr, hr1, hs, hlt, e1, e2]
    refine hK _ _ _ (Weak.refl _) rfl rfl rfl H
/-- A whole call of byte, in a frame of one's own at depth D over an abstract store. -/
theorem exit_byte (t : List V) (D : Nat) (s : Store) (r : Root) (ob : Obj') (dst : Option Tmp) (vs : List X) (hD : belowS D s = true) :
    exitSt t D dst ⟨[], D + 1, [], setA s r ob⟩ vs = put ⟨t.map (keepV (setA s r ob)), D, [], setA s r ob⟩ dst (packT vs) := by
  unfold exitSt
  simp only
  rw [upS_below (by rw [belowS_setA]; exact hD), dnS_below (by rw [belowS_setA]; exact hD)]; rfl

/-! ### a number below n -/
def curI (c : List UInt8) (p : Nat × Int) : Nat → Nat × Int
  | 0 => p
  | j + 1 => curN c (curI c p j)
def bigN (c : List UInt8) (p : Nat × Int) : Int :=
  IntKind.i64.wrap (IntKind.i64.wrap (IntKind.i64.wrap (IntKind.i64.wrap (curX c p * 16777216) + IntKind.i64.wrap (curX c (curI c p 1) * 65536)) + IntKind.i64.wrap (curX c (curI c p 2) * 256)) + curX c (curI c p 3))
theorem bigN_pos (c : List UInt8) (p : Nat × Int) : 0 ≤ bigN c p := by
  have h0 := curX_b c p
  have h1 := curX_b c (curI c p 1)
  have h2 := curX_b c (curI c p 2)
  have h3 := curX_b c (curI c p 3)
  unfold bigN
  simp only [IntKind.wrap_i64]
  omega
theorem curI_le {c : List UInt8} {p : Nat × Int} (h : p.1 ≤ c.length) : ∀ j, (curI c p j).1 ≤ c.length
  | 0 => h
  | j + 1 => curN_le (curI_le h j)

theorem small_go (D : Nat) (r : Root) {c : List UInt8} {p : Nat × Int} {n : Int} (hn0 : 0 < n) (hn : n ≤ 256) (hc : c.length ≤ 1048576) (hp : p.1 ≤ c.length)
    (ha : xsV [ev σ a, ev σ a2] = some [.one (.pt r [] 3 0 0), i64 n]) (hr : getA σ.o r = some (curOb c p)) (hd : σ.d ≤ D) (hD : belowS D σ.o = true)
    (H : GoL Try.prog l k (exitSt σ.t σ.d dst ⟨[], D, [], setA σ.o r (curOb c (curN c p))⟩ [i64 ((curX c p).tmod n)]) Q) :
    GoL Try.prog (⟨dst, .call { callee := .value (.func 12), args := #[a, a2], argTypes := ats }, ty, none⟩ :: l) k σ Q := by
  refine GoL_inl2 D Try.func12 rfl (by decide) mo (by decide +kernel) rfl ha hd hD fun K hK => ?_
  generalize σ.o = s at hr hD H hK
  have hr1 : ∀ ob, getA (setA s r ob) r = some ob := getA_here hr
  have c1 : ¬ n ≤ 0 := by omega
  have c2 : ¬ n = 0 := by omega
  simp only [Try.ntmps12, Try.results12, push_cast, Nat.reduceAdd, Nat.reduceSub, Nat.reduceMul, Nat.reduceLeDiff, Nat.reduceEqDiff, Nat.reduceLT, Int.reduceLT, Int.reduceLE, Int.reduceEq, Int.reduceNeg, Int.reduceToNat, c1, hn]
  refine byte_go (D + 1) r hc hp rfl hr (by simp only; omega) (belowS_mono (by omega) hD) ?_
  have hu : ∀ ob, upS D (setA s r ob) = [] := fun ob => upS_below (by rw [belowS_setA]; exact hD)
  have hv : ∀ ob, dnS D (setA s r ob) = setA s r ob := fun ob => dnS_below (by rw [belowS_setA]; exact hD)
  simp only [Try.ntmps12, Try.results12, push_cast, Nat.reduceAdd, Nat.reduceSub, Nat.reduceMul, Nat.reduceLeDiff, Nat.reduceEqDiff, Nat.reduceLT, Int.reduceLT, Int.reduceLE, Int.reduceEq, Int.reduceNeg, Int.reduceToNat, List.nil_append, List.append_nil, hu, hv, hr1, c2]
  refine hK _ _ _ (Weak.refl _) rfl rfl rfl H
theorem big_go (D : Nat) (r : Root) {c : List UInt8} {p : Nat × Int} {n : Int} (hn : 256 < n) (hc : c.length ≤ 1048576) (hp : p.1 ≤ c.length)
    (ha : xsV [ev σ a, ev σ a2] = some [.one (.pt r [] 3 0 0), i64 n]) (hr : getA σ.o r = some (curOb c p)) (hd : σ.d ≤ D) (hD : belowS D σ.o = true)
    (H : GoL Try.prog l k (exitSt σ.t σ.d dst ⟨[], D, [], setA σ.o r (curOb c (curI c p 4))⟩ [i64 ((bigN c p).tmod n)]) Q) :
    GoL Try.prog (⟨dst, .call { callee := .value (.func 12), args := #[a, a2], argTypes := ats }, ty, none⟩ :: l) k σ Q := by
  refine GoL_inl2 D Try.func12 rfl (by decide) mo (by decide +kernel) rfl ha hd hD fun K hK => ?_
  generalize σ.o = s at hr hD H hK
  have hr1 : ∀ ob, getA (setA s r ob) r = some ob := getA_here hr
  have hs : ∀ a b, setA (setA s r a) r b = setA s r b := setA_setA s r
  have c0 : ¬ n ≤ 0 := by omega
  have c1 : ¬ n ≤ 256 := by omega
  have c2 : ¬ n = 0 := by omega
  have hu : ∀ ob, upS D (setA s r ob) = [] := fun ob => upS_below (by rw [belowS_setA]; exact hD)
  have hv : ∀ ob, dnS D (setA s r ob) = setA s r ob := fun ob => dnS_below (by rw [belowS_setA]; exact hD)
  have hB : ∀ ob, belowS (D + 1) (setA s r ob) = true := fun ob => by rw [belowS_setA]; exact belowS_mono (by omega) hD
  simp only [Try.ntmps12, Try.results12, push_cast, Nat.reduceAdd, Nat.reduceSub, Nat.reduceMul, Nat.reduceLeDiff, Nat.reduceEqDiff, Nat.reduceLT, Int.reduceLT, Int.reduceLE, Int.reduceEq, Int.reduceNeg, Int.reduceToNat, c0, c1]
  refine byte_go (D + 1) r hc hp rfl hr (by simp only; omega) (belowS_mono (by omega) hD) ?_
  have f1 := curI_le (c := c) hp 1
  have f2 := curI_le (c := c) hp 2
  have f3 := curI_le (c := c) hp 3
  rw [show curN c p = curI c p 1 from rfl]
  unfold curOb
  simp only [Try.ntmps12, Try.results12, push_cast, Nat.reduceAdd, Nat.reduceSub, Nat.reduceMul, Nat.reduceLeDiff, Nat.reduceEqDiff, Nat.reduceLT, Int.reduceLT, Int.reduceLE, Int.reduceEq, Int.reduceNeg, Int.reduceToNat, List.nil_append, List.append_nil, hu, hv, hr1, c2]
  refine byte_go (D + 1) r hc f1 rfl (hr1 _) (by simp only; omega) (hB _) ?_
  rw [show curN c (curI c p 1) = curI c p 2 from rfl]
  unfold curOb
  simp only [Try.ntmps12, Try.results12, push_cast, Nat.reduceAdd, Nat.reduceSub, Nat.reduceMul, Nat.reduceLeDiff, Nat.reduceEqDiff, Nat.reduceLT, Int.reduceLT, Int.reduceLE, Int.reduceEq, Int.reduceNeg, Int.reduceToNat, List.nil_append, List.append_nil, hu, hv, hr1, hs, c2]
  refine byte_go (D + 1) r hc f2 rfl (hr1 _) (by simp only; omega) (hB _) ?_
  rw [show curN c (curI c p 2) = curI c p 3 from rfl]
  unfold curOb
  simp only [Try.ntmps12, Try.results12, push_cast, Nat.reduceAdd, Nat.reduceSub, Nat.reduceMul, Nat.reduceLeDiff, Nat.reduceEqDiff, Nat.reduceLT, Int.reduceLT, Int.reduceLE, Int.reduceEq, Int.reduceNeg, Int.reduceToNat, List.nil_append, List.append_nil, hu, hv, hr1, hs, c2]
  refine byte_go (D + 1) r hc f3 rfl (hr1 _) (by simp only; omega) (hB _) ?_
  rw [show curN c (curI c p 3) = curI c p 4 from rfl]
  unfold curOb
  simp only [Try.ntmps12, Try.results12, push_cast, Nat.reduceAdd, Nat.reduceSub, Nat.reduceMul, Nat.reduceLeDiff, Nat.reduceEqDiff, Nat.reduceLT, Int.reduceLT, Int.reduceLE, Int.reduceEq, Int.reduceNeg, Int.reduceToNat, List.nil_append, List.append_nil, hu, hv, hr1, hs, c2]
  refine hK _ _ _ (Weak.refl _) rfl rfl rfl H

/-! ### a new cursor -/
def newK (c : List UInt8) : Nat → Int
  | 0 => IntKind.i64.wrap (27701 + c.length)
  | j + 1 => bits .and .i64 (IntKind.i64.wrap (IntKind.i64.wrap (IntKind.i64.wrap (newK c j * 131) + ((c.getD j 0).toNat : Int)) + 7)) 1073741823
def new0 (c : List UInt8) : Nat × Int := (0, newK c (min c.length 4000))
theorem new_go (D : Nat) {c : List UInt8} (hc : c.length ≤ 1048576)
    (ha : xsV [ev σ a] = some [.one (.sh 1 (byR c))]) (hd : σ.d ≤ D) (hD : belowS D σ.o = true)
    (H : GoL Try.prog l k (exitSt σ.t σ.d dst ⟨[], D, [((D, 1984), curOb c (new0 c))], σ.o⟩ [.one (.pt (D, 1984) [] 3 0 0)]) Q) :
    GoL Try.prog (⟨dst, .call { callee := .value (.func 10), args := #[a], argTypes := ats }, ty, none⟩ :: l) k σ Q := by
  refine GoL_inl2 D Try.func10 rfl (by decide) mo (by decide +kernel) rfl ha hd hD fun K hK => ?_
  generalize σ.o = s at hD H hK
  simp only [Try.ntmps10, Try.results10, push_cast, Nat.reduceAdd, Nat.reduceSub, Nat.reduceMul, Nat.reduceLeDiff, Nat.reduceEqDiff, Nat.reduceLT, Int.reduceLT, Int.reduceLE, Int.reduceEq, Int.reduceNeg, Int.reduceToNat]
  refine Go_loop (α := {i : Nat // i ≤ c.length ∧ i ≤ 4000})
    (fun i => ⟨tp 32 [(0, .x (.one (.sh 1 (byR c)))), (3, .x (i64 (newK c i.1))), (4, int i.1)], D, [], s⟩)
    (fun i => c.length - i.1) ⟨0, by omega, by omega⟩ ?_ ?_
  · exact Weak.same (by simp only [push_cast, Nat.reduceAdd, Nat.reduceSub, Nat.reduceMul, Nat.reduceLeDiff, Nat.reduceEqDiff, Nat.reduceLT, Int.reduceLT, Int.reduceLE, Int.reduceEq, Int.reduceNeg, Int.reduceToNat, Int.ofNat_zero, newK])
  · rintro ⟨i, hi, hi2⟩ X hX
    by_cases hlt : (i : Int) < (c.length : Int)
    · by_cases hl2 : (i : Int) < 4000
      · have hg := byR_getD c (show i < c.length by omega)
        have hlt' : i < c.length := by omega
        obtain ⟨i', hi'⟩ : ∃ i', i' = i + 1 := ⟨_, rfl⟩
        have hw : IntKind.i64.wrap ((i : Int) + 1) = (i' : Int) := wN (by omega) (by omega)
        have hb := u8_lt (c.getD i 0)
        have hw2 : IntKind.i64.wrap ((c.getD i 0).toNat : Int) = ((c.getD i 0).toNat : Int) := wN rfl (by omega)
        have hk : newK c i' = bits .and .i64 (IntKind.i64.wrap (IntKind.i64.wrap (IntKind.i64.wrap (newK c i * 131) + ((c.getD i 0).toNat : Int)) + 7)) 1073741823 := by rw [hi']; rfl
        simp only [push_cast, Nat.reduceAdd, Nat.reduceSub, Nat.reduceMul, Nat.reduceLeDiff, Nat.reduceEqDiff, Nat.reduceLT, Int.reduceLT, Int.reduceLE, Int.reduceEq, Int.reduceNeg, Int.reduceToNat, hlt, hl2, hlt', hg, hw, hw2, ← hk]
        refine ⟨_, ?_, hX ⟨i', by omega, by omega⟩ (by simp only; omega)⟩
        exact Weak.same (by simp only [push_cast, Nat.reduceAdd, Nat.reduceSub, Nat.reduceMul, Nat.reduceLeDiff, Nat.reduceEqDiff, Nat.reduceLT, Int.reduceLT, Int.reduceLE, Int.reduceEq, Int.reduceNeg, Int.reduceToNat])
      · have hm : min c.length 4000 = i := by omega
        simp only [new0, hm] at H
        simp only [Try.ntmps10, Try.results10, push_cast, Nat.reduceAdd, Nat.reduceSub, Nat.reduceMul, Nat.reduceLeDiff, Nat.reduceEqDiff, Nat.reduceLT, Int.reduceLT, Int.reduceLE, Int.reduceEq, Int.reduceNeg, Int.reduceToNat, hlt, hl2]
        refine hK _ _ _ (Weak.refl _) rfl rfl rfl H
    · have hm : min c.length 4000 = i := by omega
      simp only [new0, hm] at H
      simp only [Try.ntmps10, Try.results10, push_cast, Nat.reduceAdd, Nat.reduceSub, Nat.reduceMul, Nat.reduceLeDiff, Nat.reduceEqDiff, Nat.reduceLT, Int.reduceLT, Int.reduceLE, Int.reduceEq, Int.reduceNeg, Int.reduceToNat, hlt]
      refine hK _ _ _ (Weak.refl _) rfl rfl rfl H
end Go.Proofs.Yteflbcdjlphnjaa
