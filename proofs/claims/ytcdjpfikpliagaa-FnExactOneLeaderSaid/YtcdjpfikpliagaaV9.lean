/- OneLeader: by its code; its law. -/
import Derived.Test.YtcdjpfikpliagaaV8
import Derived.Test.YtcdjpfikpliagaaV2
namespace Go.Proofs.Ytcdjpfikpliagaa
open Go.RowKit Go.Rx
set_option linter.unusedSimpArgs false
set_option maxRecDepth 100000

/-! ### no index has two entries -/
def ixL (l : List Ld) (i : Nat) : Int := (l.getD i default).term
def enL (l : List Ld) (i : Nat) : Int := (l.getD i default).node
def clashL (l : List Ld) (i k : Nat) : Prop := ixL l i = ixL l k ∧ enL l i ≠ enL l k
instance (l : List Ld) (i k : Nat) : Decidable (clashL l i k) := by unfold clashL; infer_instance
def fineL (l : List Ld) (n : Nat) : Prop := ∀ i, i < n → ∀ k, k < i → ¬ clashL l i k
instance (l : List Ld) (n : Nat) : Decidable (fineL l n) := by unfold fineL; infer_instance
def olB (l : List Ld) : Bool := decide (fineL l l.length)
theorem olB_no {l : List Ld} {i k : Nat} (hi : i < l.length) (hk : k < i) (h : clashL l i k) : olB l = false := decide_eq_false fun hf => hf i hi k hk h
theorem oneLeaderS_ok (l : List Ld) (hl : l.length ≤ 1048576) : PureFn Try.prog 12 [.one (.sh 5 (ldR (.sh 3) l))] [bo (olB l)] := by
  refine PureFn_of_Go Try.func12 rfl (by decide) mo (by decide +kernel) ?_
  obtain ⟨r, hr⟩ : ∃ r, r = olB l := ⟨_, rfl⟩
  rw [← hr]
  simp only [Try.ntmps12, Try.results12, push_cast, Nat.reduceAdd, Nat.reduceSub, Nat.reduceMul, Nat.reduceLeDiff, Nat.reduceEqDiff, Nat.reduceLT, Int.reduceLT, Int.reduceLE, Int.reduceEq, Int.reduceNeg, Int.reduceToNat]
  refine Go_loop (α := {i : Nat // i ≤ l.length ∧ fineL l i})
    (fun i => ⟨tp 40 [(0, .x (.one (.sh 5 (ldR (.sh 3) l)))), (3, int i.1)], 0, [], []⟩) (fun i => l.length - i.1) ⟨0, by omega, fun i h => by omega⟩ ?_ ?_
  · exact Weak.drop (by simp only [push_cast, Nat.reduceAdd, Nat.reduceSub, Nat.reduceMul, Nat.reduceLeDiff, Nat.reduceEqDiff, Nat.reduceLT, Int.reduceLT, Int.reduceLE, Int.reduceEq, Int.reduceNeg, Int.reduceToNat, Int.ofNat_zero]) (by simp only [push_cast, Nat.reduceAdd, Nat.reduceSub, Nat.reduceMul, Nat.reduceLeDiff, Nat.reduceEqDiff, Nat.reduceLT, Int.reduceLT, Int.reduceLE, Int.reduceEq, Int.reduceNeg, Int.reduceToNat, Int.ofNat_zero]) (by simp only [push_cast, Nat.reduceAdd, Nat.reduceSub, Nat.reduceMul, Nat.reduceLeDiff, Nat.reduceEqDiff, Nat.reduceLT, Int.reduceLT, Int.reduceLE, Int.reduceEq, Int.reduceNeg, Int.reduceToNat, Int.ofNat_zero])
  · rintro ⟨i, hi, hfine⟩ X hX
    by_cases hlt : (i : Int) < (l.length : Int)
    · have hi' : i < l.length := by omega
      have ws := wsucc hi' (by omega)
      have hgi := ldR_getD (.sh 3) l hi'
      obtain ⟨a, ha⟩ : ∃ a, a = l.getD i default := ⟨_, rfl⟩
      have hai : ixL l i = a.term := by rw [ixL, ← ha]
      have hae : enL l i = a.node := by rw [enL, ← ha]
      rw [← ha] at hgi
      obtain ⟨i', hi1⟩ : ∃ i', i' = i + 1 := ⟨_, rfl⟩
      rw [← hi1] at ws
      simp only [push_cast, Nat.reduceAdd, Nat.reduceSub, Nat.reduceMul, Nat.reduceLeDiff, Nat.reduceEqDiff, Nat.reduceLT, Int.reduceLT, Int.reduceLE, Int.reduceEq, Int.reduceNeg, Int.reduceToNat, ldR_length, hlt]
      refine Go_loop (α := {k : Nat // k ≤ i ∧ ∀ k', k' < k → ¬ clashL l i k'})
        (fun k => ⟨tp 40 [(0, .x (.one (.sh 5 (ldR (.sh 3) l)))), (3, int i), (4, int k.1)], 0, [], []⟩) (fun k => i - k.1) ⟨0, by omega, fun k h => by omega⟩ ?_ ?_
      · exact Weak.drop (by simp only [push_cast, Nat.reduceAdd, Nat.reduceSub, Nat.reduceMul, Nat.reduceLeDiff, Nat.reduceEqDiff, Nat.reduceLT, Int.reduceLT, Int.reduceLE, Int.reduceEq, Int.reduceNeg, Int.reduceToNat, Int.ofNat_zero]) (by simp only [push_cast, Nat.reduceAdd, Nat.reduceSub, Nat.reduceMul, Nat.reduceLeDiff, Nat.reduceEqDiff, Nat.reduceLT, Int.reduceLT, Int.reduceLE, Int.reduceEq, Int.reduceNeg, Int.reduceToNat, Int.ofNat_zero]) (by simp only [push_cast, Nat.reduceAdd, Nat.reduceSub, Nat.reduceMul, Nat.reduceLeDiff, Nat.reduceEqDiff, Nat.reduceLT, Int.reduceLT, Int.reduceLE, Int.reduceEq, Int.reduceNeg, Int.reduceToNat, Int.ofNat_zero])
      · rintro ⟨k, hk, hno⟩ Y hY
        by_cases hkt : (k : Int) < (i : Int)
        · have hk' : k < i := by omega
          have hkl : k < l.length := by omega
          have hkL : (k : Int) < (l.length : Int) := by omega
          have wk := wsucc hkl (by omega)
          have hgk := ldR_getD (.sh 3) l hkl
          obtain ⟨b, hb⟩ : ∃ b, b = l.getD k default := ⟨_, rfl⟩
          have hbi : ixL l k = b.term := by rw [ixL, ← hb]
          have hbe : enL l k = b.node := by rw [enL, ← hb]
          rw [← hb] at hgk
          obtain ⟨k', hk1⟩ : ∃ k', k' = k + 1 := ⟨_, rfl⟩
          rw [← hk1] at wk
          have next : ¬ clashL l i k → ∀ k2, k2 < k' → ¬ clashL l i k2 := fun h k2 hk2 => by
            by_cases e : k2 = k
            · rw [e]; exact h
            · exact hno k2 (by omega)
          cases c1 : decide (a.term = b.term) with
          | false =>
            have hc : ¬ clashL l i k := fun h => by
              simp only [decide_eq_false_iff_not] at c1
              exact c1 (by rw [← hai, ← hbi]; exact h.1)
            simp only [push_cast, Nat.reduceAdd, Nat.reduceSub, Nat.reduceMul, Nat.reduceLeDiff, Nat.reduceEqDiff, Nat.reduceLT, Int.reduceLT, Int.reduceLE, Int.reduceEq, Int.reduceNeg, Int.reduceToNat, ldR_length, hlt, hkL, hkt, hi', hkl, hgi, hgk, ldC, c1, wk]
            refine ⟨_, ?_, hY ⟨k', by omega, next hc⟩ (by simp only; omega)⟩
            exact Weak.drop (by simp only [push_cast, Nat.reduceAdd, Nat.reduceSub, Nat.reduceMul, Nat.reduceLeDiff, Nat.reduceEqDiff, Nat.reduceLT, Int.reduceLT, Int.reduceLE, Int.reduceEq, Int.reduceNeg, Int.reduceToNat]) (by simp only [push_cast, Nat.reduceAdd, Nat.reduceSub, Nat.reduceMul, Nat.reduceLeDiff, Nat.reduceEqDiff, Nat.reduceLT, Int.reduceLT, Int.reduceLE, Int.reduceEq, Int.reduceNeg, Int.reduceToNat]) (by simp only [push_cast, Nat.reduceAdd, Nat.reduceSub, Nat.reduceMul, Nat.reduceLeDiff, Nat.reduceEqDiff, Nat.reduceLT, Int.reduceLT, Int.reduceLE, Int.reduceEq, Int.reduceNeg, Int.reduceToNat])
          | true =>
            simp only [decide_eq_true_eq] at c1
            cases c2 : decide (a.node = b.node) with
            | true =>
              have hc : ¬ clashL l i k := fun h => by
                simp only [decide_eq_true_eq] at c2
                exact h.2 (by rw [hae, hbe]; exact c2)
              simp only [push_cast, Nat.reduceAdd, Nat.reduceSub, Nat.reduceMul, Nat.reduceLeDiff, Nat.reduceEqDiff, Nat.reduceLT, Int.reduceLT, Int.reduceLE, Int.reduceEq, Int.reduceNeg, Int.reduceToNat, ldR_length, hlt, hkL, hkt, hi', hkl, hgi, hgk, ldC, c1, c2, wk, decide_not]
              refine ⟨_, ?_, hY ⟨k', by omega, next hc⟩ (by simp only; omega)⟩
              exact Weak.drop (by simp only [push_cast, Nat.reduceAdd, Nat.reduceSub, Nat.reduceMul, Nat.reduceLeDiff, Nat.reduceEqDiff, Nat.reduceLT, Int.reduceLT, Int.reduceLE, Int.reduceEq, Int.reduceNeg, Int.reduceToNat]) (by simp only [push_cast, Nat.reduceAdd, Nat.reduceSub, Nat.reduceMul, Nat.reduceLeDiff, Nat.reduceEqDiff, Nat.reduceLT, Int.reduceLT, Int.reduceLE, Int.reduceEq, Int.reduceNeg, Int.reduceToNat]) (by simp only [push_cast, Nat.reduceAdd, Nat.reduceSub, Nat.reduceMul, Nat.reduceLeDiff, Nat.reduceEqDiff, Nat.reduceLT, Int.reduceLT, Int.reduceLE, Int.reduceEq, Int.reduceNeg, Int.reduceToNat])
            | false =>
              have hc : clashL l i k := by
                simp only [decide_eq_false_iff_not] at c2
                exact ⟨by rw [hai, hbi]; exact c1, by rw [hae, hbe]; exact c2⟩
              rw [olB_no hi' hk' hc] at hr
              subst hr
              simp only [Try.ntmps12, Try.results12, push_cast, Nat.reduceAdd, Nat.reduceSub, Nat.reduceMul, Nat.reduceLeDiff, Nat.reduceEqDiff, Nat.reduceLT, Int.reduceLT, Int.reduceLE, Int.reduceEq, Int.reduceNeg, Int.reduceToNat, ldR_length, hlt, hkL, hkt, hi', hkl, hgi, hgk, ldC, c1, c2, decide_not]
        · have hki : k = i := by omega
          simp only [push_cast, Nat.reduceAdd, Nat.reduceSub, Nat.reduceMul, Nat.reduceLeDiff, Nat.reduceEqDiff, Nat.reduceLT, Int.reduceLT, Int.reduceLE, Int.reduceEq, Int.reduceNeg, Int.reduceToNat, hkt, ws]
          refine ⟨_, ?_, hX ⟨i', by omega, fun i2 h2 k2 hk2 => ?_⟩ (by simp only; omega)⟩
          · exact Weak.drop (by simp only [push_cast, Nat.reduceAdd, Nat.reduceSub, Nat.reduceMul, Nat.reduceLeDiff, Nat.reduceEqDiff, Nat.reduceLT, Int.reduceLT, Int.reduceLE, Int.reduceEq, Int.reduceNeg, Int.reduceToNat]) (by simp only [push_cast, Nat.reduceAdd, Nat.reduceSub, Nat.reduceMul, Nat.reduceLeDiff, Nat.reduceEqDiff, Nat.reduceLT, Int.reduceLT, Int.reduceLE, Int.reduceEq, Int.reduceNeg, Int.reduceToNat]) (by simp only [push_cast, Nat.reduceAdd, Nat.reduceSub, Nat.reduceMul, Nat.reduceLeDiff, Nat.reduceEqDiff, Nat.reduceLT, Int.reduceLT, Int.reduceLE, Int.reduceEq, Int.reduceNeg, Int.reduceToNat])
          · by_cases e : i2 = i
            · rw [e] at hk2 ⊢; exact hno k2 (by omega)
            · exact hfine i2 (by omega) k2 hk2
    · have hie : i = l.length := by omega
      have ht : r = true := by rw [hr, olB]; exact decide_eq_true (hie ▸ hfine)
      subst ht
      simp only [Try.ntmps12, Try.results12, push_cast, Nat.reduceAdd, Nat.reduceSub, Nat.reduceMul, Nat.reduceLeDiff, Nat.reduceEqDiff, Nat.reduceLT, Int.reduceLT, Int.reduceLE, Int.reduceEq, Int.reduceNeg, Int.reduceToNat, ldR_length, hlt]


def iV (n : Int) : Value := .int .i64 n
theorem iV_inj {a b : Int} (h : iV a = iV b) : a = b := by simpa [iV] using h
/-- The map holds what the first ones say. -/
def HoldsL (l : List Ld) (n : Nat) (L : List (Int × Value)) : Prop := (∀ k, k < n → findI (ixL l k) L = some (iV (enL l k))) ∧ ∀ key v, findI key L = some v → ∃ k, k < n ∧ ixL l k = key ∧ v = iV (enL l k)
theorem HoldsL.nil (l : List Ld) : HoldsL l 0 [] := ⟨fun k h => by omega, fun key v h => by cases h⟩
theorem HoldsL.put {l : List Ld} {n : Nat} {L : List (Int × Value)} (h : HoldsL l n L) (hf : ∀ k, k < n → ¬ clashL l n k) : HoldsL l (n + 1) (putI (ixL l n) (iV (enL l n)) L) := by
  refine ⟨fun k hk => ?_, fun key v hv => ?_⟩
  · rw [findI_put]
    by_cases c : ixL l k = ixL l n
    · rw [if_pos c]
      by_cases e : k = n
      · rw [e]
      · have := hf k (by omega)
        congr 2
        exact Classical.byContradiction fun hne => this ⟨c.symm, hne⟩
    · rw [if_neg c]
      have e : k ≠ n := fun e => c (by rw [e])
      exact h.1 k (by omega)
  · rw [findI_put] at hv
    split at hv
    · rename_i c
      cases hv
      exact ⟨n, by omega, c.symm, rfl⟩
    · obtain ⟨k, h1, h2, h3⟩ := h.2 key v hv
      exact ⟨k, by omega, h2, h3⟩
theorem clashL_of {l : List Ld} {n : Nat} {L : List (Int × Value)} (h : HoldsL l n L) {v : Value} (hv : findI (ixL l n) L = some v) (e : Int) (he : v = iV e) :
    (e = enL l n → ∀ k, k < n → ¬ clashL l n k) ∧ (e ≠ enL l n → ∃ k, k < n ∧ clashL l n k) := by
  refine ⟨fun h1 k hk hc => ?_, fun h1 => ?_⟩
  · have h2 := h.1 k hk
    rw [← hc.1, hv, he] at h2
    have := iV_inj (Option.some.inj h2)
    exact hc.2 (by rw [← this, h1])
  · obtain ⟨k, hk, h2, h3⟩ := h.2 _ v hv
    refine ⟨k, hk, h2.symm, fun h4 => h1 ?_⟩
    have := iV_inj (he.symm.trans h3)
    rw [this, h4]
theorem no_clashL {l : List Ld} {n : Nat} {L : List (Int × Value)} (h : HoldsL l n L) (hv : findI (ixL l n) L = none) : ∀ k, k < n → ¬ clashL l n k := fun k hk hc => by
  have := h.1 k hk
  rw [← hc.1, hv] at this
  cases this
theorem toX_int (k : IntKind) (n : Int) : toX (.int k n) = .one (.v (.int k n)) := rfl
theorem oneLeaderI_ok (l : List Ld) (hl : l.length ≤ 1048576) : PureFn Try.prog 14 [.one (.sh 5 (ldR (.sh 3) l))] [bo (olB l)] := by
  refine PureFn_of_Go Try.func14 rfl (by decide) mo (by decide +kernel) ?_
  obtain ⟨r, hr⟩ : ∃ r, r = olB l := ⟨_, rfl⟩
  rw [← hr]
  simp only [Try.ntmps14, Try.results14, push_cast, Nat.reduceAdd, Nat.reduceSub, Nat.reduceMul, Nat.reduceLeDiff, Nat.reduceEqDiff, Nat.reduceLT, Int.reduceLT, Int.reduceLE, Int.reduceEq, Int.reduceNeg, Int.reduceToNat]
  refine GoL_makeMap rfl rfl fun b => ?_
  simp only [Try.ntmps14, Try.results14, push_cast, Nat.reduceAdd, Nat.reduceSub, Nat.reduceMul, Nat.reduceLeDiff, Nat.reduceEqDiff, Nat.reduceLT, Int.reduceLT, Int.reduceLE, Int.reduceEq, Int.reduceNeg, Int.reduceToNat, ldR_length]
  refine Go_loop (α := {p : Nat × List (Int × Value) // p.1 ≤ l.length ∧ HoldsL l p.1 p.2 ∧ fineL l p.1})
    (fun p => ⟨tp 35 [(2, .x (bo false)), (3, .x (.one (.v (.map (some b))))), (9, .x (.one (.sh 5 (ldR (.sh 3) l)))), (10, int l.length), (11, int p.1.1)], 0, [((0, 512), ⟨.mp b (mpI .i64 p.1.2), 0, []⟩)], []⟩)
    (fun p => l.length - p.1.1) ⟨(0, []), by simp only; omega, HoldsL.nil l, fun i h => by simp only at h; omega⟩ ?_ ?_
  · exact Weak.same (by simp only [push_cast, Nat.reduceAdd, Nat.reduceSub, Nat.reduceMul, Nat.reduceLeDiff, Nat.reduceEqDiff, Nat.reduceLT, Int.reduceLT, Int.reduceLE, Int.reduceEq, Int.reduceNeg, Int.reduceToNat, Int.ofNat_zero])
  · rintro ⟨⟨i, L⟩, hi, hH, hfine⟩ X hX
    simp only at hi hH hfine
    by_cases hlt : (i : Int) < (l.length : Int)
    · have hi' : i < l.length := by omega
      have ws := wsucc hi' (by omega)
      have hgi := ldR_getD (.sh 3) l hi'
      obtain ⟨a, ha⟩ : ∃ a, a = l.getD i default := ⟨_, rfl⟩
      have hai : ixL l i = a.term := by rw [ixL, ← ha]
      have hae : enL l i = a.node := by rw [enL, ← ha]
      rw [← ha] at hgi
      obtain ⟨i', hi1⟩ : ∃ i', i' = i + 1 := ⟨_, rfl⟩
      rw [← hi1] at ws
      simp only [push_cast, Nat.reduceAdd, Nat.reduceSub, Nat.reduceMul, Nat.reduceLeDiff, Nat.reduceEqDiff, Nat.reduceLT, Int.reduceLT, Int.reduceLE, Int.reduceEq, Int.reduceNeg, Int.reduceToNat, ldR_length, hlt, hi', hgi, ldC]
      refine GoL_lookup (0, 512) (b := b) (L := L) (key := a.term) (z := .int .i64 0) rfl rfl rfl rfl Try.underlying66 (by kernel_rfl) (by kernel_rfl) ?_
      cases hf : findI a.term L with
      | none =>
        have hno := no_clashL hH (by rw [hai]; exact hf)
        have hH' := hH.put hno
        rw [hai, hae, ← hi1] at hH'
        simp only [push_cast, Nat.reduceAdd, Nat.reduceSub, Nat.reduceMul, Nat.reduceLeDiff, Nat.reduceEqDiff, Nat.reduceLT, Int.reduceLT, Int.reduceLE, Int.reduceEq, Int.reduceNeg, Int.reduceToNat, toX_int]
        refine GoL_mapUpdate (0, 512) (b := b) (L := L) (key := a.term) (v := iV a.node) rfl rfl rfl rfl rfl Try.underlying66 (by kernel_rfl) ?_
        simp only [push_cast, Nat.reduceAdd, Nat.reduceSub, Nat.reduceMul, Nat.reduceLeDiff, Nat.reduceEqDiff, Nat.reduceLT, Int.reduceLT, Int.reduceLE, Int.reduceEq, Int.reduceNeg, Int.reduceToNat, ws]
        refine ⟨_, ?_, hX ⟨(i', _), by simp only; omega, hH', fun i2 h2 k2 hk2 => ?_⟩ (by simp only; omega)⟩
        · exact Weak.drop (by simp only [push_cast, Nat.reduceAdd, Nat.reduceSub, Nat.reduceMul, Nat.reduceLeDiff, Nat.reduceEqDiff, Nat.reduceLT, Int.reduceLT, Int.reduceLE, Int.reduceEq, Int.reduceNeg, Int.reduceToNat]) (by simp only [push_cast, Nat.reduceAdd, Nat.reduceSub, Nat.reduceMul, Nat.reduceLeDiff, Nat.reduceEqDiff, Nat.reduceLT, Int.reduceLT, Int.reduceLE, Int.reduceEq, Int.reduceNeg, Int.reduceToNat]) (by simp only [push_cast, Nat.reduceAdd, Nat.reduceSub, Nat.reduceMul, Nat.reduceLeDiff, Nat.reduceEqDiff, Nat.reduceLT, Int.reduceLT, Int.reduceLE, Int.reduceEq, Int.reduceNeg, Int.reduceToNat])
        · by_cases e : i2 = i
          · rw [e] at hk2 ⊢; exact hno k2 hk2
          · exact hfine i2 (by simp only at h2; omega) k2 hk2
      | some v =>
        obtain ⟨k, hk, hki, hkv⟩ := hH.2 _ v hf
        obtain ⟨f, hfe⟩ : ∃ f, f = enL l k := ⟨_, rfl⟩
        rw [← hfe] at hkv
        obtain ⟨hyes, hbad⟩ := clashL_of hH (by rw [hai]; exact hf) f hkv
        rw [hae] at hyes hbad
        subst hkv
        cases c1 : decide (f = a.node) with
        | true =>
          have hno := hyes (of_decide_eq_true c1)
          have hH' := hH.put hno
          rw [hai, hae, ← hi1] at hH'
          simp only [push_cast, Nat.reduceAdd, Nat.reduceSub, Nat.reduceMul, Nat.reduceLeDiff, Nat.reduceEqDiff, Nat.reduceLT, Int.reduceLT, Int.reduceLE, Int.reduceEq, Int.reduceNeg, Int.reduceToNat, iV, toX_int, decide_not, c1]
          refine GoL_mapUpdate (0, 512) (b := b) (L := L) (key := a.term) (v := iV a.node) rfl rfl rfl rfl rfl Try.underlying66 (by kernel_rfl) ?_
          simp only [push_cast, Nat.reduceAdd, Nat.reduceSub, Nat.reduceMul, Nat.reduceLeDiff, Nat.reduceEqDiff, Nat.reduceLT, Int.reduceLT, Int.reduceLE, Int.reduceEq, Int.reduceNeg, Int.reduceToNat, ws]
          refine ⟨_, ?_, hX ⟨(i', _), by simp only; omega, hH', fun i2 h2 k2 hk2 => ?_⟩ (by simp only; omega)⟩
          · exact Weak.drop (by simp only [push_cast, Nat.reduceAdd, Nat.reduceSub, Nat.reduceMul, Nat.reduceLeDiff, Nat.reduceEqDiff, Nat.reduceLT, Int.reduceLT, Int.reduceLE, Int.reduceEq, Int.reduceNeg, Int.reduceToNat]) (by simp only [push_cast, Nat.reduceAdd, Nat.reduceSub, Nat.reduceMul, Nat.reduceLeDiff, Nat.reduceEqDiff, Nat.reduceLT, Int.reduceLT, Int.reduceLE, Int.reduceEq, Int.reduceNeg, Int.reduceToNat]) (by simp only [push_cast, Nat.reduceAdd, Nat.reduceSub, Nat.reduceMul, Nat.reduceLeDiff, Nat.reduceEqDiff, Nat.reduceLT, Int.reduceLT, Int.reduceLE, Int.reduceEq, Int.reduceNeg, Int.reduceToNat])
          · by_cases e : i2 = i
            · rw [e] at hk2 ⊢; exact hno k2 hk2
            · exact hfine i2 (by simp only at h2; omega) k2 hk2
        | false =>
          obtain ⟨k2, hk2, hc⟩ := hbad (of_decide_eq_false c1)
          rw [olB_no hi' hk2 hc] at hr
          subst hr
          simp only [Try.ntmps14, Try.results14, push_cast, Nat.reduceAdd, Nat.reduceSub, Nat.reduceMul, Nat.reduceLeDiff, Nat.reduceEqDiff, Nat.reduceLT, Int.reduceLT, Int.reduceLE, Int.reduceEq, Int.reduceNeg, Int.reduceToNat, iV, toX_int, decide_not, c1]
    · have hie : i = l.length := by omega
      have ht : r = true := by rw [hr, olB]; exact decide_eq_true (hie ▸ hfine)
      subst ht
      simp only [Try.ntmps14, Try.results14, push_cast, Nat.reduceAdd, Nat.reduceSub, Nat.reduceMul, Nat.reduceLeDiff, Nat.reduceEqDiff, Nat.reduceLT, Int.reduceLT, Int.reduceLE, Int.reduceEq, Int.reduceNeg, Int.reduceToNat, ldR_length, hlt]

/-! ### the law -/
theorem ents_dec (R : List (List C)) (h : ∀ r ∈ R, HasKt (.st [.int .i64, .int .i64, .str]) r) : ∃ l : List Ent, R = vR (ents l) ∧ ∀ e ∈ l, e.data.size ≤ 140737488355328 := by
  obtain ⟨xs, rfl, hx⟩ := rows_dec entC (fun e => e.data.size ≤ 140737488355328) (K := .st [.int .i64, .int .i64, .str]) (fun r hr => by
    simp only [HasKt, HasKts] at hr
    obtain ⟨_, _, rfl, ⟨d, rfl, _⟩, _, _, rfl, ⟨e, rfl, _⟩, _, _, rfl, ⟨f, rfl, hf⟩, rfl⟩ := hr
    exact ⟨⟨d, e, f⟩, rfl, Nat.le_trans hf (by decide)⟩) R h
  exact ⟨xs, by simp [vR, ents, entV, entC], hx⟩
abbrev ldK : Kt := .st [.int .i64, .int .i64, .st [.int .i64, .int .i64, .sl 3 32 (.st [.int .i64, .int .i64, .str])]]
theorem ldR_dec (R : List (List C)) (h : ∀ r ∈ R, HasKt ldK r) : ∃ l : List Ld, R = ldR (.sh 3) l ∧ ∀ a ∈ l, SmallE a.es := by
  obtain ⟨xs, rfl, hx⟩ := rows_dec (ldC (.sh 3)) (fun a => SmallE a.es) (K := ldK) (fun r hr => by
    simp only [HasKt, HasKts, reachBytes] at hr
    obtain ⟨_, _, rfl, ⟨a, rfl, _⟩, _, _, rfl, ⟨b, rfl, _⟩, _, _, rfl, ⟨_, _, rfl, ⟨c, rfl, _⟩, _, _, rfl, ⟨d, rfl, _⟩, _, _, rfl, ⟨R1, rfl, hR1, _, hr1⟩, rfl⟩, rfl⟩ := hr
    obtain ⟨es, rfl, hes⟩ := ents_dec R1 hr1
    rw [vR_length, ents_length] at hR1
    exact ⟨⟨a, b, c, d, es⟩, rfl, by simp only; omega, hes⟩) R h
  exact ⟨xs, rfl, hx⟩
set_option maxHeartbeats 1000000 in
theorem lawOneLeader_ok (l : List Ld) (hl : SmallL l) : PureFn Try.prog 4 [.one (.sh 5 (ldR (.sh 3) l))] [bo true] := by
  refine PureFn_of_Go Try.func4 rfl (by decide) mo (by decide +kernel) ?_
  obtain ⟨r, a1, a3, k0⟩ := szLeaderS_ok l hl 1048576 (by decide) (by decide)
  by_cases c0 : r < 0
  · simp only [Try.ntmps4, Try.results4, push_cast, Nat.reduceAdd, Nat.reduceSub, Nat.reduceMul, Nat.reduceLeDiff, Nat.reduceEqDiff, Nat.reduceLT, Int.reduceLT, Int.reduceLE, Int.reduceEq, Int.reduceNeg, Int.reduceToNat]
    refine GoL_call rfl rfl k0 rfl rfl ?_
    simp only [Try.ntmps4, Try.results4, push_cast, Nat.reduceAdd, Nat.reduceSub, Nat.reduceMul, Nat.reduceLeDiff, Nat.reduceEqDiff, Nat.reduceLT, Int.reduceLT, Int.reduceLE, Int.reduceEq, Int.reduceNeg, Int.reduceToNat, c0]
  · obtain ⟨hlen, hes⟩ := a3 (by omega)
    have k1 := toLeaderS_ok l hlen hes
    have k2 := oneLeaderS_ok l hlen
    have k3 := oneLeaderI_ok l hlen
    have k4 := eqLeaderS_ok l hlen hes
    obtain ⟨b, hb⟩ : ∃ b, b = olB l := ⟨_, rfl⟩
    rw [← hb] at k2 k3
    simp only [Try.ntmps4, Try.results4, push_cast, Nat.reduceAdd, Nat.reduceSub, Nat.reduceMul, Nat.reduceLeDiff, Nat.reduceEqDiff, Nat.reduceLT, Int.reduceLT, Int.reduceLE, Int.reduceEq, Int.reduceNeg, Int.reduceToNat]
    refine GoL_call rfl rfl k0 rfl rfl ?_
    simp only [Try.ntmps4, Try.results4, push_cast, Nat.reduceAdd, Nat.reduceSub, Nat.reduceMul, Nat.reduceLeDiff, Nat.reduceEqDiff, Nat.reduceLT, Int.reduceLT, Int.reduceLE, Int.reduceEq, Int.reduceNeg, Int.reduceToNat, c0]
    refine GoL_call rfl rfl k1 (by simp only [push_cast, Nat.reduceAdd, Nat.reduceSub, Nat.reduceMul, Nat.reduceLeDiff, Nat.reduceEqDiff, Nat.reduceLT, Int.reduceLT, Int.reduceLE, Int.reduceEq, Int.reduceNeg, Int.reduceToNat, ldR_po]) rfl ?_
    simp only [Try.ntmps4, Try.results4, push_cast, Nat.reduceAdd, Nat.reduceSub, Nat.reduceMul, Nat.reduceLeDiff, Nat.reduceEqDiff, Nat.reduceLT, Int.reduceLT, Int.reduceLE, Int.reduceEq, Int.reduceNeg, Int.reduceToNat, ldR_length]
    refine GoL_call rfl (by simp only [push_cast, Nat.reduceAdd, Nat.reduceSub, Nat.reduceMul, Nat.reduceLeDiff, Nat.reduceEqDiff, Nat.reduceLT, Int.reduceLT, Int.reduceLE, Int.reduceEq, Int.reduceNeg, Int.reduceToNat, ldR_take, ldR_ts]) k2 rfl rfl ?_
    simp only [Try.ntmps4, Try.results4, push_cast, Nat.reduceAdd, Nat.reduceSub, Nat.reduceMul, Nat.reduceLeDiff, Nat.reduceEqDiff, Nat.reduceLT, Int.reduceLT, Int.reduceLE, Int.reduceEq, Int.reduceNeg, Int.reduceToNat, ldR_length]
    refine GoL_call rfl rfl k1 (by simp only [push_cast, Nat.reduceAdd, Nat.reduceSub, Nat.reduceMul, Nat.reduceLeDiff, Nat.reduceEqDiff, Nat.reduceLT, Int.reduceLT, Int.reduceLE, Int.reduceEq, Int.reduceNeg, Int.reduceToNat, ldR_po]) rfl ?_
    simp only [Try.ntmps4, Try.results4, push_cast, Nat.reduceAdd, Nat.reduceSub, Nat.reduceMul, Nat.reduceLeDiff, Nat.reduceEqDiff, Nat.reduceLT, Int.reduceLT, Int.reduceLE, Int.reduceEq, Int.reduceNeg, Int.reduceToNat, ldR_length]
    refine GoL_call rfl (by simp only [push_cast, Nat.reduceAdd, Nat.reduceSub, Nat.reduceMul, Nat.reduceLeDiff, Nat.reduceEqDiff, Nat.reduceLT, Int.reduceLT, Int.reduceLE, Int.reduceEq, Int.reduceNeg, Int.reduceToNat, ldR_take, ldR_ts]) k3 rfl rfl ?_
    simp only [Try.ntmps4, Try.results4, push_cast, Nat.reduceAdd, Nat.reduceSub, Nat.reduceMul, Nat.reduceLeDiff, Nat.reduceEqDiff, Nat.reduceLT, Int.reduceLT, Int.reduceLE, Int.reduceEq, Int.reduceNeg, Int.reduceToNat, ldR_length]
    refine GoL_call rfl rfl k1 (by simp only [push_cast, Nat.reduceAdd, Nat.reduceSub, Nat.reduceMul, Nat.reduceLeDiff, Nat.reduceEqDiff, Nat.reduceLT, Int.reduceLT, Int.reduceLE, Int.reduceEq, Int.reduceNeg, Int.reduceToNat, ldR_po]) rfl ?_
    simp only [Try.ntmps4, Try.results4, push_cast, Nat.reduceAdd, Nat.reduceSub, Nat.reduceMul, Nat.reduceLeDiff, Nat.reduceEqDiff, Nat.reduceLT, Int.reduceLT, Int.reduceLE, Int.reduceEq, Int.reduceNeg, Int.reduceToNat, ldR_length]
    refine GoL_call rfl (by simp only [push_cast, Nat.reduceAdd, Nat.reduceSub, Nat.reduceMul, Nat.reduceLeDiff, Nat.reduceEqDiff, Nat.reduceLT, Int.reduceLT, Int.reduceLE, Int.reduceEq, Int.reduceNeg, Int.reduceToNat, ldR_take, ldR_ts]) k4 rfl rfl ?_
    simp only [Try.ntmps4, Try.results4, push_cast, Nat.reduceAdd, Nat.reduceSub, Nat.reduceMul, Nat.reduceLeDiff, Nat.reduceEqDiff, Nat.reduceLT, Int.reduceLT, Int.reduceLE, Int.reduceEq, Int.reduceNeg, Int.reduceToNat, ldR_length]
theorem lawOneLeader (xs : List X) (h : HasXs [.sl 5 56 ldK] xs) : PureFn Try.prog 4 xs [.one (.v (.bool true))] := by
  obtain ⟨x, _, rfl, ⟨c, rfl, hc⟩, rfl⟩ := h
  simp only [HasKt, reachBytes] at hc
  obtain ⟨R, hR, h1, _, h2⟩ := hc
  cases hR
  obtain ⟨l, rfl, h3⟩ := ldR_dec R h2
  rw [ldR_length] at h1
  exact lawOneLeader_ok l ⟨by omega, h3⟩
end Go.Proofs.Ytcdjpfikpliagaa
