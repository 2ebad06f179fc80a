/- SameApplied: by its code; its law. -/
import Derived.Test.YtcdjpfikpliagaaV1
namespace Go.Proofs.Ytcdjpfikpliagaa
open Go.RowKit Go.Rx
set_option linter.unusedSimpArgs false
set_option maxRecDepth 100000

/-! ### no index has two entries -/
def ix (l : List Ap) (i : Nat) : Int := (l.getD i default).index
def en (l : List Ap) (i : Nat) : Ent := (l.getD i default).e
def clash (l : List Ap) (i k : Nat) : Prop := ix l i = ix l k ∧ en l i ≠ en l k
instance (l : List Ap) (i k : Nat) : Decidable (clash l i k) := by unfold clash; infer_instance
def fine (l : List Ap) (n : Nat) : Prop := ∀ i, i < n → ∀ k, k < i → ¬ clash l i k
instance (l : List Ap) (n : Nat) : Decidable (fine l n) := by unfold fine; infer_instance
def saB (l : List Ap) : Bool := decide (fine l l.length)
theorem saB_no {l : List Ap} {i k : Nat} (hi : i < l.length) (hk : k < i) (h : clash l i k) : saB l = false := decide_eq_false fun hf => hf i hi k hk h
theorem sameAppliedS_ok (l : List Ap) (hl : l.length ≤ 1048576) : PureFn Try.prog 7 [.one (.sh 6 (vR (aps l)))] [bo (saB l)] := by
  refine PureFn_of_Go Try.func7 rfl (by decide) mo (by decide +kernel) ?_
  obtain ⟨r, hr⟩ : ∃ r, r = saB l := ⟨_, rfl⟩
  rw [← hr]
  simp only [Try.ntmps7, Try.results7, push_cast, Nat.reduceAdd, Nat.reduceSub, Nat.reduceMul, Nat.reduceLeDiff, Nat.reduceEqDiff, Nat.reduceLT, Int.reduceLT, Int.reduceLE, Int.reduceEq, Int.reduceNeg, Int.reduceToNat]
  refine Go_loop (α := {i : Nat // i ≤ l.length ∧ fine l i})
    (fun i => ⟨tp 40 [(0, .x (.one (.sh 6 (vR (aps l))))), (3, int i.1)], 0, [], []⟩) (fun i => l.length - i.1) ⟨0, by omega, fun i h => by omega⟩ ?_ ?_
  · exact Weak.drop (by simp only [push_cast, Nat.reduceAdd, Nat.reduceSub, Nat.reduceMul, Nat.reduceLeDiff, Nat.reduceEqDiff, Nat.reduceLT, Int.reduceLT, Int.reduceLE, Int.reduceEq, Int.reduceNeg, Int.reduceToNat, Int.ofNat_zero]) (by simp only [push_cast, Nat.reduceAdd, Nat.reduceSub, Nat.reduceMul, Nat.reduceLeDiff, Nat.reduceEqDiff, Nat.reduceLT, Int.reduceLT, Int.reduceLE, Int.reduceEq, Int.reduceNeg, Int.reduceToNat, Int.ofNat_zero]) (by simp only [push_cast, Nat.reduceAdd, Nat.reduceSub, Nat.reduceMul, Nat.reduceLeDiff, Nat.reduceEqDiff, Nat.reduceLT, Int.reduceLT, Int.reduceLE, Int.reduceEq, Int.reduceNeg, Int.reduceToNat, Int.ofNat_zero])
  · rintro ⟨i, hi, hfine⟩ X hX
    by_cases hlt : (i : Int) < (l.length : Int)
    · have hi' : i < l.length := by omega
      have ws := wsucc hi' (by omega)
      have hgi := aps_getD l hi'
      obtain ⟨a, ha⟩ : ∃ a, a = l.getD i default := ⟨_, rfl⟩
      have hai : ix l i = a.index := by rw [ix, ← ha]
      have hae : en l i = a.e := by rw [en, ← ha]
      rw [← ha] at hgi
      obtain ⟨i', hi1⟩ : ∃ i', i' = i + 1 := ⟨_, rfl⟩
      rw [← hi1] at ws
      simp only [push_cast, Nat.reduceAdd, Nat.reduceSub, Nat.reduceMul, Nat.reduceLeDiff, Nat.reduceEqDiff, Nat.reduceLT, Int.reduceLT, Int.reduceLE, Int.reduceEq, Int.reduceNeg, Int.reduceToNat, aps_length, hlt]
      refine Go_loop (α := {k : Nat // k ≤ i ∧ ∀ k', k' < k → ¬ clash l i k'})
        (fun k => ⟨tp 40 [(0, .x (.one (.sh 6 (vR (aps l))))), (3, int i), (4, int k.1)], 0, [], []⟩) (fun k => i - k.1) ⟨0, by omega, fun k h => by omega⟩ ?_ ?_
      · exact Weak.drop (by simp only [push_cast, Nat.reduceAdd, Nat.reduceSub, Nat.reduceMul, Nat.reduceLeDiff, Nat.reduceEqDiff, Nat.reduceLT, Int.reduceLT, Int.reduceLE, Int.reduceEq, Int.reduceNeg, Int.reduceToNat, Int.ofNat_zero]) (by simp only [push_cast, Nat.reduceAdd, Nat.reduceSub, Nat.reduceMul, Nat.reduceLeDiff, Nat.reduceEqDiff, Nat.reduceLT, Int.reduceLT, Int.reduceLE, Int.reduceEq, Int.reduceNeg, Int.reduceToNat, Int.ofNat_zero]) (by simp only [push_cast, Nat.reduceAdd, Nat.reduceSub, Nat.reduceMul, Nat.reduceLeDiff, Nat.reduceEqDiff, Nat.reduceLT, Int.reduceLT, Int.reduceLE, Int.reduceEq, Int.reduceNeg, Int.reduceToNat, Int.ofNat_zero])
      · rintro ⟨k, hk, hno⟩ Y hY
        by_cases hkt : (k : Int) < (i : Int)
        · have hk' : k < i := by omega
          have hkl : k < l.length := by omega
          have hkL : (k : Int) < (l.length : Int) := by omega
          have wk := wsucc hkl (by omega)
          have hgk := aps_getD l hkl
          obtain ⟨b, hb⟩ : ∃ b, b = l.getD k default := ⟨_, rfl⟩
          have hbi : ix l k = b.index := by rw [ix, ← hb]
          have hbe : en l k = b.e := by rw [en, ← hb]
          rw [← hb] at hgk
          obtain ⟨k', hk1⟩ : ∃ k', k' = k + 1 := ⟨_, rfl⟩
          rw [← hk1] at wk
          have next : ¬ clash l i k → ∀ k2, k2 < k' → ¬ clash l i k2 := fun h k2 hk2 => by
            by_cases e : k2 = k
            · rw [e]; exact h
            · exact hno k2 (by omega)
          cases c1 : decide (a.index = b.index) with
          | false =>
            have hc : ¬ clash l i k := fun h => by
              simp only [decide_eq_false_iff_not] at c1
              exact c1 (by rw [← hai, ← hbi]; exact h.1)
            simp only [push_cast, Nat.reduceAdd, Nat.reduceSub, Nat.reduceMul, Nat.reduceLeDiff, Nat.reduceEqDiff, Nat.reduceLT, Int.reduceLT, Int.reduceLE, Int.reduceEq, Int.reduceNeg, Int.reduceToNat, aps_length, hlt, hkL, hkt, hi', hkl, hgi, hgk, apV, vR_getD, c1, wk]
            refine ⟨_, ?_, hY ⟨k', by omega, next hc⟩ (by simp only; omega)⟩
            exact Weak.drop (by simp only [push_cast, Nat.reduceAdd, Nat.reduceSub, Nat.reduceMul, Nat.reduceLeDiff, Nat.reduceEqDiff, Nat.reduceLT, Int.reduceLT, Int.reduceLE, Int.reduceEq, Int.reduceNeg, Int.reduceToNat]) (by simp only [push_cast, Nat.reduceAdd, Nat.reduceSub, Nat.reduceMul, Nat.reduceLeDiff, Nat.reduceEqDiff, Nat.reduceLT, Int.reduceLT, Int.reduceLE, Int.reduceEq, Int.reduceNeg, Int.reduceToNat]) (by simp only [push_cast, Nat.reduceAdd, Nat.reduceSub, Nat.reduceMul, Nat.reduceLeDiff, Nat.reduceEqDiff, Nat.reduceLT, Int.reduceLT, Int.reduceLE, Int.reduceEq, Int.reduceNeg, Int.reduceToNat])
          | true =>
            simp only [decide_eq_true_eq] at c1
            cases c2 : decide (a.e = b.e) with
            | true =>
              have hc : ¬ clash l i k := fun h => by
                simp only [decide_eq_true_eq] at c2
                exact h.2 (by rw [hae, hbe]; exact c2)
              simp only [push_cast, Nat.reduceAdd, Nat.reduceSub, Nat.reduceMul, Nat.reduceLeDiff, Nat.reduceEqDiff, Nat.reduceLT, Int.reduceLT, Int.reduceLE, Int.reduceEq, Int.reduceNeg, Int.reduceToNat, aps_length, hlt, hkL, hkt, hi', hkl, hgi, hgk, apV, vR_getD, c1, ent_ne, c2, wk]
              refine ⟨_, ?_, hY ⟨k', by omega, next hc⟩ (by simp only; omega)⟩
              exact Weak.drop (by simp only [push_cast, Nat.reduceAdd, Nat.reduceSub, Nat.reduceMul, Nat.reduceLeDiff, Nat.reduceEqDiff, Nat.reduceLT, Int.reduceLT, Int.reduceLE, Int.reduceEq, Int.reduceNeg, Int.reduceToNat]) (by simp only [push_cast, Nat.reduceAdd, Nat.reduceSub, Nat.reduceMul, Nat.reduceLeDiff, Nat.reduceEqDiff, Nat.reduceLT, Int.reduceLT, Int.reduceLE, Int.reduceEq, Int.reduceNeg, Int.reduceToNat]) (by simp only [push_cast, Nat.reduceAdd, Nat.reduceSub, Nat.reduceMul, Nat.reduceLeDiff, Nat.reduceEqDiff, Nat.reduceLT, Int.reduceLT, Int.reduceLE, Int.reduceEq, Int.reduceNeg, Int.reduceToNat])
            | false =>
              have hc : clash l i k := by
                simp only [decide_eq_false_iff_not] at c2
                exact ⟨by rw [hai, hbi]; exact c1, by rw [hae, hbe]; exact c2⟩
              rw [saB_no hi' hk' hc] at hr
              subst hr
              simp only [Try.ntmps7, Try.results7, push_cast, Nat.reduceAdd, Nat.reduceSub, Nat.reduceMul, Nat.reduceLeDiff, Nat.reduceEqDiff, Nat.reduceLT, Int.reduceLT, Int.reduceLE, Int.reduceEq, Int.reduceNeg, Int.reduceToNat, aps_length, hlt, hkL, hkt, hi', hkl, hgi, hgk, apV, vR_getD, c1, ent_ne, c2]
        · have hki : k = i := by omega
          simp only [push_cast, Nat.reduceAdd, Nat.reduceSub, Nat.reduceMul, Nat.reduceLeDiff, Nat.reduceEqDiff, Nat.reduceLT, Int.reduceLT, Int.reduceLE, Int.reduceEq, Int.reduceNeg, Int.reduceToNat, hkt, ws]
          refine ⟨_, ?_, hX ⟨i', by omega, fun i2 h2 k2 hk2 => ?_⟩ (by simp only; omega)⟩
          · exact Weak.drop (by simp only [push_cast, Nat.reduceAdd, Nat.reduceSub, Nat.reduceMul, Nat.reduceLeDiff, Nat.reduceEqDiff, Nat.reduceLT, Int.reduceLT, Int.reduceLE, Int.reduceEq, Int.reduceNeg, Int.reduceToNat]) (by simp only [push_cast, Nat.reduceAdd, Nat.reduceSub, Nat.reduceMul, Nat.reduceLeDiff, Nat.reduceEqDiff, Nat.reduceLT, Int.reduceLT, Int.reduceLE, Int.reduceEq, Int.reduceNeg, Int.reduceToNat]) (by simp only [push_cast, Nat.reduceAdd, Nat.reduceSub, Nat.reduceMul, Nat.reduceLeDiff, Nat.reduceEqDiff, Nat.reduceLT, Int.reduceLT, Int.reduceLE, Int.reduceEq, Int.reduceNeg, Int.reduceToNat])
          · by_cases e : i2 = i
            · rw [e] at hk2 ⊢; exact hno k2 (by omega)
            · exact hfine i2 (by omega) k2 hk2
    · have hie : i = l.length := by omega
      have ht : r = true := by rw [hr, saB]; exact decide_eq_true (hie ▸ hfine)
      subst ht
      simp only [Try.ntmps7, Try.results7, push_cast, Nat.reduceAdd, Nat.reduceSub, Nat.reduceMul, Nat.reduceLeDiff, Nat.reduceEqDiff, Nat.reduceLT, Int.reduceLT, Int.reduceLE, Int.reduceEq, Int.reduceNeg, Int.reduceToNat, aps_length, hlt]

/-! ### the map of entries -/
def eV (e : Ent) : Value := .agg #[.int .i64 e.term, .int .i64 e.kind, .string e.data]
theorem eV_inj {a b : Ent} (h : eV a = eV b) : a = b := by
  obtain ⟨t1, k1, d1⟩ := a
  obtain ⟨t2, k2, d2⟩ := b
  simp only [eV, Value.agg.injEq, Array.mk.injEq, List.cons.injEq, Value.int.injEq, Value.string.injEq, true_and, and_true] at h
  obtain ⟨rfl, rfl, rfl⟩ := h
  rfl
theorem findI_put (key k : Int) (v : Value) : ∀ L, findI key (putI k v L) = if key = k then some v else findI key L
  | [] => by simp [putI, findI]
  | (a, u) :: L => by
    by_cases h : k = a
    · subst h
      simp only [putI, if_true, findI]
      split <;> rfl
    · simp only [putI, if_neg h, findI, findI_put key k v L]
      by_cases h2 : key = a
      · subst h2
        rw [if_pos rfl, if_pos rfl, if_neg (Ne.symm h)]
      · rw [if_neg h2, if_neg h2]
theorem putI_len (k : Int) (v : Value) : ∀ L, (putI k v L).length ≤ L.length + 1
  | [] => Nat.le_refl _
  | (a, u) :: L => by
    unfold putI
    split
    · simp
    · have := putI_len k v L; simp; omega
/-- The map holds what the first ones say. -/
def Holds (l : List Ap) (n : Nat) (L : List (Int × Value)) : Prop := (∀ k, k < n → findI (ix l k) L = some (eV (en l k))) ∧ ∀ key v, findI key L = some v → ∃ k, k < n ∧ ix l k = key ∧ v = eV (en l k)
theorem Holds.nil (l : List Ap) : Holds l 0 [] := ⟨fun k h => by omega, fun key v h => by cases h⟩
theorem Holds.put {l : List Ap} {n : Nat} {L : List (Int × Value)} (h : Holds l n L) (hf : ∀ k, k < n → ¬ clash l n k) : Holds l (n + 1) (putI (ix l n) (eV (en l n)) L) := by
  refine ⟨fun k hk => ?_, fun key v hv => ?_⟩
  · rw [findI_put]
    by_cases c : ix l k = ix l n
    · rw [if_pos c]
      by_cases e : k = n
      · rw [e]
      · have := hf k (by omega)
        congr 2
        exact Classical.byContradiction fun hne => this ⟨c.symm, hne⟩
    · rw [if_neg c]
      have e : k ≠ n := fun e => c (by rw [e])
      exact h.1 k (by omega)
  · rw [findI_put] at hv
    split at hv
    · rename_i c
      cases hv
      exact ⟨n, by omega, c.symm, rfl⟩
    · obtain ⟨k, h1, h2, h3⟩ := h.2 key v hv
      exact ⟨k, by omega, h2, h3⟩
theorem clash_of {l : List Ap} {n : Nat} {L : List (Int × Value)} (h : Holds l n L) {v : Value} (hv : findI (ix l n) L = some v) (e : Ent) (he : v = eV e) :
    (e = en l n → ∀ k, k < n → ¬ clash l n k) ∧ (e ≠ en l n → ∃ k, k < n ∧ clash l n k) := by
  refine ⟨fun h1 k hk hc => ?_, fun h1 => ?_⟩
  · have h2 := h.1 k hk
    rw [← hc.1, hv, he] at h2
    have := eV_inj (Option.some.inj h2)
    exact hc.2 (by rw [← this, h1])
  · obtain ⟨k, hk, h2, h3⟩ := h.2 _ v hv
    refine ⟨k, hk, h2.symm, fun h4 => h1 ?_⟩
    have := eV_inj (he.symm.trans h3)
    rw [this, h4]
theorem no_clash {l : List Ap} {n : Nat} {L : List (Int × Value)} (h : Holds l n L) (hv : findI (ix l n) L = none) : ∀ k, k < n → ¬ clash l n k := fun k hk hc => by
  have := h.1 k hk
  rw [← hc.1, hv] at this
  cases this
theorem sameAppliedI_ok (l : List Ap) (hl : l.length ≤ 1048576) : PureFn Try.prog 9 [.one (.sh 6 (vR (aps l)))] [bo (saB l)] := by
  refine PureFn_of_Go Try.func9 rfl (by decide) mo (by decide +kernel) ?_
  obtain ⟨r, hr⟩ : ∃ r, r = saB l := ⟨_, rfl⟩
  rw [← hr]
  simp only [Try.ntmps9, Try.results9, push_cast, Nat.reduceAdd, Nat.reduceSub, Nat.reduceMul, Nat.reduceLeDiff, Nat.reduceEqDiff, Nat.reduceLT, Int.reduceLT, Int.reduceLE, Int.reduceEq, Int.reduceNeg, Int.reduceToNat]
  refine GoL_inl2 1 Try.func24 rfl (by decide) mo (by decide +kernel) rfl rfl (show 0 ≤ 1 by decide) rfl fun K hK => ?_
  simp only [Try.ntmps24, Try.results24, push_cast, Nat.reduceAdd, Nat.reduceSub, Nat.reduceMul, Nat.reduceLeDiff, Nat.reduceEqDiff, Nat.reduceLT, Int.reduceLT, Int.reduceLE, Int.reduceEq, Int.reduceNeg, Int.reduceToNat]
  refine GoL_makeMap rfl rfl fun b => ?_
  simp only [Try.ntmps24, Try.results24, push_cast, Nat.reduceAdd, Nat.reduceSub, Nat.reduceMul, Nat.reduceLeDiff, Nat.reduceEqDiff, Nat.reduceLT, Int.reduceLT, Int.reduceLE, Int.reduceEq, Int.reduceNeg, Int.reduceToNat, aps_length]
  refine Go_loop (α := {p : Nat × List (Int × Value) // p.1 ≤ l.length ∧ Holds l p.1 p.2 ∧ fine l p.1})
    (fun p => ⟨tp 37 [(2, .x (.one (.v (.map none)))), (3, .x (bo false)), (4, .x (.one (.v (.map (some b))))), (10, .x (.one (.sh 6 (vR (aps l))))), (11, int l.length), (12, int p.1.1)], 1, [((1, 576), ⟨.mp b (mpI .i64 p.1.2), 0, []⟩)], []⟩)
    (fun p => l.length - p.1.1) ⟨(0, []), by simp only; omega, Holds.nil l, fun i h => by simp only at h; omega⟩ ?_ ?_
  · exact Weak.same (by simp only [push_cast, Nat.reduceAdd, Nat.reduceSub, Nat.reduceMul, Nat.reduceLeDiff, Nat.reduceEqDiff, Nat.reduceLT, Int.reduceLT, Int.reduceLE, Int.reduceEq, Int.reduceNeg, Int.reduceToNat, Int.ofNat_zero])
  · rintro ⟨⟨i, L⟩, hi, hH, hfine⟩ X hX
    simp only at hi hH hfine
    by_cases hlt : (i : Int) < (l.length : Int)
    · have hi' : i < l.length := by omega
      have ws := wsucc hi' (by omega)
      have hgi := aps_getD l hi'
      obtain ⟨a, ha⟩ : ∃ a, a = l.getD i default := ⟨_, rfl⟩
      have hai : ix l i = a.index := by rw [ix, ← ha]
      have hae : en l i = a.e := by rw [en, ← ha]
      rw [← ha] at hgi
      obtain ⟨i', hi1⟩ : ∃ i', i' = i + 1 := ⟨_, rfl⟩
      rw [← hi1] at ws
      simp only [push_cast, Nat.reduceAdd, Nat.reduceSub, Nat.reduceMul, Nat.reduceLeDiff, Nat.reduceEqDiff, Nat.reduceLT, Int.reduceLT, Int.reduceLE, Int.reduceEq, Int.reduceNeg, Int.reduceToNat, aps_length, hlt, hi', hgi, apV, vR_getD]
      refine GoL_lookup (1, 576) (b := b) (L := L) (key := a.index) (z := .agg #[.int .i64 0, .int .i64 0, .string ⟨#[]⟩]) rfl rfl rfl rfl Try.underlying51 (by kernel_rfl) (by kernel_rfl) ?_
      cases hf : findI a.index L with
      | none =>
        have hno := no_clash hH (by rw [hai]; exact hf)
        have hH' := hH.put hno
        rw [hai, hae, ← hi1] at hH'
        simp only [push_cast, Nat.reduceAdd, Nat.reduceSub, Nat.reduceMul, Nat.reduceLeDiff, Nat.reduceEqDiff, Nat.reduceLT, Int.reduceLT, Int.reduceLE, Int.reduceEq, Int.reduceNeg, Int.reduceToNat]
        refine GoL_mapUpdate (1, 576) (b := b) (L := L) (key := a.index) (v := eV a.e) rfl rfl rfl rfl rfl Try.underlying51 (by kernel_rfl) ?_
        simp only [push_cast, Nat.reduceAdd, Nat.reduceSub, Nat.reduceMul, Nat.reduceLeDiff, Nat.reduceEqDiff, Nat.reduceLT, Int.reduceLT, Int.reduceLE, Int.reduceEq, Int.reduceNeg, Int.reduceToNat, ws]
        refine ⟨_, ?_, hX ⟨(i', _), by simp only; omega, hH', fun i2 h2 k2 hk2 => ?_⟩ (by simp only; omega)⟩
        · exact Weak.drop (by simp only [push_cast, Nat.reduceAdd, Nat.reduceSub, Nat.reduceMul, Nat.reduceLeDiff, Nat.reduceEqDiff, Nat.reduceLT, Int.reduceLT, Int.reduceLE, Int.reduceEq, Int.reduceNeg, Int.reduceToNat]) (by simp only [push_cast, Nat.reduceAdd, Nat.reduceSub, Nat.reduceMul, Nat.reduceLeDiff, Nat.reduceEqDiff, Nat.reduceLT, Int.reduceLT, Int.reduceLE, Int.reduceEq, Int.reduceNeg, Int.reduceToNat]) (by simp only [push_cast, Nat.reduceAdd, Nat.reduceSub, Nat.reduceMul, Nat.reduceLeDiff, Nat.reduceEqDiff, Nat.reduceLT, Int.reduceLT, Int.reduceLE, Int.reduceEq, Int.reduceNeg, Int.reduceToNat])
        · by_cases e : i2 = i
          · rw [e] at hk2 ⊢; exact hno k2 hk2
          · exact hfine i2 (by simp only at h2; omega) k2 hk2
      | some v =>
        obtain ⟨k, hk, hki, hkv⟩ := hH.2 _ v hf
        obtain ⟨f, hfe⟩ : ∃ f, f = en l k := ⟨_, rfl⟩
        rw [← hfe] at hkv
        obtain ⟨hyes, hbad⟩ := clash_of hH (by rw [hai]; exact hf) f hkv
        rw [hae] at hyes hbad
        subst hkv
        cases c1 : decide (f = a.e) with
        | true =>
          have hno := hyes (of_decide_eq_true c1)
          have hH' := hH.put hno
          rw [hai, hae, ← hi1] at hH'
          simp only [push_cast, Nat.reduceAdd, Nat.reduceSub, Nat.reduceMul, Nat.reduceLeDiff, Nat.reduceEqDiff, Nat.reduceLT, Int.reduceLT, Int.reduceLE, Int.reduceEq, Int.reduceNeg, Int.reduceToNat, eV, ent_ne, c1]
          refine GoL_mapUpdate (1, 576) (b := b) (L := L) (key := a.index) (v := eV a.e) rfl rfl rfl rfl rfl Try.underlying51 (by kernel_rfl) ?_
          simp only [push_cast, Nat.reduceAdd, Nat.reduceSub, Nat.reduceMul, Nat.reduceLeDiff, Nat.reduceEqDiff, Nat.reduceLT, Int.reduceLT, Int.reduceLE, Int.reduceEq, Int.reduceNeg, Int.reduceToNat, ws]
          refine ⟨_, ?_, hX ⟨(i', _), by simp only; omega, hH', fun i2 h2 k2 hk2 => ?_⟩ (by simp only; omega)⟩
          · exact Weak.drop (by simp only [push_cast, Nat.reduceAdd, Nat.reduceSub, Nat.reduceMul, Nat.reduceLeDiff, Nat.reduceEqDiff, Nat.reduceLT, Int.reduceLT, Int.reduceLE, Int.reduceEq, Int.reduceNeg, Int.reduceToNat]) (by simp only [push_cast, Nat.reduceAdd, Nat.reduceSub, Nat.reduceMul, Nat.reduceLeDiff, Nat.reduceEqDiff, Nat.reduceLT, Int.reduceLT, Int.reduceLE, Int.reduceEq, Int.reduceNeg, Int.reduceToNat]) (by simp only [push_cast, Nat.reduceAdd, Nat.reduceSub, Nat.reduceMul, Nat.reduceLeDiff, Nat.reduceEqDiff, Nat.reduceLT, Int.reduceLT, Int.reduceLE, Int.reduceEq, Int.reduceNeg, Int.reduceToNat])
          · by_cases e : i2 = i
            · rw [e] at hk2 ⊢; exact hno k2 hk2
            · exact hfine i2 (by simp only at h2; omega) k2 hk2
        | false =>
          obtain ⟨k2, hk2, hc⟩ := hbad (of_decide_eq_false c1)
          rw [saB_no hi' hk2 hc] at hr
          subst hr
          simp only [Try.ntmps24, Try.results24, push_cast, Nat.reduceAdd, Nat.reduceSub, Nat.reduceMul, Nat.reduceLeDiff, Nat.reduceEqDiff, Nat.reduceLT, Int.reduceLT, Int.reduceLE, Int.reduceEq, Int.reduceNeg, Int.reduceToNat, eV, ent_ne, c1]
          refine hK _ _ _ (Weak.refl _) rfl rfl rfl ?_
          simp only [Try.ntmps9, Try.results9, push_cast, Nat.reduceAdd, Nat.reduceSub, Nat.reduceMul, Nat.reduceLeDiff, Nat.reduceEqDiff, Nat.reduceLT, Int.reduceLT, Int.reduceLE, Int.reduceEq, Int.reduceNeg, Int.reduceToNat]
    · have hie : i = l.length := by omega
      have ht : r = true := by rw [hr, saB]; exact decide_eq_true (hie ▸ hfine)
      subst ht
      simp only [Try.ntmps24, Try.results24, push_cast, Nat.reduceAdd, Nat.reduceSub, Nat.reduceMul, Nat.reduceLeDiff, Nat.reduceEqDiff, Nat.reduceLT, Int.reduceLT, Int.reduceLE, Int.reduceEq, Int.reduceNeg, Int.reduceToNat, aps_length, hlt]
      refine hK _ _ _ (Weak.refl _) rfl rfl rfl ?_
      simp only [Try.ntmps9, Try.results9, push_cast, Nat.reduceAdd, Nat.reduceSub, Nat.reduceMul, Nat.reduceLeDiff, Nat.reduceEqDiff, Nat.reduceLT, Int.reduceLT, Int.reduceLE, Int.reduceEq, Int.reduceNeg, Int.reduceToNat]
end Go.Proofs.Ytcdjpfikpliagaa
