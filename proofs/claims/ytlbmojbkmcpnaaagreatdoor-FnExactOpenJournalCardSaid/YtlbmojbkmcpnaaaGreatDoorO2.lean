/- Frames of a log's entries, by both ways. -/
import Derived.Test.YtlbmojbkmcpnaaaGreatDoorO1
namespace Go.Proofs.YtlbmojbkmcpnaaaGreatDoor
open Go.RowKit Go.Rx
set_option linter.unusedSimpArgs false
set_option maxRecDepth 100000

theorem varL_le : ∀ (k n : Nat), n < 128 ^ (k + 1) → (varL n).length ≤ k + 1
  | 0, n, h => by rw [varL_small (by simpa using (by omega : n ≤ 127))]; simp
  | k + 1, n, h => by
    by_cases c : n ≤ 127
    · rw [varL_small c]; simp
    · rw [varL_big c, List.length_cons]
      have : n / 128 < 128 ^ (k + 1) := by rw [Nat.div_lt_iff_lt_mul (by decide), ← Nat.pow_succ]; exact h
      have := varL_le k (n / 128) this
      omega
theorem varB_le (k n : Nat) (h : n < 128 ^ (k + 1)) : (varB n).size ≤ k + 1 := by
  have := varL_le k n h
  simpa [varB, ByteArray.size] using this

/-- One entry's frame. -/
def efr (i : Int) (e : Ent) : ByteArray := frameB (etB i.toNat e.term.toNat e.kind.toNat e.data)
def efT (l : Lg) (from_ : Nat) : Nat → ByteArray
  | 0 => ⟨#[]⟩
  | n + 1 => efT l from_ n ++ efr (l.start + 1 + (from_ : Int) + (n : Int)) (l.es.getD (from_ + n) default)
structure LgF (l : Lg) : Prop where
  s0 : 0 ≤ l.start
  s1 : l.start + l.es.length ≤ 1000000
  n : l.es.length ≤ 60
  es : ∀ e ∈ l.es, entOk e = true
theorem LgF.of {l : Lg} (h : logB l = true) (h2 : ∀ e ∈ l.es, entOk e = true) : LgF l := by
  simp only [logB, Bool.and_eq_true, decide_eq_true_eq, inR] at h
  exact ⟨by omega, by omega, by omega, h2⟩
theorem entOk_spec {e : Ent} (h : entOk e = true) : 0 ≤ e.term ∧ e.term ≤ 100000 ∧ 1 ≤ e.kind ∧ e.kind ≤ 3 ∧ e.data.size ≤ 640 := by
  simp only [entOk, eoB, Bool.and_eq_true, inR, decide_eq_true_eq] at h
  obtain ⟨⟨h1, h2⟩, h3⟩ := h
  refine ⟨h1, h2, ?_⟩
  by_cases k1 : e.kind = 1
  · simp only [k1, if_true, decide_eq_true_eq] at h3
    have : e.data.size = 0 := by rw [h3]; rfl
    omega
  · by_cases k2 : e.kind = 2
    · simp [k2, rcB] at h3
      omega
    · by_cases k3 : e.kind = 3
      · simp [k3] at h3
        omega
      · simp [k1, k2, k3] at h3
theorem et_size {i : Int} (h0 : 0 ≤ i) (h1 : i ≤ 1000000) {e : Ent} (h : entOk e = true) : 1 ≤ (etB i.toNat e.term.toNat e.kind.toNat e.data).size ∧ (etB i.toNat e.term.toNat e.kind.toNat e.data).size ≤ 700 := by
  obtain ⟨a, b, c, d, f⟩ := entOk_spec h
  have v1 := varB_le 2 i.toNat (by omega)
  have v2 := varB_le 2 e.term.toNat (by omega)
  unfold etB
  rw [ByteArray.size_append, ByteArray.size_append, ByteArray.size_append, ByteArray.size_append]
  have e1 : (⟨#[69]⟩ : ByteArray).size = 1 := rfl
  have e2 : (⟨[UInt8.ofNat e.kind.toNat].toArray⟩ : ByteArray).size = 1 := rfl
  omega
theorem efr_size {i : Int} (h0 : 0 ≤ i) (h1 : i ≤ 1000000) {e : Ent} (h : entOk e = true) : (efr i e).size ≤ 720 := by
  obtain ⟨a, b⟩ := et_size h0 h1 h
  have v := varB_le 2 (etB i.toNat e.term.toNat e.kind.toNat e.data).size (by omega)
  unfold efr frameB
  rw [ByteArray.size_append, ByteArray.size_append, four_size]
  omega
theorem efT_size {l : Lg} (h : LgF l) (from_ : Nat) : ∀ n, from_ + n ≤ l.es.length → (efT l from_ n).size ≤ 720 * n
  | 0, _ => Nat.zero_le _
  | n + 1, hn => by
    have h1 := efT_size h from_ n (by omega)
    have := h.s0; have := h.s1
    have h2 := efr_size (i := l.start + 1 + (from_ : Int) + (n : Int)) (by omega) (by omega) (h.es _ (getD_mem' l.es (from_ + n) (by omega)))
    unfold efT
    rw [ByteArray.size_append]
    omega

theorem l07Frames_ok (l : Lg) (h : LgF l) (hf : fineE l.es) (from_ : Nat) (hfr : from_ ≤ l.es.length) :
    PureFn Tryz.prog 49 [.agg (lgC l (.sh 3 (vR (ents l.es)))), i64 from_] [st (efT l from_ (l.es.length - from_))] := by
  refine PureFn_of_Go Tryz.func49 rfl (by decide) mo (by decide +kernel) ?_
  simp only [Tryz.ntmps49, Tryz.results49, push_cast, seval, lgC]
  obtain ⟨start, sterm, es⟩ := l
  obtain ⟨h0, h1, h2, h3⟩ := h
  simp only at h0 h1 h2 h3 hf hfr ⊢
  obtain ⟨F, hF⟩ : ∃ F : Nat → ByteArray, F = fun i => efT ⟨start, sterm, es⟩ from_ (i - from_) := ⟨_, rfl⟩
  have hsz : ∀ i, i ≤ es.length → (F i).size ≤ 720 * 60 := fun i hi => by
    by_cases hfi : from_ ≤ i
    · have := efT_size (l := ⟨start, sterm, es⟩) ⟨h0, h1, h2, h3⟩ from_ (i - from_) (show from_ + (i - from_) ≤ es.length by omega)
      rw [hF]; simp only; omega
    · rw [hF]
      simp only [show i - from_ = 0 by omega]
      exact Nat.zero_le _
  have hFz : F from_ = ⟨#[]⟩ := by rw [hF]; simp only [Nat.sub_self]; rfl
  have hFn : ∀ i, from_ ≤ i → F (i + 1) = F i ++ efr (start + 1 + (i : Int)) (es.getD i default) := fun i hi => by
    rw [hF]
    simp only [show i + 1 - from_ = (i - from_) + 1 by omega, efT]
    rw [show start + 1 + (from_ : Int) + ((i - from_ : Nat) : Int) = start + 1 + (i : Int) by omega, show from_ + (i - from_) = i by omega]
  have hend : efT ⟨start, sterm, es⟩ from_ (es.length - from_) = F es.length := by rw [hF]
  rw [hend]
  clear hend hF
  refine Go_loop (α := {i : Nat // from_ ≤ i ∧ i ≤ es.length})
    (fun i => ⟨tp 45 [(2, .x (.one (.pt (0, 128) [] 3 0 0))), (5, .x (.one (.rs (0, 2688) [] 1 0 (F i.1).size))), (6, int i.1)], 0, [((0, 2688), ⟨.sl, 1, byR (F i.1).data.toList⟩), ((0, 128), ⟨.box, 3, [[.v (.int .i64 start), .v (.int .i64 sterm), .sh 3 (vR (ents es))]]⟩)], []⟩)
    (fun i => es.length - i.1) ⟨from_, by omega⟩ ?_ ?_
  · refine Weak.trans (Weak.rename (0, 704) (0, 2688) rfl rfl (by decide) rfl) ?_
    have e1 : (⟨#[]⟩ : ByteArray).size = 0 := rfl
    simp only [hFz, e1]
    simp only [push_cast, seval]
    exact Weak.same (by simp only [push_cast, seval, Int.ofNat_zero])
  · rintro ⟨i, hfi, hi⟩ X hX
    have hs := hsz i hi
    have hFl : (F i).data.toList.length = (F i).size := by rw [Array.length_toList]; rfl
    by_cases hlt : (i : Int) < (es.length : Int)
    · have hi' : i < es.length := by omega
      have hg := ents_getD es hi'
      have hok := h3 _ (getD_mem' es i (by omega))
      have hFs := hFn i hfi
      obtain ⟨e, he⟩ : ∃ e, e = es.getD i default := ⟨_, rfl⟩
      rw [← he] at hg hok hFs
      obtain ⟨p1, p2, p3, p4, p5⟩ := entOk_spec hok
      obtain ⟨term, kind, data⟩ := e
      simp only at p1 p2 p3 p4 p5
      obtain ⟨t, rfl⟩ := Int.eq_ofNat_of_zero_le p1
      obtain ⟨kd, rfl⟩ := Int.eq_ofNat_of_zero_le (show 0 ≤ kind by omega)
      obtain ⟨idx, hidx⟩ : ∃ idx : Nat, (idx : Int) = start + 1 + (i : Int) := ⟨(start + 1 + (i : Int)).toNat, by omega⟩
      rw [← hidx] at hFs
      have w1 : IntKind.i64.wrap (start + 1) = start + 1 := w64 (by omega) (by omega)
      have w2 : IntKind.i64.wrap (start + 1 + (i : Int)) = (idx : Int) := wN (by omega) (by omega)
      have hto : etOk idx t kd data = true := by
        have : eoB t kd data = true := hok
        simp only [etOk, this, Bool.true_and, inR, Bool.and_eq_true, decide_eq_true_eq]
        omega
      have k1 := entryTextS_ok idx t kd (by omega) (by omega) data (by omega)
      rw [show etX idx t kd data = [st (etB idx t kd data), bo true] from by simp only [etX, hto, if_true]] at k1
      obtain ⟨q1, q2⟩ := et_size (i := idx) (by omega) (by omega) hok
      simp only [Int.toNat_natCast] at q1 q2
      have k2 := frameS_ok (etB idx t kd data) (by omega)
      rw [show frameX (etB idx t kd data) = [st (frameB (etB idx t kd data)), bo true] from by
        have : okLen (etB idx t kd data) = true := by simp only [okLen, Bool.and_eq_true, decide_eq_true_eq]; omega
        simp only [frameX, this, if_true]] at k2
      have hefr : efr (idx : Int) ⟨(t : Int), (kd : Int), data⟩ = frameB (etB idx t kd data) := by simp [efr]
      have hfs := efr_size (i := idx) (by omega) (by omega) hok
      rw [hefr] at hFs hfs
      obtain ⟨y, hy⟩ : ∃ y, y = frameB (etB idx t kd data) := ⟨_, rfl⟩
      rw [← hy] at k2 hFs hfs
      obtain ⟨i', hi1⟩ : ∃ i', i' = i + 1 := ⟨_, rfl⟩
      rw [← hi1] at hFs
      have hyl : y.data.toList.length = y.size := by rw [Array.length_toList]; rfl
      have hsy : (F i).size + y.size = (F i').size := by rw [hFs, ByteArray.size_append]
      have a0 : (F i').size ≤ 4294967296 := by omega
      have a1 := max_len a0
      have a2 := room_le (b := 1) a0 (by decide)
      have ws : IntKind.i64.wrap ((i : Int) + 1) = (i' : Int) := by rw [hi1]; exact wsucc hi' (by omega)
      have hap : byR (F i).data.toList ++ byR y.data.toList = byR (F i').data.toList := by
        rw [hFs, ByteArray.data_append, Array.toList_append]; simp [byR]
      have hyb : y.size ≤ 281474976710656 := by omega
      have htk : (byR y.data.toList).take y.size = byR y.data.toList := by rw [← hyl]; exact byR_take _
      have hfl : (byR y.data.toList).all flatRow = true := byR_flat _
      simp only [entC] at k1
      simp only [push_cast, seval, hlt, ents_length, hi', vR_getD, hg, entV, w1, w2]
      refine GoD_call rfl rfl k1 rfl rfl ?_
      simp only [push_cast, seval]
      refine GoL_call rfl rfl k2 rfl rfl ?_
      simp only [push_cast, seval, byteRows_byR, byR_length, hFl, hyl, hyb, a1, a2, htk, hfl, hap, hsy, ws]
      refine ⟨_, ?_, hX ⟨i', by omega⟩ (by simp only; omega)⟩
      exact Weak.drop (by simp only [push_cast, seval, hi1]) (by simp only [push_cast, seval, hi1]) (by simp only [push_cast, seval, hi1])
    · have hie : i = es.length := by omega
      subst hie
      have hfin : (⟨(F es.length).data.toList.toArray⟩ : ByteArray) = F es.length := by simp
      have htk : (byR (F es.length).data.toList).take (F es.length).size = byR (F es.length).data.toList := by rw [← hFl]; exact byR_take _
      simp only [push_cast, seval, hlt, ents_length, byR_length, hFl, htk, hfin]
end Go.Proofs.YtlbmojbkmcpnaaaGreatDoor

