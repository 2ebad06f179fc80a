/- Frames of a log's entries, by the program: over a strings.Builder. -/
import Derived.Test.YtlbmojbkmcpnaaaGreatDoorO2
namespace Go.Proofs.YtlbmojbkmcpnaaaGreatDoor
open Go.RowKit Go.Rx
set_option linter.unusedSimpArgs false
set_option maxRecDepth 100000

theorem entryFrames_ok (l : Lg) (h : LgF l) (hf : fineE l.es) (from_ : Nat) (hfr : from_ ≤ l.es.length) :
    PureFn Tryz.prog 56 [.agg (lgC l (.sh 3 (vR (ents l.es)))), i64 from_] [st (efT l from_ (l.es.length - from_))] := by
  refine PureFn_of_Go Tryz.func56 rfl (by decide) mo (by decide +kernel) ?_
  obtain ⟨start, sterm, es⟩ := l
  obtain ⟨h0, h1, h2, h3⟩ := h
  simp only at h0 h1 h2 h3 hf hfr ⊢
  obtain ⟨F, hF⟩ : ∃ F : Nat → ByteArray, F = efT ⟨start, sterm, es⟩ from_ := ⟨_, rfl⟩
  have hsz : ∀ n, from_ + n ≤ es.length → (F n).size ≤ 720 * 60 := fun n hn => by
    have := efT_size (l := ⟨start, sterm, es⟩) ⟨h0, h1, h2, h3⟩ from_ n hn
    rw [hF]; omega
  have hFz : F 0 = ⟨#[]⟩ := by rw [hF]; rfl
  have hFn : ∀ n, F (n + 1) = F n ++ efr (start + 1 + (from_ : Int) + (n : Int)) (es.getD (from_ + n) default) := fun n => by rw [hF]; rfl
  have hdr : List.take (es.length - from_) (List.drop from_ (vR (ents es))) = vR (ents (es.drop from_)) := by
    rw [List.take_of_length_le (by rw [List.length_drop, vR_length, ents_length]; exact Nat.le_refl _)]
    simp [vR, ents, List.map_drop]
  obtain ⟨E, hE⟩ : ∃ E, E = es.drop from_ := ⟨_, rfl⟩
  have hEl : E.length = es.length - from_ := by rw [hE, List.length_drop]
  have hEg : ∀ n, n < E.length → E.getD n default = es.getD (from_ + n) default := fun n hn => by
    rw [hE, List.getD_eq_getElem?_getD, List.getElem?_drop, ← List.getD_eq_getElem?_getD]
  rw [← hE] at hdr
  simp only [Tryz.ntmps56, Tryz.results56, push_cast, seval, lgC]
  refine GoL_blNew (e := 5) rfl (by decide +kernel) (z := .agg #[.pointer none, .slice none 0 0]) (by kernel_rfl) rfl rfl rfl (by decide) fun b => ?_
  simp only [Tryz.ntmps56, Tryz.results56, push_cast, seval, hfr, hdr, ents_length]
  refine Go_loop (α := {p : Nat × Option Nat // p.1 ≤ E.length})
    (fun p => ⟨tp 31 [(1, int from_), (2, .x (.one (.pt (0, 128) [] 3 0 0))), (5, .x (.one (.v (.pointer (some ⟨b, 0, none⟩))))), (11, .x (.one (.sh 3 (vR (ents E))))), (12, int E.length), (13, int p.1.1)], 0, [((0, 320), ⟨.bl 120 5 b p.1.2 (F p.1.1), 0, []⟩), ((0, 128), ⟨.box, 3, [[.v (.int .i64 start), .v (.int .i64 sterm), .sh 3 (vR (ents es))]]⟩)], []⟩)
    (fun p => E.length - p.1.1) ⟨(0, none), Nat.zero_le _⟩ ?_ ?_
  · simp only [hFz]
    exact Weak.same (by simp only [push_cast, seval, Int.ofNat_zero])
  · rintro ⟨⟨n, row⟩, hn⟩ X hX
    simp only at hn
    have hs := hsz n (by omega)
    by_cases hlt : (n : Int) < (E.length : Int)
    · have hn' : n < E.length := by omega
      have hg := ents_getD E hn'
      have hok := h3 _ (getD_mem' es (from_ + n) (by omega))
      have hFs := hFn n
      rw [← hEg n hn'] at hok hFs
      obtain ⟨e, he⟩ : ∃ e, e = E.getD n default := ⟨_, rfl⟩
      rw [← he] at hg hok hFs
      obtain ⟨p1, p2, p3, p4, p5⟩ := entOk_spec hok
      obtain ⟨term, kind, data⟩ := e
      simp only at p1 p2 p3 p4 p5
      obtain ⟨t, rfl⟩ := Int.eq_ofNat_of_zero_le p1
      obtain ⟨kd, rfl⟩ := Int.eq_ofNat_of_zero_le (show 0 ≤ kind by omega)
      obtain ⟨idx, hidx⟩ : ∃ idx : Nat, (idx : Int) = start + 1 + (from_ : Int) + (n : Int) := ⟨(start + 1 + (from_ : Int) + (n : Int)).toNat, by omega⟩
      rw [← hidx] at hFs
      have w1 : IntKind.i64.wrap (start + 1) = start + 1 := w64 (by omega) (by omega)
      have w2 : IntKind.i64.wrap (start + 1 + (from_ : Int)) = start + 1 + (from_ : Int) := w64 (by omega) (by omega)
      have w3 : IntKind.i64.wrap (start + 1 + (from_ : Int) + (n : Int)) = (idx : Int) := wN (by omega) (by omega)
      have k1 := entryTextI_ok idx t kd (by omega) (by omega) data (by omega)
      obtain ⟨q1, q2⟩ := et_size (i := idx) (by omega) (by omega) hok
      simp only [Int.toNat_natCast] at q1 q2
      have k2 := frame_ok (etB idx t kd data) (by omega)
      have hefr : efr (idx : Int) ⟨(t : Int), (kd : Int), data⟩ = frameB (etB idx t kd data) := by simp [efr]
      have hfs := efr_size (i := idx) (by omega) (by omega) hok
      rw [hefr] at hFs hfs
      obtain ⟨y, hy⟩ : ∃ y, y = frameB (etB idx t kd data) := ⟨_, rfl⟩
      rw [← hy] at k2 hFs hfs
      obtain ⟨n', hn1⟩ : ∃ n', n' = n + 1 := ⟨_, rfl⟩
      rw [← hn1] at hFs
      have ws : IntKind.i64.wrap ((n : Int) + 1) = (n' : Int) := by rw [hn1]; exact wsucc hn' (by omega)
      simp only [entC] at k1
      simp only [push_cast, seval, hlt, ents_length, hn', vR_getD, hg, entV, w1, w2, w3]
      refine GoL_call rfl rfl k1 rfl rfl ?_
      simp only [push_cast, seval]
      refine GoL_call rfl rfl k2 rfl rfl ?_
      simp only [push_cast, seval]
      refine GoL_bl (r := (0, 320)) (bl_write (F n) y (by omega)) rfl rfl rfl (zx := .tup [.one (.v (.int .i64 y.size)), .one (.v .nilIface)]) (fun w o g => ⟨_, rfl, rfl, fun j hj => ?_⟩) fun row' => ?_
      · match j, hj with
        | 0, _ => exact rfl
        | 1, _ => exact rfl
      rw [← hFs]
      simp only [push_cast, seval, ws]
      refine ⟨_, ?_, hX ⟨(n', row'), by simp only; omega⟩ (by simp only; omega)⟩
      exact Weak.drop (by simp only [push_cast, seval, hn1]) (by simp only [push_cast, seval, hn1]) (by simp only [push_cast, seval, hn1])
    · have hne : n = E.length := by omega
      subst hne
      simp only [push_cast, seval, hlt]
      refine GoL_blEnd (r := (0, 320)) (bl_string (F E.length)) rfl rfl rfl ?_
      rw [← hEl, ← hF]
      simp only [push_cast, seval]
end Go.Proofs.YtlbmojbkmcpnaaaGreatDoor

