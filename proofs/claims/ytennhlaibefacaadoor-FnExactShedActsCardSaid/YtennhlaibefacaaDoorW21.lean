/- ReadSnap: by its code; both ways come to the same. -/
import Derived.Test.YtennhlaibefacaaDoorW20
namespace Go.Proofs.YtennhlaibefacaaDoor
open Go.RowKit Go.Rx
set_option linter.unusedSimpArgs false
set_option maxRecDepth 100000

/-! ### where the parts stand -/
def zI (t : ByteArray) (b : Bool) : Nat := numN t 0 b
def zA1 (t : ByteArray) (b : Bool) : Nat := numA t 0 b
def zB1 (t : ByteArray) (b : Bool) : Bool := numB t 0 b
def zT (t : ByteArray) (b : Bool) : Nat := numN t (zA1 t b) (zB1 t b)
def zA2 (t : ByteArray) (b : Bool) : Nat := numA t (zA1 t b) (zB1 t b)
def zB2 (t : ByteArray) (b : Bool) : Bool := numB t (zA1 t b) (zB1 t b)
def zC (t : ByteArray) (b : Bool) : ByteArray := l5T t (zA2 t b) (zB2 t b)
def zA3 (t : ByteArray) (b : Bool) : Nat := l5A t (zA2 t b) (zB2 t b)
def zB3 (t : ByteArray) (b : Bool) : Bool := l5B t (zA2 t b) (zB2 t b)
def zD (t : ByteArray) (b : Bool) : ByteArray := l5T t (zA3 t b) (zB3 t b)
def zA4 (t : ByteArray) (b : Bool) : Nat := l5A t (zA3 t b) (zB3 t b)
def zB4 (t : ByteArray) (b : Bool) : Bool := l5B t (zA3 t b) (zB3 t b)
def yC (t : ByteArray) (b : Bool) : ByteArray := shT t (zA2 t b) (zB2 t b)
def yA3 (t : ByteArray) (b : Bool) : Nat := shA t (zA2 t b) (zB2 t b)
def yB3 (t : ByteArray) (b : Bool) : Bool := shBB t (zA2 t b) (zB2 t b)
def yD (t : ByteArray) (b : Bool) : ByteArray := shT t (yA3 t b) (yB3 t b)
def yA4 (t : ByteArray) (b : Bool) : Nat := shA t (yA3 t b) (yB3 t b)
def yB4 (t : ByteArray) (b : Bool) : Bool := shBB t (yA3 t b) (yB3 t b)
theorem zA1_le (t : ByteArray) (b : Bool) : zA1 t b ≤ t.size := numA_le (Nat.zero_le _)
theorem zA2_le (t : ByteArray) (b : Bool) : zA2 t b ≤ t.size := numA_le (zA1_le t b)
theorem zA3_le (t : ByteArray) (b : Bool) : zA3 t b ≤ t.size := l5A_le (zA2_le t b)
theorem yA3_le (t : ByteArray) (b : Bool) : yA3 t b ≤ t.size := shA_le (zA2_le t b)
def zConf (c : ByteArray) : List Int := if rcB c then natsL c else []
def zX (t : ByteArray) (b : Bool) : Snp := ⟨zI t b, zT t b, zConf (zC t b), zD t b⟩
def yX (t : ByteArray) (b : Bool) : Snp := ⟨zI t b, zT t b, natsL (yC t b), yD t b⟩
def uT (s : ByteArray) : ByteArray := if uB s then uIn s else ⟨#[]⟩
def sOk (s : ByteArray) : Bool := (!zB4 (uT s) (!uB s) && snF (zX (uT s) (!uB s))) && decide (seB (snI (zX (uT s) (!uB s))) = s)
def iOk (s : ByteArray) : Bool := (uB s && !decide ((20000 : Int) < (s.size : Int))) && (((!yB4 (uIn s) false && decide ((yA4 (uIn s) false : Int) = ((uIn s).size : Int))) && !decide ((4 : Int) < ((yC (uIn s) false).size : Int))) && snF (yX (uIn s) false))
def snZ : List X := [.agg [.v (.int .i64 0), .v (.int .i64 0), .v (.slice none 0 0), .v (.string ⟨#[]⟩)], bo false]
def sR (s : ByteArray) : List X := if sOk s then [.agg ((zX (uT s) (!uB s)).enc (.own 1)), bo true] else snZ
def iR (s : ByteArray) : List X := if iOk s then [.agg ((yX (uIn s) false).enc (.own 1)), bo true] else snZ

/-! ### both ways are one -/
theorem zB4_up {t : ByteArray} {b : Bool} (h : zB4 t b = false) : b = false ∧ zB3 t b = false ∧ zB2 t b = false ∧ zB1 t b = false := by
  have h3 := (short_good (show l5B t (zA3 t b) (zB3 t b) = false from h)).1
  have h2 := (short_good (show l5B t (zA2 t b) (zB2 t b) = false from h3)).1
  have h1 := (num_good (show numB t (zA1 t b) (zB1 t b) = false from h2)).1
  exact ⟨(num_good (show numB t 0 b = false from h1)).1, h3, h2, h1⟩
theorem z_text {t : ByteArray} {b : Bool} (h : zB4 t b = false) (hc : rcB (zC t b) = true) : (snI (zX t b)).data.toList = seg t 0 (zA4 t b) ∧ zA4 t b ≤ t.size := by
  obtain ⟨h3, p4, q4, v4, _⟩ := short_good (show l5B t (zA3 t b) (zB3 t b) = false from h)
  obtain ⟨h2, p3, q3, v3, _⟩ := short_good (show l5B t (zA2 t b) (zB2 t b) = false from h3)
  obtain ⟨h1, p2, q2, v2⟩ := num_good (show numB t (zA1 t b) (zB1 t b) = false from h2)
  obtain ⟨_, p1, q1, v1⟩ := num_good (show numB t 0 b = false from h1)
  change zA3 t b < zA4 t b at p4
  change zA2 t b < zA3 t b at p3
  change zA1 t b < zA2 t b at p2
  change 0 < zA1 t b at p1
  change varL (zI t b) = seg t 0 (zA1 t b - 0) at v1
  change varL (zT t b) = seg t (zA1 t b) (zA2 t b - zA1 t b) at v2
  change (shortB (zC t b)).data.toList = seg t (zA2 t b) (zA3 t b - zA2 t b) at v3
  change (shortB (zD t b)).data.toList = seg t (zA3 t b) (zA4 t b - zA3 t b) at v4
  refine ⟨?_, q4⟩
  unfold snI zX zConf
  simp only [hc, if_true, octB_nats, Int.toNat_natCast]
  rw [app_list, app_list, app_list, varB_list, varB_list, v1, v2, v3, v4, Nat.sub_zero]
  have hs : zA4 t b = ((zA1 t b + (zA2 t b - zA1 t b)) + (zA3 t b - zA2 t b)) + (zA4 t b - zA3 t b) := by omega
  conv => rhs; rw [hs]
  rw [seg_append, seg_append, seg_append, show 0 + zA1 t b = zA1 t b by omega, show 0 + (zA1 t b + (zA2 t b - zA1 t b)) = zA2 t b by omega,
    show 0 + (zA1 t b + (zA2 t b - zA1 t b) + (zA3 t b - zA2 t b)) = zA3 t b by omega]
theorem sOk_conf {x : Snp} (h : snF x = true) : confB x.conf = true ∧ x.body.size ≤ 20000 ∧ (snI x).size + 4 ≤ 20000 := by
  simp only [snF, snB, Bool.and_eq_true, Bool.not_eq_true', decide_eq_false_iff_not] at h
  exact ⟨h.1.1.2, by have := h.1.2; omega, by have := h.2; omega⟩
theorem zConf_false {c : ByteArray} (h : rcB c = false) : confB (zConf c) = false := by
  unfold zConf; rw [h]; rfl
theorem snF_conf {x : Snp} (h : confB x.conf = false) : snF x = false := by
  rw [snF, snB, h, Bool.and_false, Bool.false_and, Bool.false_and]
theorem iR_eq (s : ByteArray) : iR s = sR s := by
  have off : iOk s = false → sOk s = false → iR s = sR s := fun h1 h2 => by unfold iR sR; rw [h1, h2]; rfl
  cases hu : uB s with
  | false =>
    refine off (by rw [iOk, hu]; rfl) ?_
    have : zB4 (uT s) (!uB s) = true := by
      cases h : zB4 (uT s) (!uB s) with
      | true => rfl
      | false => have := (zB4_up h).1; rw [hu] at this; cases this
    rw [sOk, this]; rfl
  | true =>
  obtain ⟨hs, h20, hsz⟩ := uB_spec hu
  have ht : uT s = uIn s := by unfold uT; rw [hu]; rfl
  have hsO : sOk s = ((!zB4 (uIn s) false && snF (zX (uIn s) false)) && decide (seB (snI (zX (uIn s) false)) = s)) := by unfold sOk; rw [ht, hu]; rfl
  have hsR : sR s = if sOk s then [.agg ((zX (uIn s) false).enc (.own 1)), bo true] else snZ := by unfold sR; rw [ht, hu]; rfl
  have hiO : iOk s = (!decide ((20000 : Int) < (s.size : Int)) && (((!yB4 (uIn s) false && decide ((yA4 (uIn s) false : Int) = ((uIn s).size : Int))) && !decide ((4 : Int) < ((yC (uIn s) false).size : Int))) && snF (yX (uIn s) false))) := by unfold iOk; rw [hu]; rfl
  generalize uIn s = t at *
  by_cases hbig : (20000 : Int) < (s.size : Int)
  · refine off (by rw [hiO, decide_eq_true hbig]; rfl) ?_
    rw [hsO]
    cases hf : snF (zX t false) with
    | false => simp
    | true =>
      have h5 := (sOk_conf hf).2.2
      have : decide (seB (snI (zX t false)) = s) = false := decide_eq_false fun h => by
        have h6 := congrArg ByteArray.size h
        rw [seB_size] at h6; omega
      rw [this]; simp
  have hbig' : decide ((20000 : Int) < (s.size : Int)) = false := decide_eq_false hbig
  by_cases n3 : numN t (zA2 t false) (zB2 t false) ≤ 20000
  · obtain ⟨e1, e2, e3⟩ := sh_small n3
    have f1 : yC t false = zC t false := e1
    have f2 : yA3 t false = zA3 t false := e2
    have f3 : yB3 t false = zB3 t false := e3
    by_cases n4 : numN t (zA3 t false) (zB3 t false) ≤ 20000
    · obtain ⟨e4, e5, e6⟩ := sh_small n4
      have f4 : yD t false = zD t false := by rw [yD, f2, f3]; exact e4
      have f5 : yA4 t false = zA4 t false := by rw [yA4, f2, f3]; exact e5
      have f6 : yB4 t false = zB4 t false := by rw [yB4, f2, f3]; exact e6
      cases h4 : zB4 t false with
      | true => exact off (by rw [hiO, f6, h4]; simp) (by rw [hsO, h4]; rfl)
      | false =>
        cases hc : rcB (zC t false) with
        | false =>
          refine off ?_ (by rw [hsO, snF_conf (x := zX t false) (zConf_false hc)]; simp)
          rw [hiO, f1]
          by_cases h5 : (4 : Int) < ((zC t false).size : Int)
          · rw [decide_eq_true h5]; simp
          · have h6 : confB (natsL (zC t false)) = false := by
              simp only [rcB] at hc
              rw [decide_eq_true (show ((zC t false).size : Int) ≤ 4 by omega), Bool.true_and] at hc
              exact hc
            have h7 : snF (yX t false) = false := snF_conf (x := yX t false) (by show confB (natsL (yC t false)) = false; rw [f1]; exact h6)
            rw [h7]; simp
        | true =>
          have hX : yX t false = zX t false := by
            unfold yX zX zConf; rw [f1, f4, hc]; rfl
          have h5 : ((zC t false).size : Int) ≤ 4 := by
            simp only [rcB, Bool.and_eq_true, decide_eq_true_eq] at hc; exact hc.1
          obtain ⟨hl, hle⟩ := z_text h4 hc
          have hsi : (snI (zX t false)).size = zA4 t false := by
            rw [show (snI (zX t false)).size = (snI (zX t false)).data.toList.length from by rw [Array.length_toList]; rfl, hl, seg_len (by omega)]
          have hiff : decide ((yA4 t false : Int) = (t.size : Int)) = decide (seB (snI (zX t false)) = s) := by
            rw [f5]
            by_cases h6 : zA4 t false = t.size
            · have h7 : snI (zX t false) = t := bytes_ext (by rw [hl, h6, seg_all])
              rw [decide_eq_true (by omega), decide_eq_true (by rw [h7, ← hs])]
            · rw [decide_eq_false (by omega), decide_eq_false fun h => h6 (by
                have h7 := congrArg ByteArray.size h
                rw [seB_size] at h7; omega)]
          have hok : iOk s = sOk s := by
            rw [hiO, hsO, hbig', f6, h4, f1, decide_eq_false (show ¬ (4 : Int) < ((zC t false).size : Int) by omega), hX, hiff]
            cases snF (zX t false) <;> cases decide (seB (snI (zX t false)) = s) <;> rfl
          rw [hsR]
          unfold iR
          rw [hok]
          cases hk : sOk s with
          | false => rfl
          | true =>
            have : uIn s = t := by
              have h9 := hs
              exact (by
                have h10 := uB_spec hu
                have h11 : seB (uIn s) = seB t := by rw [← h10.1, ← hs]
                have h12 : (uIn s).size = t.size := by have := congrArg ByteArray.size h11; rw [seB_size, seB_size] at this; omega
                have h13 : (seB (uIn s)).data.toList = (seB t).data.toList := by rw [h11]
                unfold seB at h13
                rw [app_list, app_list] at h13
                exact bytes_ext (List.append_inj_left h13 (by rw [Array.length_toList, Array.length_toList]; exact h12)))
            rw [this, hX]
    · have g4 : yB4 t false = true := by rw [yB4, f2, f3]; exact sh_bad (if_pos (by omega))
      refine off (by rw [hiO, g4]; simp) ?_
      rw [hsO]
      cases h4 : zB4 t false with
      | true => rfl
      | false =>
        have := (short_good (show l5B t (zA3 t false) (zB3 t false) = false from h4)).2.2.2.2
        cases hf : snF (zX t false) with
        | false => rfl
        | true =>
          have h5 := (sOk_conf hf).2.1
          change (zD t false).size ≤ 20000 at h5
          change (zD t false).size = _ at this
          omega
  · have g3 : yB3 t false = true := sh_bad (if_pos (by omega))
    have g4 : yB4 t false = true := by rw [yB4, g3]; exact sh_bad (shB_true _ _)
    refine off (by rw [hiO, g4]; simp) ?_
    rw [hsO]
    cases h4 : zB4 t false with
    | true => rfl
    | false =>
      have := (short_good (show l5B t (zA2 t false) (zB2 t false) = false from (zB4_up h4).2.1)).2.2.2.2
      change (zC t false).size = _ at this
      have hc : rcB (zC t false) = false := by rw [rcB, decide_eq_false (by omega)]; rfl
      rw [snF_conf (x := zX t false) (zConf_false hc)]; rfl
end Go.Proofs.YtennhlaibefacaaDoor

