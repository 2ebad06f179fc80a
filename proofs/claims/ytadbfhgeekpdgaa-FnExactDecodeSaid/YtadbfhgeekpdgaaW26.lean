/- Decode: both ways come to the same. -/
import Derived.Test.YtadbfhgeekpdgaaW25
namespace Go.Proofs.Ytadbfhgeekpdgaa
open Go.RowKit Go.Rx
set_option linter.unusedSimpArgs false
set_option maxRecDepth 100000

/-! ### a message's text -/
def ctT (l : List Int) : ByteArray := if confB l then octB l else ⟨#[]⟩
def hdB (m : Msg) : ByteArray := ((((((⟨[oct8 m.kind, oct8 m.from_, oct8 m.to_].toArray⟩ ++ varB m.term.toNat) ++ varB m.index.toNat) ++ varB m.logTerm.toNat) ++ varB m.commit.toNat) ++ flB m.ok) ++ flB m.last) ++ varB m.es.length
def esB (s : ByteArray) : List Ent → ByteArray
  | [] => s
  | e :: es => esB (s ++ shortB (etE e)) es
def encB (m : Msg) : ByteArray := (esB (hdB m) m.es ++ shortB (ctT m.conf)) ++ shortB m.data
def encL (m : Msg) : List UInt8 := oct8 m.kind :: oct8 m.from_ :: oct8 m.to_ :: (varL m.term.toNat ++ (varL m.index.toNat ++ (varL m.logTerm.toNat ++ (varL m.commit.toNat ++
  ((if m.ok then 1 else 0) :: (if m.last then 1 else 0) :: (varL m.es.length ++ (entsL m.es ++ ((shortB (ctT m.conf)).data.toList ++ (shortB m.data).data.toList))))))))
theorem esB_list : ∀ (es : List Ent) (s : ByteArray), (esB s es).data.toList = s.data.toList ++ entsL es
  | [], s => by show s.data.toList = _ ++ []; rw [List.append_nil]
  | e :: es, s => by rw [esB, esB_list es, app_list, entsL_cons, List.append_assoc]
theorem encB_list (m : Msg) : (encB m).data.toList = encL m := by
  unfold encB encL hdB
  simp only [app_list, esB_list, varB_list, flB_list, List.append_assoc, List.cons_append, List.nil_append]

/-! ### where the parts stand -/
def gA1 (t : ByteArray) (a : Nat) (b : Bool) : Nat := numA t a b
def gB1 (t : ByteArray) (a : Nat) (b : Bool) : Bool := numB t a b
def gA2 (t : ByteArray) (a : Nat) (b : Bool) : Nat := numA t (gA1 t a b) (gB1 t a b)
def gB2 (t : ByteArray) (a : Nat) (b : Bool) : Bool := numB t (gA1 t a b) (gB1 t a b)
def gA3 (t : ByteArray) (a : Nat) (b : Bool) : Nat := numA t (gA2 t a b) (gB2 t a b)
def gB3 (t : ByteArray) (a : Nat) (b : Bool) : Bool := numB t (gA2 t a b) (gB2 t a b)
def gA4 (t : ByteArray) (a : Nat) (b : Bool) : Nat := numA t (gA3 t a b) (gB3 t a b)
def gB4 (t : ByteArray) (a : Nat) (b : Bool) : Bool := numB t (gA3 t a b) (gB3 t a b)
def gA5 (t : ByteArray) (a : Nat) (b : Bool) : Nat := takeA t (gA4 t a b) (gB4 t a b) 1
def gT (t : ByteArray) (a : Nat) (b : Bool) : Nat := numN t a b
def gI (t : ByteArray) (a : Nat) (b : Bool) : Nat := numN t (gA1 t a b) (gB1 t a b)
def gL (t : ByteArray) (a : Nat) (b : Bool) : Nat := numN t (gA2 t a b) (gB2 t a b)
def gC (t : ByteArray) (a : Nat) (b : Bool) : Nat := numN t (gA3 t a b) (gB3 t a b)
/- the document's -/
def sF1 (t : ByteArray) (a : Nat) (b : Bool) : ByteArray := takeT t (gA4 t a b) (gB4 t a b) 1
def sB5 (t : ByteArray) (a : Nat) (b : Bool) : Bool := takeB t (gA4 t a b) (gB4 t a b) 1
def sF2 (t : ByteArray) (a : Nat) (b : Bool) : ByteArray := takeT t (gA5 t a b) (sB5 t a b) 1
def sA6 (t : ByteArray) (a : Nat) (b : Bool) : Nat := takeA t (gA5 t a b) (sB5 t a b) 1
def sB6 (t : ByteArray) (a : Nat) (b : Bool) : Bool := takeB t (gA5 t a b) (sB5 t a b) 1
def sN (t : ByteArray) (a : Nat) (b : Bool) : Nat := numN t (sA6 t a b) (sB6 t a b)
def sA7 (t : ByteArray) (a : Nat) (b : Bool) : Nat := numA t (sA6 t a b) (sB6 t a b)
def sB7 (t : ByteArray) (a : Nat) (b : Bool) : Bool := numB t (sA6 t a b) (sB6 t a b)
def sR7 (t : ByteArray) (a : Nat) (b : Bool) : Nat × Bool × List Ent := spR t (min (sN t a b) 5) (sA7 t a b) (sB7 t a b)
def sA8 (t : ByteArray) (a : Nat) (b : Bool) : Nat := (sR7 t a b).1
def sB8 (t : ByteArray) (a : Nat) (b : Bool) : Bool := (sR7 t a b).2.1
def sEs (t : ByteArray) (a : Nat) (b : Bool) : List Ent := (sR7 t a b).2.2
def sC (t : ByteArray) (a : Nat) (b : Bool) : ByteArray := l5T t (sA8 t a b) (sB8 t a b)
def sA9 (t : ByteArray) (a : Nat) (b : Bool) : Nat := l5A t (sA8 t a b) (sB8 t a b)
def sB9 (t : ByteArray) (a : Nat) (b : Bool) : Bool := l5B t (sA8 t a b) (sB8 t a b)
def sD (t : ByteArray) (a : Nat) (b : Bool) : ByteArray := l5T t (sA9 t a b) (sB9 t a b)
def sA0 (t : ByteArray) (a : Nat) (b : Bool) : Nat := l5A t (sA9 t a b) (sB9 t a b)
def sB0 (t : ByteArray) (a : Nat) (b : Bool) : Bool := l5B t (sA9 t a b) (sB9 t a b)
/- the program's -/
def jB5 (t : ByteArray) (a : Nat) (b : Bool) : Bool := flagB t (gA4 t a b) (gB4 t a b)
def jA6 (t : ByteArray) (a : Nat) (b : Bool) : Nat := takeA t (gA5 t a b) (jB5 t a b) 1
def jB6 (t : ByteArray) (a : Nat) (b : Bool) : Bool := flagB t (gA5 t a b) (jB5 t a b)
def cnN (t : ByteArray) (a : Nat) (b : Bool) : Nat := if 4 < numN t a b then 0 else numN t a b
def cnB (t : ByteArray) (a : Nat) (b : Bool) : Bool := if 4 < numN t a b then true else numB t a b
def jN (t : ByteArray) (a : Nat) (b : Bool) : Nat := cnN t (jA6 t a b) (jB6 t a b)
def jA7 (t : ByteArray) (a : Nat) (b : Bool) : Nat := numA t (jA6 t a b) (jB6 t a b)
def jB7 (t : ByteArray) (a : Nat) (b : Bool) : Bool := cnB t (jA6 t a b) (jB6 t a b)
def jR7 (t : ByteArray) (a : Nat) (b : Bool) : Nat × Bool × List Ent := imR t (jN t a b) (jA7 t a b) (jB7 t a b)
def jA8 (t : ByteArray) (a : Nat) (b : Bool) : Nat := (jR7 t a b).1
def jB8 (t : ByteArray) (a : Nat) (b : Bool) : Bool := (jR7 t a b).2.1
def jEs (t : ByteArray) (a : Nat) (b : Bool) : List Ent := (jR7 t a b).2.2
def jC (t : ByteArray) (a : Nat) (b : Bool) : ByteArray := shT t (jA8 t a b) (jB8 t a b)
def jA9 (t : ByteArray) (a : Nat) (b : Bool) : Nat := shA t (jA8 t a b) (jB8 t a b)
def jB9 (t : ByteArray) (a : Nat) (b : Bool) : Bool := shBB t (jA8 t a b) (jB8 t a b)
def jD (t : ByteArray) (a : Nat) (b : Bool) : ByteArray := shT t (jA9 t a b) (jB9 t a b)
def jA0 (t : ByteArray) (a : Nat) (b : Bool) : Nat := shA t (jA9 t a b) (jB9 t a b)
def jB0 (t : ByteArray) (a : Nat) (b : Bool) : Bool := shBB t (jA9 t a b) (jB9 t a b)
def iA1 (t : ByteArray) : Nat := takeA t 0 false 1
def iB1 (t : ByteArray) : Bool := takeB t 0 false 1
def iA2 (t : ByteArray) : Nat := takeA t (iA1 t) (iB1 t) 1
def iB2 (t : ByteArray) : Bool := takeB t (iA1 t) (iB1 t) 1
def iA3 (t : ByteArray) : Nat := takeA t (iA2 t) (iB2 t) 1
def iB3 (t : ByteArray) : Bool := takeB t (iA2 t) (iB2 t) 1
def mS (t : ByteArray) : Msg := ⟨((bu t 0).toNat : Nat), ((bu t 1).toNat : Nat), ((bu t 2).toNat : Nat), gT t 3 false, gI t 3 false, gL t 3 false, gC t 3 false, decide (sF1 t 3 false = ⟨#[1]⟩), sEs t 3 false, zConf (sC t 3 false), sD t 3 false, decide (sF2 t 3 false = ⟨#[1]⟩)⟩
def mIp (t : ByteArray) (k f o : Nat) (a : Nat) (b : Bool) : Msg := ⟨k, f, o, gT t a b, gI t a b, gL t a b, gC t a b, decide ((octN t (gA4 t a b) (gB4 t a b) : Int) = 1), jEs t a b, natsL (jC t a b), jD t a b, decide ((octN t (gA5 t a b) (jB5 t a b) : Int) = 1)⟩
def mI (t : ByteArray) : Msg := mIp t (octN t 0 false) (octN t (iA1 t) (iB1 t)) (octN t (iA2 t) (iB2 t)) (iA3 t) (iB3 t)
def mZ : Msg := ⟨0, 0, 0, 0, 0, 0, 0, false, [], [], ⟨#[]⟩, false⟩
def sGood (t : ByteArray) : Bool := !takeB t 0 false 3 && ((!sB0 t 3 false && moB (mS t)) && decide (encB (mS t) = t))
def iGood (t : ByteArray) : Bool := (!jB0 t (iA3 t) (iB3 t) && decide ((jA0 t (iA3 t) (iB3 t) : Int) = (t.size : Int))) && moB (mI t)
def mSR (t : ByteArray) : List X := if sGood t then [.agg ((mS t).enc (.own 3) (.own 1)), bo true] else [.agg (mZ.enc (.own 3) (.own 1)), bo false]
def mIR (t : ByteArray) : List X := if iGood t then [.agg ((mI t).enc (.own 3) (.own 1)), bo true] else [.agg (mZ.enc (.own 3) (.own 1)), bo false]

/-! ### flags, heads, confs -/
theorem flag_rest {t : ByteArray} {a : Nat} {b : Bool} (h : flagB t a b = false) : takeB t a b 1 = false ∧ octN t a b ≤ 1 := by
  unfold flagB at h
  split at h
  · cases h
  · exact ⟨h, by omega⟩
theorem flag_make {t : ByteArray} {a : Nat} {b : Bool} (h : takeB t a b 1 = false) (h2 : octN t a b ≤ 1) : flagB t a b = false := by
  unfold flagB; rw [if_neg (by omega)]; exact h
theorem ok_flag {t : ByteArray} {a : Nat} {b : Bool} (h : takeB t a b 1 = false) : decide (takeT t a b 1 = ⟨#[1]⟩) = decide ((octN t a b : Int) = 1) := by
  obtain ⟨_, _, _, _, h1, h2⟩ := oct_rest h
  rw [h1, h2]
  by_cases c : bu t a = 1
  · rw [c]; rfl
  · rw [decide_eq_false, decide_eq_false]
    · intro hh; exact c (UInt8.toNat_inj.1 (by show _ = 1; omega))
    · intro hh; apply c; simpa using hh
theorem fl_byte {t : ByteArray} {a : Nat} {b : Bool} (h : takeB t a b 1 = false) (h2 : octN t a b ≤ 1) : (if decide ((octN t a b : Int) = 1) then (1 : UInt8) else 0) = bu t a := by
  obtain ⟨_, _, _, _, h1, _⟩ := oct_rest h
  rw [h1] at h2 ⊢
  apply UInt8.toNat_inj.1
  by_cases c : (bu t a).toNat = 1
  · rw [c]; rfl
  · have : (bu t a).toNat = 0 := by omega
    rw [this]; rfl
theorem fl_le {t : ByteArray} {a : Nat} {b y : Bool} (h : takeB t a b 1 = false) (h2 : (if y then (1 : UInt8) else 0) = bu t a) : octN t a b ≤ 1 := by
  obtain ⟨_, _, _, _, h1, _⟩ := oct_rest h
  rw [h1, ← h2]; cases y <;> decide
theorem natsL_nil : natsL ⟨#[]⟩ = [] := rfl
theorem ctT_conf {c : ByteArray} (h : ctT (zConf c) = c) : natsL c = zConf c := by
  unfold zConf at h ⊢
  cases hc : rcB c with
  | true => rfl
  | false =>
    rw [hc] at h
    have : c = ⟨#[]⟩ := h.symm
    rw [this]; rfl
theorem conf_small {c : ByteArray} (h : ctT (zConf c) = c) : c.size ≤ 4 := by
  unfold zConf at h
  cases hc : rcB c with
  | true => simp [rcB] at hc; omega
  | false =>
    rw [hc] at h
    have : c = ⟨#[]⟩ := h.symm
    rw [this]; exact Nat.zero_le _
theorem natsL_zero {c : ByteArray} (h : (natsL c).length = 0) : c = ⟨#[]⟩ := by
  rw [natsL_length] at h
  apply bytes_ext
  have : c.data.toList.length = 0 := by rw [Array.length_toList]; exact h
  rw [List.eq_nil_of_length_eq_zero this]
theorem conf_nats {c : ByteArray} (h : (natsL c).length = 0 ∨ confB (natsL c) = true) : zConf c = natsL c ∧ ctT (natsL c) = c := by
  rcases h with h | h
  · rw [natsL_zero h]; exact ⟨by decide, by decide⟩
  · have hl := confB_len h
    rw [natsL_length] at hl
    refine ⟨?_, ?_⟩
    · unfold zConf rcB; rw [decide_eq_true (by omega), h]; rfl
    · unfold ctT; rw [if_pos h, octB_nats]
theorem moB_spec {m : Msg} (h : moB m = true) : (∀ e ∈ m.es, enB e = true) ∧ m.es.length ≤ 4 ∧ (m.conf.length = 0 ∨ confB m.conf = true) ∧ m.data.size ≤ 60 ∧
    (0 ≤ m.term ∧ m.term ≤ 100000) ∧ (0 ≤ m.logTerm ∧ m.logTerm ≤ 100000) ∧ (0 ≤ m.index ∧ m.index ≤ 1000000) ∧ (0 ≤ m.commit ∧ m.commit ≤ 1000000) ∧ (m.es.length = 0 ∨ m.conf.length = 0) := by
  simp only [moB, m1B, m2B, m3B, sndB, lenB, Bool.and_eq_true, decide_eq_true_eq, inR_spec, Bool.or_eq_true] at h
  obtain ⟨⟨⟨⟨⟨_, _⟩, _⟩, _⟩, ⟨⟨ht, hl⟩, hi⟩, hc⟩, ⟨hch, h4, h3⟩, h5⟩ := h
  refine ⟨chB_mem hch, by omega, ?_, ?_, ht, hl, hi, hc, ?_⟩
  · by_cases c : m.kind = 5
    · simp only [c, if_true, Bool.and_eq_true] at h5; exact .inr h5.1
    · simp only [c, if_false, Bool.and_eq_true, decide_eq_true_eq] at h5; exact .inl (by omega)
  · by_cases c : m.kind = 5
    · simp only [c, if_true, Bool.and_eq_true, decide_eq_true_eq] at h5; omega
    · simp only [c, if_false, Bool.and_eq_true, decide_eq_true_eq] at h5
      rw [h5.1.2]; exact Nat.zero_le _
  · by_cases c : m.kind = 5
    · left; rcases h3 with h3 | h3
      · omega
      · omega
    · simp only [c, if_false, Bool.and_eq_true, decide_eq_true_eq] at h5; exact .inr (by omega)
theorem take3 {t : ByteArray} : takeB t 0 false 3 = false ↔ 3 ≤ t.size := by
  simp [takeB, takeOk]

theorem iB3_spec {t : ByteArray} (h : iB3 t = false) : 3 ≤ t.size ∧ iA3 t = 3 ∧ octN t 0 false = (bu t 0).toNat ∧ octN t (iA1 t) (iB1 t) = (bu t 1).toNat ∧ octN t (iA2 t) (iB2 t) = (bu t 2).toNat ∧
    rest t 0 = bu t 0 :: bu t 1 :: bu t 2 :: rest t 3 := by
  obtain ⟨h2, a3, l3, r3, o3, _⟩ := oct_rest (show takeB t (iA2 t) (iB2 t) 1 = false from h)
  obtain ⟨h1, a2, l2, r2, o2, _⟩ := oct_rest (show takeB t (iA1 t) (iB1 t) 1 = false from h2)
  obtain ⟨_, a1, l1, r1, o1, _⟩ := oct_rest (show takeB t 0 false 1 = false from h1)
  have e1 : iA1 t = 1 := a1
  have e2 : iA2 t = 2 := by rw [show iA2 t = iA1 t + 1 from a2, e1]
  have e3 : iA3 t = 3 := by rw [show iA3 t = iA2 t + 1 from a3, e2]
  rw [e2] at r3 l3 o3
  rw [e1] at r2 o2
  refine ⟨l3, e3, o1, by rw [e1]; exact o2, by rw [e2]; exact o3, ?_⟩
  rw [r1, r2, r3]
theorem iB3_make {t : ByteArray} (h : 3 ≤ t.size) : iB3 t = false := by
  have e1 : takeOk t 0 false 1 = true := by simp [takeOk]; omega
  have b1 : iB1 t = false := by simp [iB1, takeB, e1]
  have a1 : iA1 t = 1 := by simp [iA1, takeA, e1]
  have e2 : takeOk t 1 false 1 = true := by simp [takeOk]; omega
  have b2 : iB2 t = false := by simp [iB2, a1, b1, takeB, e2]
  have a2 : iA2 t = 2 := by simp [iA2, a1, b1, takeA, e2]
  have e3 : takeOk t 2 false 1 = true := by simp [takeOk]; omega
  simp [iB3, a2, b2, takeB, e3]

/-! ### both ways are one -/
set_option maxHeartbeats 2000000 in
theorem i_good {t : ByteArray} (h : iGood t = true) : sGood t = true ∧ mS t = mI t := by
  simp only [iGood, Bool.and_eq_true, Bool.not_eq_true', decide_eq_true_eq] at h
  obtain ⟨⟨hB0, hA0⟩, hmo⟩ := h
  have key : ∀ a b, a ≤ t.size → jB0 t a b = false → b = false ∧ gB4 t a b = false ∧ jB5 t a b = false ∧ jB6 t a b = false ∧ jB7 t a b = false ∧ jB8 t a b = false ∧ jB9 t a b = false := by
    intro a b ha h0
    obtain ⟨_, _, x3⟩ := sh_small (sh_num h0)
    have h9 := (short_rest (x3.symm.trans h0)).1
    obtain ⟨_, _, x3⟩ := sh_small (sh_num (show shBB t (jA8 t a b) (jB8 t a b) = false from h9))
    have h8 := (short_rest (x3.symm.trans h9)).1
    have le1 : gA1 t a b ≤ t.size := numA_le ha
    have le2 : gA2 t a b ≤ t.size := numA_le le1
    have le3 : gA3 t a b ≤ t.size := numA_le le2
    have le4 : gA4 t a b ≤ t.size := numA_le le3
    have le5 : gA5 t a b ≤ t.size := takeA_le le4
    have le6 : jA6 t a b ≤ t.size := takeA_le le5
    have le7 : jA7 t a b ≤ t.size := numA_le le6
    have h7 := (im_sp t _ _ _ le7 h8).1
    have h6 : jB6 t a b = false := by
      have h7' : cnB t (jA6 t a b) (jB6 t a b) = false := h7
      unfold cnB at h7'
      split at h7'
      · cases h7'
      · exact (num_good h7').1
    have h5 := (oct_rest (flag_rest (show flagB t (gA5 t a b) (jB5 t a b) = false from h6)).1).1
    have h4 := (oct_rest (flag_rest (show flagB t (gA4 t a b) (gB4 t a b) = false from h5)).1).1
    have h3 := (num_good (show numB t (gA3 t a b) (gB3 t a b) = false from h4)).1
    have h2 := (num_good (show numB t (gA2 t a b) (gB2 t a b) = false from h3)).1
    have h1 := (num_good (show numB t (gA1 t a b) (gB1 t a b) = false from h2)).1
    exact ⟨(num_good (show numB t a b = false from h1)).1, h4, h5, h6, h7, h8, h9⟩
  have l1 : iA1 t ≤ t.size := takeA_le (Nat.zero_le _)
  have l2 : iA2 t ≤ t.size := takeA_le l1
  have l3 : iA3 t ≤ t.size := takeA_le l2
  have hb3 := (key _ _ l3 hB0).1
  obtain ⟨hsz, e3, o1, o2, o3, r0⟩ := iB3_spec hb3
  have emI : mI t = mIp t (bu t 0).toNat (bu t 1).toNat (bu t 2).toNat 3 false := by unfold mI; rw [o1, o2, o3, e3, hb3]
  rw [emI] at hmo ⊢
  rw [e3, hb3] at hB0 hA0
  obtain ⟨_, h4, h5, h6, h7, h8, h9⟩ := key 3 false hsz hB0
  have le1 : gA1 t 3 false ≤ t.size := numA_le hsz
  have le2 : gA2 t 3 false ≤ t.size := numA_le le1
  have le3 : gA3 t 3 false ≤ t.size := numA_le le2
  have le4 : gA4 t 3 false ≤ t.size := numA_le le3
  have le5 : gA5 t 3 false ≤ t.size := takeA_le le4
  have le6 : jA6 t 3 false ≤ t.size := takeA_le le5
  have le7 : jA7 t 3 false ≤ t.size := numA_le le6
  obtain ⟨h3, q4, r4⟩ := num_rest (show numB t (gA3 t 3 false) (gB3 t 3 false) = false from h4)
  obtain ⟨h2, q3, r3⟩ := num_rest (show numB t (gA2 t 3 false) (gB2 t 3 false) = false from h3)
  obtain ⟨h1, q2, r2⟩ := num_rest (show numB t (gA1 t 3 false) (gB1 t 3 false) = false from h2)
  obtain ⟨_, q1, r1⟩ := num_rest (show numB t 3 false = false from h1)
  obtain ⟨f5, y5⟩ := flag_rest (show flagB t (gA4 t 3 false) (gB4 t 3 false) = false from h5)
  obtain ⟨f6, y6⟩ := flag_rest (show flagB t (gA5 t 3 false) (jB5 t 3 false) = false from h6)
  have k5 := ok_flag f5
  have k6 := ok_flag f6
  have z5 := fl_byte f5 y5
  have z6 := fl_byte f6 y6
  obtain ⟨_, a5, _, r5, _, _⟩ := oct_rest f5
  obtain ⟨_, a6, _, r6, _, _⟩ := oct_rest f6
  have e5 : sB5 t 3 false = jB5 t 3 false := by rw [h5]; exact f5
  have eA6 : sA6 t 3 false = jA6 t 3 false := by unfold sA6 jA6; rw [e5]
  have e6 : sB6 t 3 false = jB6 t 3 false := by unfold sB6; rw [e5, h6]; exact f6
  have h7' : cnB t (jA6 t 3 false) (jB6 t 3 false) = false := h7
  have hn4 : ¬ 4 < numN t (jA6 t 3 false) (jB6 t 3 false) := by
    intro c; unfold cnB at h7'; rw [if_pos c] at h7'; cases h7'
  unfold cnB at h7'
  rw [if_neg hn4] at h7'
  obtain ⟨_, q7, r7⟩ := num_rest h7'
  have eN : sN t 3 false = numN t (jA6 t 3 false) (jB6 t 3 false) := by unfold sN; rw [eA6, e6]
  have eJ : jN t 3 false = numN t (jA6 t 3 false) (jB6 t 3 false) := by unfold jN cnN; rw [if_neg hn4]
  have eA7 : sA7 t 3 false = jA7 t 3 false := by unfold sA7 jA7; rw [eA6, e6]
  have e7 : sB7 t 3 false = jB7 t 3 false := by unfold sB7; rw [eA6, e6, h7, h7']
  obtain ⟨_, hspe, hlen, le8, r8⟩ := im_sp t _ _ _ le7 (show (imR t (jN t 3 false) (jA7 t 3 false) (jB7 t 3 false)).2.1 = false from h8)
  have e8 : sR7 t 3 false = jR7 t 3 false := by
    unfold sR7 jR7
    rw [eN, eA7, e7, Nat.min_eq_left (by omega), ← eJ]; exact hspe
  obtain ⟨x1, x2, x3⟩ := sh_small (sh_num (show shBB t (jA8 t 3 false) (jB8 t 3 false) = false from h9))
  obtain ⟨y1, y2, y3⟩ := sh_small (sh_num (show shBB t (jA9 t 3 false) (jB9 t 3 false) = false from hB0))
  have eA8 : sA8 t 3 false = jA8 t 3 false := by unfold sA8 jA8; rw [e8]
  have eB8 : sB8 t 3 false = jB8 t 3 false := by unfold sB8 jB8; rw [e8]
  have eEs : sEs t 3 false = jEs t 3 false := by unfold sEs jEs; rw [e8]
  have eC : sC t 3 false = jC t 3 false := by unfold sC jC; rw [eA8, eB8, x1]
  have eA9 : sA9 t 3 false = jA9 t 3 false := by unfold sA9 jA9; rw [eA8, eB8, x2]
  have eB9 : sB9 t 3 false = jB9 t 3 false := by unfold sB9 jB9; rw [eA8, eB8, x3]
  have eD : sD t 3 false = jD t 3 false := by unfold sD jD; rw [eA9, eB9, y1]
  have eA0 : sA0 t 3 false = jA0 t 3 false := by unfold sA0 jA0; rw [eA9, eB9, y2]
  have eB0 : sB0 t 3 false = jB0 t 3 false := by unfold sB0 jB0; rw [eA9, eB9, y3]
  obtain ⟨_, q9, r9, _⟩ := short_rest (x3.symm.trans h9)
  obtain ⟨_, q0, r10, _⟩ := short_rest (y3.symm.trans hB0)
  obtain ⟨hen, hl4, hconf, hdat, _⟩ := moB_spec hmo
  obtain ⟨c1, c2⟩ := conf_nats hconf
  have eM : mS t = mIp t (bu t 0).toNat (bu t 1).toNat (bu t 2).toNat 3 false := by
    unfold mS mIp
    rw [eEs, eC, c1, eD]
    have o1 : decide (sF1 t 3 false = ⟨#[1]⟩) = decide ((octN t (gA4 t 3 false) (gB4 t 3 false) : Int) = 1) := k5
    have o2 : decide (sF2 t 3 false = ⟨#[1]⟩) = decide ((octN t (gA5 t 3 false) (jB5 t 3 false) : Int) = 1) := by
      unfold sF2; rw [e5]; exact k6
    rw [o1, o2]
  refine ⟨?_, eM⟩
  have henc : encB (mS t) = t := by
    apply bytes_ext
    rw [encB_list, eM]
    show _ = rest t 0
    rw [r0, r1]
    change rest t (gA1 t 3 false) = varL (gI t 3 false) ++ rest t (gA2 t 3 false) at r2
    change rest t (gA2 t 3 false) = varL (gL t 3 false) ++ rest t (gA3 t 3 false) at r3
    change rest t (gA3 t 3 false) = varL (gC t 3 false) ++ rest t (gA4 t 3 false) at r4
    have r5' : rest t (gA4 t 3 false) = bu t (gA4 t 3 false) :: rest t (gA5 t 3 false) := by rw [r5]; congr 2; exact a5.symm
    have r6' : rest t (gA5 t 3 false) = bu t (gA5 t 3 false) :: rest t (jA6 t 3 false) := by rw [r6]; congr 2; exact a6.symm
    have r7' : rest t (jA6 t 3 false) = varL (jEs t 3 false).length ++ rest t (jA7 t 3 false) := by
      rw [r7, ← eJ, ← hlen]; rfl
    change rest t (jA7 t 3 false) = entsL (jEs t 3 false) ++ rest t (jA8 t 3 false) at r8
    have r9' : rest t (jA8 t 3 false) = (shortB (jC t 3 false)).data.toList ++ rest t (jA9 t 3 false) := by
      rw [r9, ← x1, ← x2]; rfl
    have r10' : rest t (jA9 t 3 false) = (shortB (jD t 3 false)).data.toList ++ rest t (jA0 t 3 false) := by
      rw [r10, ← y1, ← y2]; rfl
    have hend : rest t (jA0 t 3 false) = [] := (rest_end (by omega)).2 (by omega)
    rw [show numA t 3 false = gA1 t 3 false from rfl, r2, r3, r4, r5', r6', r7', r8, r9', r10', hend, List.append_nil]
    unfold encL mIp
    simp only [Int.toNat_natCast, oct8_nat]
    rw [z5, z6, c2]; rfl
  unfold sGood
  rw [take3.2 hsz, eB0, hB0, eM, hmo, ← eM, henc]
  simp
set_option maxHeartbeats 2000000 in
theorem s_good {t : ByteArray} (h : sGood t = true) : iGood t = true ∧ mI t = mS t := by
  simp only [sGood, Bool.and_eq_true, Bool.not_eq_true', decide_eq_true_eq] at h
  obtain ⟨hsz, ⟨hB0, hmo⟩, henc⟩ := h
  rw [take3] at hsz
  have le1 : gA1 t 3 false ≤ t.size := numA_le hsz
  have le2 : gA2 t 3 false ≤ t.size := numA_le le1
  have le3 : gA3 t 3 false ≤ t.size := numA_le le2
  have le4 : gA4 t 3 false ≤ t.size := numA_le le3
  have le5 : gA5 t 3 false ≤ t.size := takeA_le le4
  have le6 : sA6 t 3 false ≤ t.size := takeA_le le5
  have le7 : sA7 t 3 false ≤ t.size := numA_le le6
  obtain ⟨h9, q0, r10, n0⟩ := short_rest (show l5B t (sA9 t 3 false) (sB9 t 3 false) = false from hB0)
  obtain ⟨h8, q9, r9, n9⟩ := short_rest (show l5B t (sA8 t 3 false) (sB8 t 3 false) = false from h9)
  obtain ⟨h7, hlen, le8⟩ := sp_len t _ _ _ le7 (show (spR t (min (sN t 3 false) 5) (sA7 t 3 false) (sB7 t 3 false)).2.1 = false from h8)
  obtain ⟨h6, q7, r7⟩ := num_rest (show numB t (sA6 t 3 false) (sB6 t 3 false) = false from h7)
  have f6 : takeB t (gA5 t 3 false) (sB5 t 3 false) 1 = false := h6
  obtain ⟨h5, a6, _, r6, _, _⟩ := oct_rest f6
  have f5 : takeB t (gA4 t 3 false) (gB4 t 3 false) 1 = false := h5
  obtain ⟨h4, a5, _, r5, _, _⟩ := oct_rest f5
  obtain ⟨h3, q4, r4⟩ := num_rest (show numB t (gA3 t 3 false) (gB3 t 3 false) = false from h4)
  obtain ⟨h2, q3, r3⟩ := num_rest (show numB t (gA2 t 3 false) (gB2 t 3 false) = false from h3)
  obtain ⟨h1, q2, r2⟩ := num_rest (show numB t (gA1 t 3 false) (gB1 t 3 false) = false from h2)
  obtain ⟨_, q1, r1⟩ := num_rest (show numB t 3 false = false from h1)
  have hb3 := iB3_make hsz
  obtain ⟨_, e3, o1, o2, o3, r0⟩ := iB3_spec hb3
  have E : encL (mS t) = rest t 0 := by rw [← encB_list, henc]; rfl
  change rest t 3 = varL (gT t 3 false) ++ rest t (gA1 t 3 false) at r1
  change rest t (gA1 t 3 false) = varL (gI t 3 false) ++ rest t (gA2 t 3 false) at r2
  change rest t (gA2 t 3 false) = varL (gL t 3 false) ++ rest t (gA3 t 3 false) at r3
  change rest t (gA3 t 3 false) = varL (gC t 3 false) ++ rest t (gA4 t 3 false) at r4
  have r5' : rest t (gA4 t 3 false) = bu t (gA4 t 3 false) :: rest t (gA5 t 3 false) := by rw [r5]; congr 2; exact a5.symm
  have r6' : rest t (gA5 t 3 false) = bu t (gA5 t 3 false) :: rest t (sA6 t 3 false) := by rw [r6]; congr 2; exact a6.symm
  change rest t (sA6 t 3 false) = varL (sN t 3 false) ++ rest t (sA7 t 3 false) at r7
  change rest t (sA8 t 3 false) = (shortB (sC t 3 false)).data.toList ++ rest t (sA9 t 3 false) at r9
  change rest t (sA9 t 3 false) = (shortB (sD t 3 false)).data.toList ++ rest t (sA0 t 3 false) at r10
  obtain ⟨hen, hl4, hconf, hdat, _⟩ := moB_spec hmo
  rw [r0, r1, r2, r3, r4, r5', r6', r7] at E
  unfold encL at E
  simp only [mS] at E
  simp only [Int.toNat_natCast, oct8_nat, List.cons.injEq, true_and, List.append_cancel_left_eq] at E
  obtain ⟨E5, E6, E7⟩ := E
  obtain ⟨E7, E8⟩ := varL_pre _ _ _ _ E7
  have y5 := fl_le f5 E5
  have y6 := fl_le f6 E6
  have hl4' : (sEs t 3 false).length ≤ 4 := hl4
  have hsN : min (sN t 3 false) 5 = sN t 3 false := by
    have : (sEs t 3 false).length = min (sN t 3 false) 5 := hlen
    omega
  obtain ⟨s1, s2⟩ := sp_im t _ _ _ _ le7 (show (spR t (min (sN t 3 false) 5) (sA7 t 3 false) (sB7 t 3 false)).2.1 = false from h8) hen E8.symm
  have s2' : (shortB (ctT (zConf (sC t 3 false)))).data.toList ++ (shortB (sD t 3 false)).data.toList = rest t (sA8 t 3 false) := s2
  rw [r9] at s2'
  obtain ⟨p1, p2⟩ := short_pre s2'
  rw [r10] at p2
  have p2' : (shortB (sD t 3 false)).data.toList ++ [] = (shortB (sD t 3 false)).data.toList ++ rest t (sA0 t 3 false) := by rw [List.append_nil]; exact p2
  have p3 := (short_pre p2').2
  have hA0 : sA0 t 3 false = t.size := (rest_end (show sA0 t 3 false ≤ t.size from q0)).1 p3.symm
  have c1 := ctT_conf p1
  have c2 := conf_small p1
  have b5 : jB5 t 3 false = sB5 t 3 false := by rw [h5]; exact flag_make f5 y5
  have eA6 : jA6 t 3 false = sA6 t 3 false := by unfold jA6 sA6; rw [b5]
  have b6 : jB6 t 3 false = sB6 t 3 false := by rw [h6]; unfold jB6; rw [b5]; exact flag_make f6 y6
  have hn4 : ¬ 4 < numN t (sA6 t 3 false) (sB6 t 3 false) := by
    have : sN t 3 false = numN t (sA6 t 3 false) (sB6 t 3 false) := rfl
    omega
  have eN : jN t 3 false = sN t 3 false := by unfold jN cnN; rw [eA6, b6, if_neg hn4]; rfl
  have eA7 : jA7 t 3 false = sA7 t 3 false := by unfold jA7 sA7; rw [eA6, b6]
  have b7 : jB7 t 3 false = sB7 t 3 false := by unfold jB7 cnB; rw [eA6, b6, if_neg hn4]; rfl
  have e8 : jR7 t 3 false = sR7 t 3 false := by
    unfold jR7
    rw [eN, eA7, b7, ← hsN]; exact s1
  have eA8 : jA8 t 3 false = sA8 t 3 false := by unfold jA8 sA8; rw [e8]
  have eB8 : jB8 t 3 false = sB8 t 3 false := by unfold jB8 sB8; rw [e8]
  have eEs : jEs t 3 false = sEs t 3 false := by unfold jEs sEs; rw [e8]
  have hdat' : (sD t 3 false).size ≤ 60 := hdat
  obtain ⟨x1, x2, x3⟩ := sh_small (show numN t (sA8 t 3 false) (sB8 t 3 false) ≤ 20000 by rw [← n9]; exact Nat.le_trans c2 (by decide))
  obtain ⟨y1, y2, y3⟩ := sh_small (show numN t (sA9 t 3 false) (sB9 t 3 false) ≤ 20000 by rw [← n0]; exact Nat.le_trans hdat' (by decide))
  have eC : jC t 3 false = sC t 3 false := by unfold sC jC; rw [eA8, eB8, x1]
  have eA9 : jA9 t 3 false = sA9 t 3 false := by unfold sA9 jA9; rw [eA8, eB8, x2]
  have eB9 : jB9 t 3 false = sB9 t 3 false := by unfold sB9 jB9; rw [eA8, eB8, x3]
  have eD : jD t 3 false = sD t 3 false := by unfold sD jD; rw [eA9, eB9, y1]
  have eA0 : jA0 t 3 false = sA0 t 3 false := by unfold sA0 jA0; rw [eA9, eB9, y2]
  have eB0 : jB0 t 3 false = sB0 t 3 false := by unfold sB0 jB0; rw [eA9, eB9, y3]
  have eM : mI t = mS t := by
    unfold mI
    rw [o1, o2, o3, e3, hb3]
    unfold mS mIp
    rw [eEs, eC, c1, eD]
    have z1 : decide (sF1 t 3 false = ⟨#[1]⟩) = decide ((octN t (gA4 t 3 false) (gB4 t 3 false) : Int) = 1) := ok_flag f5
    have z2 : decide (sF2 t 3 false = ⟨#[1]⟩) = decide ((octN t (gA5 t 3 false) (jB5 t 3 false) : Int) = 1) := by
      rw [b5]; exact ok_flag f6
    rw [z1, z2]
  refine ⟨?_, eM⟩
  unfold iGood
  rw [eM, hmo, e3, hb3, eB0, hB0, eA0, hA0]
  simp
theorem mR_eq (t : ByteArray) : mIR t = mSR t := by
  unfold mIR mSR
  cases hi : iGood t with
  | true =>
    obtain ⟨h1, h2⟩ := i_good hi
    rw [h1, h2]
  | false =>
    cases hs : sGood t with
    | false => rfl
    | true => rw [(s_good hs).1] at hi; cases hi
end Go.Proofs.Ytadbfhgeekpdgaa
