/- Decode: what both ways read; both ways come to the same. -/
import Derived.Test.YtadbfhgeekpdgaaW24
namespace Go.Proofs.Ytadbfhgeekpdgaa
open Go.RowKit Go.Rx
set_option linter.unusedSimpArgs false
set_option maxRecDepth 100000

/-! ### what is left of a text -/
def rest (t : ByteArray) (a : Nat) : List UInt8 := t.data.toList.drop a
theorem rest_seg (t : ByteArray) {a b : Nat} (h : a ≤ b) : rest t a = seg t a (b - a) ++ rest t b := by
  unfold rest seg
  have : t.data.toList.drop b = (t.data.toList.drop a).drop (b - a) := by rw [List.drop_drop]; congr 1; omega
  rw [this, List.take_append_drop]
theorem rest_end {t : ByteArray} {a : Nat} (h : a ≤ t.size) : rest t a = [] ↔ a = t.size := by
  have h2 : t.data.toList.length = t.size := by rw [Array.length_toList]; rfl
  unfold rest
  rw [List.drop_eq_nil_iff]; omega
theorem num_rest {t : ByteArray} {a : Nat} {b : Bool} (h : numB t a b = false) :
    b = false ∧ numA t a b ≤ t.size ∧ rest t a = varL (numN t a b) ++ rest t (numA t a b) := by
  obtain ⟨h1, h2, h3, h4⟩ := num_good h
  exact ⟨h1, h3, by rw [h4]; exact rest_seg t (Nat.le_of_lt h2)⟩
theorem short_rest {t : ByteArray} {a : Nat} {b : Bool} (h : l5B t a b = false) :
    b = false ∧ l5A t a b ≤ t.size ∧ rest t a = (shortB (l5T t a b)).data.toList ++ rest t (l5A t a b) ∧ (l5T t a b).size = numN t a b := by
  obtain ⟨h1, h2, h3, h4, h5⟩ := short_good h
  exact ⟨h1, h3, by rw [h4]; exact rest_seg t (Nat.le_of_lt h2), h5⟩
theorem oct_rest {t : ByteArray} {a : Nat} {b : Bool} (h : takeB t a b 1 = false) :
    b = false ∧ takeA t a b 1 = a + 1 ∧ a + 1 ≤ t.size ∧ rest t a = bu t a :: rest t (a + 1) ∧ octN t a b = (bu t a).toNat ∧ takeT t a b 1 = ⟨#[bu t a]⟩ := by
  obtain ⟨h1, h2, h3, h4, h5⟩ := oct_good h
  refine ⟨h1, h2, h3, ?_, h4, ?_⟩
  · rw [rest_seg t (show a ≤ a + 1 by omega), show a + 1 - a = 1 by omega, h5]; rfl
  · rw [(takeB_false h).2.2.2]
    apply bytes_ext
    rw [extract_list, show a + 1 - a = 1 by omega, h5]

/-! ### numbers' and texts' beginnings -/
theorem varL_pre : ∀ (n m : Nat) (x y : List UInt8), varL n ++ x = varL m ++ y → n = m ∧ x = y := by
  intro n
  induction n using Nat.strongRecOn with
  | ind n ih =>
    intro m x y h
    by_cases h1 : n ≤ 127
    · by_cases h2 : m ≤ 127
      · rw [varL_small h1, varL_small h2] at h
        simp only [List.cons_append, List.nil_append, List.cons.injEq] at h
        have h3 := congrArg UInt8.toNat h.1
        simp at h3
        exact ⟨by omega, h.2⟩
      · rw [varL_small h1, varL_big h2] at h
        simp only [List.cons_append, List.nil_append, List.cons.injEq] at h
        have h3 := congrArg UInt8.toNat h.1
        simp at h3
        omega
    · by_cases h2 : m ≤ 127
      · rw [varL_big h1, varL_small h2] at h
        simp only [List.cons_append, List.nil_append, List.cons.injEq] at h
        have h3 := congrArg UInt8.toNat h.1
        simp at h3
        omega
      · rw [varL_big h1, varL_big h2] at h
        simp only [List.cons_append, List.cons.injEq] at h
        have h3 := congrArg UInt8.toNat h.1
        simp at h3
        obtain ⟨h4, h5⟩ := ih (n / 128) (by omega) (m / 128) x y h.2
        exact ⟨by omega, h5⟩
theorem shortB_list (T : ByteArray) : (shortB T).data.toList = varL T.size ++ T.data.toList := by
  unfold shortB; rw [app_list, varB_list]
theorem short_pre {T U : ByteArray} {x y : List UInt8} (h : (shortB T).data.toList ++ x = (shortB U).data.toList ++ y) : T = U ∧ x = y := by
  rw [shortB_list, shortB_list, List.append_assoc, List.append_assoc] at h
  obtain ⟨h1, h2⟩ := varL_pre _ _ _ _ h
  have h3 : T.data.toList.length = U.data.toList.length := by
    rw [Array.length_toList, Array.length_toList]; exact h1
  obtain ⟨h4, h5⟩ := List.append_inj h2 h3
  exact ⟨bytes_ext h4, h5⟩
theorem varL_few : ∀ (k n : Nat), n < 128 ^ (k + 1) → (varL n).length ≤ k + 1
  | 0, n, h => by rw [varL_small (by omega)]; simp
  | k + 1, n, h => by
    by_cases h1 : n ≤ 127
    · rw [varL_small h1]; simp
    · rw [varL_big h1, List.length_cons]
      have h2 : n < 128 ^ (k + 1) * 128 := by rw [← Nat.pow_succ]; exact h
      have := varL_few k (n / 128) (Nat.div_lt_of_lt_mul (by rw [Nat.mul_comm]; exact h2))
      omega

/-! ### entries in a message -/
def eEnt (T : ByteArray) : Ent := if eOk T then ⟨eN2 T, eK T, eD T⟩ else ⟨0, 0, ⟨#[]⟩⟩
def etE (e : Ent) : ByteArray := etB 1 e.term.toNat e.kind.toNat e.data
theorem eEnt_true {T : ByteArray} (h : eOk T = true) : eEnt T = ⟨eN2 T, eK T, eD T⟩ := if_pos h
theorem eEnt_false {T : ByteArray} (h : eOk T = false) : eEnt T = ⟨0, 0, ⟨#[]⟩⟩ := if_neg (by rw [h]; decide)
theorem ent_text {T : ByteArray} (h : eOk T = true) : etB (eN1 T) (eN2 T) (eK T) (eD T) = T := by
  simp only [eOk, Bool.and_eq_true, Bool.not_eq_true', decide_eq_true_eq] at h
  exact (e_iff h.1.1).2 h.1.2
theorem ent_one {T : ByteArray} (h : eOk T = true) (h1 : eN1 T = 1) : etE (eEnt T) = T := by
  rw [eEnt_true h, etE]
  simp only [Int.toNat_natCast]
  rw [← h1]; exact ent_text h
theorem eoB_zero : eoB 0 0 ⟨#[]⟩ = false := by
  unfold eoB
  rw [decide_eq_false (show ¬ (0 : Int) = 1 by decide), decide_eq_false (show ¬ (0 : Int) = 2 by decide), decide_eq_false (show ¬ (0 : Int) = 3 by decide)]
  simp
theorem eoB_size {a b : Int} {d : ByteArray} (h : eoB a b d = true) : 0 ≤ a ∧ a ≤ 100000 ∧ 1 ≤ b ∧ b ≤ 3 ∧ d.size ≤ 640 := by
  simp only [eoB, Bool.and_eq_true] at h
  obtain ⟨h1, h2⟩ := h
  rw [inR_spec] at h1
  refine ⟨h1.1, h1.2, ?_⟩
  by_cases e1 : b = 1
  · simp only [e1, decide_true, if_true, decide_eq_true_eq] at h2
    rw [h2]; exact ⟨by omega, by omega, Nat.zero_le _⟩
  · by_cases e2 : b = 2
    · simp only [e2, decide_eq_true_eq] at h2
      simp [rcB] at h2
      exact ⟨by omega, by omega, by omega⟩
    · by_cases e3 : b = 3
      · simp only [e3, decide_eq_true_eq] at h2
        simp at h2
        exact ⟨by omega, by omega, by omega⟩
      · simp [e1, e2, e3] at h2
theorem etE_size {e : Ent} (h : enB e = true) : (etE e).size ≤ 1000 := by
  obtain ⟨h1, h2, _, _, h3⟩ := eoB_size h
  have h4 := varL_few 2 e.term.toNat (by omega)
  have h5 := varL_few 0 1 (by decide)
  have : (etE e).size = (etE e).data.toList.length := by rw [Array.length_toList]; rfl
  rw [this]
  unfold etE etB
  rw [app_list, app_list, app_list, app_list, varB_list, varB_list]
  have h6 : e.data.data.toList.length = e.data.size := by rw [Array.length_toList]; rfl
  simp only [List.length_append, List.length_cons, List.length_nil, h6]
  omega
theorem ent_back {T : ByteArray} (h : enB (eEnt T) = true) (h2 : etE (eEnt T) = T) : eOk T = true ∧ eN1 T = 1 := by
  cases hk : eOk T with
  | false => rw [eEnt_false hk, enB, eoB_zero] at h; cases h
  | true =>
    refine ⟨rfl, ?_⟩
    have h3 := ent_text hk
    rw [eEnt_true hk, etE] at h2
    simp only [Int.toNat_natCast] at h2
    have h4 : (etB 1 (eN2 T) (eK T) (eD T)).data.toList = (etB (eN1 T) (eN2 T) (eK T) (eD T)).data.toList := by rw [h2, h3]
    unfold etB at h4
    rw [app_list, app_list, app_list, app_list, app_list, app_list, app_list, app_list, varB_list, varB_list, varB_list] at h4
    simp only [List.append_assoc] at h4
    exact (varL_pre _ _ _ _ (List.append_cancel_left h4)).1.symm
theorem chB_mem {hi : Int} : ∀ {es : List Ent} {lo : Int}, chB hi lo es = true → ∀ e ∈ es, enB e = true
  | [], _, _, _, h => by cases h
  | e :: es, lo, h, x, hx => by
    simp only [chB, Bool.and_eq_true] at h
    cases hx with
    | head => exact h.1.1.1
    | tail _ hx => exact chB_mem h.2 x hx

/-! ### the loops over entries -/
def spR (t : ByteArray) : Nat → Nat → Bool → Nat × Bool × List Ent
  | 0, a, b => (a, b, [])
  | r + 1, a, b => if b then (a, b, []) else
      ((spR t r (l5A t a b) (l5B t a b)).1, (spR t r (l5A t a b) (l5B t a b)).2.1, eEnt (l5T t a b) :: (spR t r (l5A t a b) (l5B t a b)).2.2)
def imB (t : ByteArray) (a : Nat) (b : Bool) : Bool := if eOk (shT t a b) && decide (eN1 (shT t a b) = 1) then shBB t a b else true
def imR (t : ByteArray) : Nat → Nat → Bool → Nat × Bool × List Ent
  | 0, a, b => (a, b, [])
  | r + 1, a, b => ((imR t r (shA t a b) (imB t a b)).1, (imR t r (shA t a b) (imB t a b)).2.1, eEnt (shT t a b) :: (imR t r (shA t a b) (imB t a b)).2.2)
def entsL (es : List Ent) : List UInt8 := es.flatMap fun e => (shortB (etE e)).data.toList
theorem entsL_cons (e : Ent) (es : List Ent) : entsL (e :: es) = (shortB (etE e)).data.toList ++ entsL es := by simp [entsL]
theorem sh_num {t : ByteArray} {a : Nat} {b : Bool} (h : shBB t a b = false) : numN t a b ≤ 20000 := by
  by_cases c : 20000 < numN t a b
  · have : shBB t a b = true := sh_bad (if_pos c)
    rw [this] at h; cases h
  · omega
theorem imR_bad (t : ByteArray) : ∀ r a, (imR t r a true).2.1 = true
  | 0, _ => rfl
  | r + 1, a => by
    have : imB t a true = true := by
      unfold imB; split
      · exact sh_bad (shB_true _ _)
      · rfl
    show (imR t r (shA t a true) (imB t a true)).2.1 = true
    rw [this]; exact imR_bad t r _
theorem spR_bad (t : ByteArray) (r a : Nat) : spR t r a true = (a, true, []) := by cases r <;> rfl
theorem im_sp (t : ByteArray) : ∀ r a b, a ≤ t.size → (imR t r a b).2.1 = false →
    b = false ∧ spR t r a b = imR t r a b ∧ (imR t r a b).2.2.length = r ∧ (imR t r a b).1 ≤ t.size ∧ rest t a = entsL (imR t r a b).2.2 ++ rest t (imR t r a b).1
  | 0, a, b, ha, h => ⟨h, rfl, rfl, ha, rfl⟩
  | r + 1, a, b, ha, h => by
    have h' : (imR t r (shA t a b) (imB t a b)).2.1 = false := h
    have hle : shA t a b ≤ t.size := shA_le ha
    obtain ⟨h1, h2, h3, h4, h5⟩ := im_sp t r _ _ hle h'
    unfold imB at h1
    split at h1
    · rename_i hc
      simp only [Bool.and_eq_true, decide_eq_true_eq] at hc
      obtain ⟨e1, e2, e3⟩ := sh_small (sh_num h1)
      rw [e3] at h1
      obtain ⟨k1, k2, k3, _⟩ := short_rest h1
      have hB : imB t a b = l5B t a b := by unfold imB; rw [if_pos (by simp [hc]), e3]
      have hone := ent_one hc.1 hc.2
      rw [hB, e2] at h2 h3 h4 h5
      have hS : spR t (r + 1) a b = ((spR t r (l5A t a b) (l5B t a b)).1, (spR t r (l5A t a b) (l5B t a b)).2.1, eEnt (l5T t a b) :: (spR t r (l5A t a b) (l5B t a b)).2.2) := by
        rw [k1]; rfl
      have hI : imR t (r + 1) a b = ((imR t r (l5A t a b) (l5B t a b)).1, (imR t r (l5A t a b) (l5B t a b)).2.1, eEnt (l5T t a b) :: (imR t r (l5A t a b) (l5B t a b)).2.2) := by
        rw [← hB, ← e2, ← e1]; rfl
      rw [hS, hI]
      refine ⟨k1, by rw [h2], by simp only [List.length_cons, h3], h4, ?_⟩
      simp only [entsL_cons]
      rw [← e1, hone, e1, List.append_assoc, ← h5]
      exact k3
    · cases h1
theorem sp_len (t : ByteArray) : ∀ r a b, a ≤ t.size → (spR t r a b).2.1 = false → b = false ∧ (spR t r a b).2.2.length = r ∧ (spR t r a b).1 ≤ t.size
  | 0, a, b, ha, h => ⟨h, rfl, ha⟩
  | r + 1, a, b, ha, h => by
    cases b with
    | true => cases h
    | false =>
      obtain ⟨_, h2, h3⟩ := sp_len t r (l5A t a false) (l5B t a false) (l5A_le ha) h
      exact ⟨rfl, by show (_ :: _ : List Ent).length = _; rw [List.length_cons, h2], h3⟩
theorem sp_im (t : ByteArray) : ∀ r a b (w : List UInt8), a ≤ t.size → (spR t r a b).2.1 = false → (∀ e ∈ (spR t r a b).2.2, enB e = true) →
    rest t a = entsL (spR t r a b).2.2 ++ w → imR t r a b = spR t r a b ∧ w = rest t (spR t r a b).1
  | 0, a, b, w, ha, h, _, hw => ⟨rfl, by rw [show entsL (spR t 0 a b).2.2 = [] from rfl, List.nil_append] at hw; exact hw.symm⟩
  | r + 1, a, b, w, ha, h, hall, hw => by
    cases b with
    | true => cases h
    | false =>
      have h' : (spR t r (l5A t a false) (l5B t a false)).2.1 = false := h
      have hg := (sp_len t r _ _ (l5A_le ha) h').1
      obtain ⟨_, k2, k3, k4⟩ := short_rest hg
      have hen : enB (eEnt (l5T t a false)) = true := hall _ (List.mem_cons_self ..)
      have hw2 : rest t a = (shortB (etE (eEnt (l5T t a false)))).data.toList ++ (entsL (spR t r (l5A t a false) (l5B t a false)).2.2 ++ w) := by
        rw [hw, ← List.append_assoc, ← entsL_cons]; rfl
      rw [k3] at hw2
      obtain ⟨p1, p2⟩ := short_pre hw2
      obtain ⟨q1, q2⟩ := ent_back hen p1.symm
      have hsz := etE_size hen
      rw [← p1, k4] at hsz
      obtain ⟨e1, e2, e3⟩ := sh_small (show numN t a false ≤ 20000 by omega)
      obtain ⟨r1, r2⟩ := sp_im t r _ _ w (l5A_le ha) h' (fun e he => hall e (List.mem_cons_of_mem _ he)) p2
      have hB : imB t a false = l5B t a false := by unfold imB; rw [e1, q1, q2, e3]; rfl
      refine ⟨?_, r2⟩
      show ((imR t r (shA t a false) (imB t a false)).1, (imR t r (shA t a false) (imB t a false)).2.1, eEnt (shT t a false) :: (imR t r (shA t a false) (imB t a false)).2.2) = _
      rw [hB, e2, e1, r1]; rfl
end Go.Proofs.Ytadbfhgeekpdgaa
