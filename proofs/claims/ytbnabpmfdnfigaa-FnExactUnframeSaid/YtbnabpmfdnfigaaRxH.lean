/- A store into rows of one's own: the state behind it. -/
import Derived.Test.YtbnabpmfdnfigaaRxG
import Derived.Laws.IdiomCopy
namespace Go.Rx
open Go.RowKit

section
variable {P : Program} {w w0 : World} {g g0 : Gh} {σ : St} {a : Act} {o : Store}

theorem rowsAt_updAt_old {row off : Nat} {cs : List C} : ∀ (p : Path) (sz n : Nat) (R Q : List (List C)), rowsAt sz R p = some (n, Q) → row < Q.length → off + cs.length ≤ (Q.getD row []).length →
    (∀ j, off ≤ j → j < off + cs.length → ∀ m K, cellAt Q row j ≠ .own m K) →
    ∀ q m K, rowsAt sz R q = some (m, K) → ∃ K', rowsAt sz (updAt R p (Q.set row (setRange (Q.getD row []) off cs))) q = some (m, K')
  | [], sz, n, R, Q, hR, hrow, hoff, hold => by
    simp only [rowsAt, Option.some.injEq, Prod.mk.injEq] at hR
    obtain ⟨rfl, rfl⟩ := hR
    simp only [updAt]
    intro q m K hq
    have hget : ∀ i, (R.set row (setRange (R.getD row []) off cs)).getD i [] = if row = i then setRange (R.getD row []) off cs else R.getD i [] := fun i => getD_set hrow
    cases q with
    | nil =>
      simp only [rowsAt, Option.some.injEq, Prod.mk.injEq] at hq
      obtain ⟨rfl, rfl⟩ := hq
      exact ⟨_, rfl⟩
    | cons x q =>
      obtain ⟨i, j⟩ := x
      simp only [rowsAt] at hq
      split at hq
      · rename_i sz' R' hc
        obtain ⟨h1, h2, h3⟩ := bind_cell hc
        refine ⟨K, ?_⟩
        have hlen : j < ((R.set row (setRange (R.getD row []) off cs)).getD i []).length := by
          rw [hget]; split
          · subst_vars; rw [setRange_length hoff]; exact h2
          · exact h2
        have hcell : cellAt (R.set row (setRange (R.getD row []) off cs)) i j = .own sz' R' := by
          simp only [cellAt, hget]
          split
          · rename_i e; subst e
            rw [setRange_get hoff, if_neg]
            · exact h3
            · intro hin; exact hold j hin.1 hin.2 _ _ h3
          · exact h3
        simp only [rowsAt, cell_bind (by simpa using h1) hlen, hcell]
        exact hq
      · cases hq
  | (a, b) :: p, sz, n, R, Q, hR, hrow, hoff, hold => by
    simp only [rowsAt] at hR
    split at hR
    · rename_i s1 Q1 hc
      obtain ⟨h1, h2, h3⟩ := bind_cell hc
      have ih := rowsAt_updAt_old p s1 n Q1 Q hR hrow hoff hold
      simp only [updAt, hc]
      generalize hU : updAt Q1 p (Q.set row (setRange (Q.getD row []) off cs)) = U at *
      have hget : ∀ i, (R.set a ((R.getD a []).set b (.own s1 U))).getD i [] = if a = i then (R.getD a []).set b (.own s1 U) else R.getD i [] := fun i => getD_set h1
      have hcell : ∀ i j, cellAt (R.set a ((R.getD a []).set b (.own s1 U))) i j = if a = i ∧ b = j then .own s1 U else cellAt R i j := fun i j => by
        simp only [cellAt, hget]
        by_cases e1 : a = i
        · subst e1
          simp only [if_true, true_and]
          rw [getD_setC h2]
        · simp [e1]
      intro q m K hq
      cases q with
      | nil =>
        simp only [rowsAt, Option.some.injEq, Prod.mk.injEq] at hq
        obtain ⟨rfl, rfl⟩ := hq
        exact ⟨_, rfl⟩
      | cons x q =>
        obtain ⟨i, j⟩ := x
        simp only [rowsAt] at hq
        split at hq
        · rename_i sz' R' hc'
          obtain ⟨k1, k2, k3⟩ := bind_cell hc'
          have hlen : j < ((R.set a ((R.getD a []).set b (.own s1 U))).getD i []).length := by
            rw [hget]; split
            · subst_vars; simpa using k2
            · exact k2
          by_cases e : a = i ∧ b = j
          · obtain ⟨rfl, rfl⟩ := e
            rw [h3] at k3
            cases k3
            obtain ⟨K', hK'⟩ := ih q m K hq
            refine ⟨K', ?_⟩
            simp only [rowsAt, cell_bind (by simpa using k1) hlen, hcell, and_self, if_true]
            exact hK'
          · refine ⟨K, ?_⟩
            simp only [rowsAt, cell_bind (by simpa using k1) hlen, hcell, if_neg e, k3]
            exact hq
        · cases hq
    · cases hR

/-- The rows at (r, p) become Q'. -/
def setRows (σ : St) (r : Root) (p : Path) (Q' : List (List C)) : St :=
  match getA σ.l r with
  | some ob => { σ with l := setA σ.l r { ob with rows := updAt ob.rows p Q' } }
  | none => match getA σ.g r with
    | some ob => { σ with g := setA σ.g r { ob with rows := updAt ob.rows p Q' } }
    | none => σ

theorem setRows_get {r : Root} {ob : Obj'} (h : getA σ.o r = some ob) (p : Path) (Q' : List (List C)) (r' : Root) :
    getA (setRows σ r p Q').o r' = if r = r' then some { ob with rows := updAt ob.rows p Q' } else getA σ.o r' := by
  have h0 : getA (σ.l ++ σ.g) r = some ob := h
  rw [getA_append] at h0
  unfold setRows
  cases hl : getA σ.l r with
  | some ob' =>
    simp only [hl, Option.some.injEq] at h0
    subst h0
    show getA (setA σ.l r _ ++ σ.g) r' = _
    rw [getA_append, getA_setA]
    by_cases e : r = r'
    · subst e; simp [hl]
    · simp only [if_neg e]; show _ = getA (σ.l ++ σ.g) r'; rw [getA_append]
  | none =>
    simp only [hl] at h0
    simp only [h0]
    show getA (σ.l ++ setA σ.g r _) r' = _
    rw [getA_append, getA_setA]
    by_cases e : r = r'
    · subst e; simp [hl, h0]
    · simp only [if_neg e]; show _ = getA (σ.l ++ σ.g) r'; rw [getA_append]

theorem setRows_t (r : Root) (p : Path) (Q' : List (List C)) : (setRows σ r p Q').t = σ.t ∧ (setRows σ r p Q').d = σ.d := by
  unfold setRows; split
  · exact ⟨rfl, rfl⟩
  · split <;> exact ⟨rfl, rfl⟩

theorem setRows_loc (h : ∀ r ob, getA σ.l r = some ob → r.1 = σ.d) (h' : ∀ r ob, getA σ.g r = some ob → r.1 < σ.d) (r : Root) (p : Path) (Q' : List (List C)) :
    (∀ r' ob, getA (setRows σ r p Q').l r' = some ob → r'.1 = σ.d) ∧ (∀ r' ob, getA (setRows σ r p Q').g r' = some ob → r'.1 < σ.d) := by
  unfold setRows
  split
  · refine ⟨fun r' ob hr => ?_, h'⟩
    simp only [getA_setA] at hr
    split at hr
    · simp only [Option.map_eq_some_iff] at hr
      obtain ⟨x, hx, _⟩ := hr
      exact h r' x hx
    · exact h r' ob hr
  · split
    · refine ⟨h, fun r' ob hr => ?_⟩
      simp only [getA_setA] at hr
      split at hr
      · simp only [Option.map_eq_some_iff] at hr
        obtain ⟨x, hx, _⟩ := hr
        exact h' r' x hx
      · exact h' r' ob hr
    · exact ⟨h, h'⟩

theorem setCells_world (b : Nat) : ∀ (vs : List Value) (o : Nat) (w : World), (w.setCells b o vs).os = w.os ∧ (w.setCells b o vs).tape = w.tape ∧ (w.setCells b o vs).output = w.output ∧
    (w.setCells b o vs).heap.size = w.heap.size ∧ ∀ k, k ≠ b → (w.setCells b o vs).heap[k]? = w.heap[k]?
  | [], _, _ => ⟨rfl, rfl, rfl, rfl, fun _ _ => rfl⟩
  | v :: vs, o, w => by
    obtain ⟨h1, h2, h3, h4, h5⟩ := setCells_world b vs (o + 1) (w.setCell ⟨b, o, none⟩ v)
    refine ⟨h1, h2, h3, ?_, fun k hk => ?_⟩
    · rw [World.setCells, h4, World.size_setCell]
    · rw [World.setCells, h5 k hk, Below.heap_setCell _ _ _ _ hk]

theorem setCells_block (b : Nat) : ∀ (vs : List Value) (o : Nat) (w : World) (cur : Array Value) (e : TypeId) (f : Nat × Nat), w.heap[b]? = some (.cells cur e f) → o + vs.length ≤ cur.size →
    ∃ cur', (w.setCells b o vs).heap[b]? = some (.cells cur' e f) ∧ cur'.size = cur.size ∧ ∀ k, cur'.getD k undef = if o ≤ k ∧ k < o + vs.length then vs.getD (k - o) undef else cur.getD k undef
  | [], o, w, cur, e, f, h, _ => ⟨cur, h, rfl, fun k => by rw [if_neg (by simp only [List.length_nil]; omega)]⟩
  | v :: vs, o, w, cur, e, f, h, hs => by
    simp only [List.length_cons] at hs
    have h1 : (w.setCell ⟨b, o, none⟩ v).heap[b]? = some (.cells (cur.setIfInBounds o v) e f) := by
      simp [World.setCell, Array.getElem?_modify, h]
    obtain ⟨cur', k1, k2, k3⟩ := setCells_block b vs (o + 1) _ _ e f h1 (by simp; omega)
    refine ⟨cur', k1, by rw [k2]; simp, fun k => ?_⟩
    rw [k3]
    simp only [List.length_cons]
    by_cases hk : o + 1 ≤ k ∧ k < o + 1 + vs.length
    · rw [if_pos hk, if_pos (by omega)]
      obtain ⟨n, rfl⟩ : ∃ n, k = o + 1 + n := ⟨k - (o + 1), by omega⟩
      rw [show o + 1 + n - (o + 1) = n by omega, show o + 1 + n - o = n + 1 by omega]; rfl
    · rw [if_neg hk]
      by_cases hk' : k = o
      · subst hk'
        rw [if_pos (by omega), Nat.sub_self]
        have hlt : k < cur.size := by omega
        simp [Array.getD_eq_getD_getElem?, hlt]
      · rw [if_neg (by omega)]
        simp only [Array.getD_eq_getD_getElem?, Array.getElem?_setIfInBounds_ne (show o ≠ k by omega)]

theorem Rel.store' (h : Rel g0 w0 σ g a w) {r : Root} {p : Path} {sz row off b : Nat} {Q : List (List C)} {cs : List C} {ys : List Value} (hlive : Live σ.o r p sz Q) (hg : g.G r p = some b)
    {w1 : World} (wos : w1.os = w.os) (wtape : w1.tape = w.tape) (wout : w1.output = w.output) (wsize : w1.heap.size = w.heap.size) (wother : ∀ k, k ≠ b → w1.heap[k]? = w.heap[k]?)
    (hblock : ∀ cells e f, w.heap[b]? = some (.cells cells e f) → row * sz + off + ys.length ≤ cells.size → ∃ cells', w1.heap[b]? = some (.cells cells' e f) ∧ cells'.size = cells.size ∧
      ∀ k, k < Q.length * sz → cells'.getD k undef = if row * sz + off ≤ k ∧ k < row * sz + off + ys.length then ys.getD (k - (row * sz + off)) undef else cells.getD k undef)
    (hrow : row < Q.length) (hoff : off + cs.length ≤ sz) (hold : ∀ j, off ≤ j → j < off + cs.length → ∀ m K, cellAt Q row j ≠ .own m K)
    (hok : ∀ ob, getA σ.o r = some ob → okObj { ob with rows := updAt ob.rows p (Q.set row (setRange (Q.getD row []) off cs)) } = true)
    (hgo : getA σ.l r = none → ∀ j r', j < cs.length → refRoot (cs.getD j .bad) = some r' → r'.1 < σ.d)
    (hys : ys.length = cs.length) (hcr : ∀ j, j < cs.length → CR w σ.o g none (cs.getD j .bad) (ys.getD j undef)) :
    Rel g0 w0 (setRows σ r p (Q.set row (setRange (Q.getD row []) off cs))) g a w1 ∧
    Goes w σ.o g w1 (setRows σ r p (Q.set row (setRange (Q.getD row []) off cs))).o g := by
  obtain ⟨ob, hob, hat⟩ := hlive
  have hl : Live σ.o r p sz Q := ⟨ob, hob, hat⟩
  obtain ⟨hnS, hlen, cells, e, f, hb, hthaw, hsize, hcells⟩ := h.heap.rows r p sz Q b hl hg
  have hrl : (Q.getD row []).length = sz := hlen row hrow
  have hmul : (row + 1) * sz ≤ Q.length * sz := Nat.mul_le_mul_right _ (by omega)
  rw [Nat.add_mul, Nat.one_mul] at hmul
  have hno : ∀ j, j < cs.length → ∀ m K, cs.getD j .bad ≠ .own m K := fun j hj m K he => by
    have := hcr j hj
    rw [he] at this; exact this
  have hback := rowsAt_updAt (row := row) (off := off) (cs := cs) p ob.sz sz ob.rows Q hat hrow (by rw [hrl]; exact hoff) hold hno
  have hforth := rowsAt_updAt_old (row := row) (off := off) (cs := cs) p ob.sz sz ob.rows Q hat hrow (by rw [hrl]; exact hoff) hold
  generalize hQ' : Q.set row (setRange (Q.getD row []) off cs) = Q' at *
  have hget := setRows_get hob p Q'
  obtain ⟨cells', hb', hcs, hval⟩ := hblock cells e f hb (by omega)
  have hnew : ∀ r' q m K', Live (setRows σ r p Q').o r' q m K' → ∃ K, Live σ.o r' q m K ∧
      Turned K K' (fun i j => (r' = r ∧ q = p) ∧ i = row ∧ off ≤ j ∧ j < off + cs.length) (fun _ j => cs.getD (j - off) .bad) := by
    rintro r' q m K' ⟨ob', h1, h2⟩
    rw [hget] at h1
    by_cases er : r = r'
    · subst er
      rw [if_pos rfl] at h1
      cases h1
      obtain ⟨K, hK, hT⟩ := hback.2 q m K' h2
      exact ⟨K, ⟨ob, hob, hK⟩, hT.len, hT.row, fun i j hi hj hh => hT.hit i j hi hj ⟨hh.1.2, hh.2⟩, fun i j hi hj hh => hT.miss i j hi hj fun h' => hh ⟨⟨rfl, h'.1⟩, h'.2⟩⟩
    · rw [if_neg er] at h1
      exact ⟨K', ⟨ob', h1, h2⟩, rfl, fun _ _ => rfl, fun _ _ _ _ hh => absurd hh.1.1.symm er, fun _ _ _ _ _ => .inl rfl⟩
  have hgoes : Goes w σ.o g w1 (setRows σ r p Q').o g := by
    refine ⟨fun k hk => ⟨hk, wother k (fun e' => hnS (e' ▸ hk))⟩, fun r' q m K hK => ⟨?_, rfl, fun b' cs' e' f' _ hb2 => ?_⟩⟩
    · obtain ⟨ob', h1, h2⟩ := hK
      by_cases er : r = r'
      · subst er
        rw [hob] at h1
        cases h1
        obtain ⟨K', hK'⟩ := hforth q m K h2
        obtain ⟨K2, hK2, hT⟩ := hback.2 q m K' hK'
        rw [h2] at hK2
        cases hK2
        exact ⟨K', ⟨_, by rw [hget, if_pos rfl], hK'⟩, by rw [hT.len]; exact Nat.le_refl _⟩
      · exact ⟨K, ⟨ob', by rw [hget, if_neg er]; exact h1, h2⟩, Nat.le_refl _⟩
    · by_cases eb : b' = b
      · subst eb
        rw [hb] at hb2
        cases hb2
        exact ⟨cells', hb', hcs⟩
      · exact ⟨cs', by rw [wother b' eb]; exact hb2, rfl⟩
  refine ⟨⟨h.defers, by rw [(setRows_t r p Q').1]; exact h.size, fun i hi => ?_, ⟨?_, ?_, ?_, ?_⟩, ⟨wos.trans h.keep.os, wtape.trans h.keep.tape, wout.trans h.keep.output, by rw [wsize]; exact h.keep.size, h.keep.S, ?_⟩, ?_, ?_, ?_, ?_, h.pin.goes hgoes fun r' ob' h' => ?_⟩, hgoes⟩
  · rw [(setRows_t r p Q').1] at hi ⊢
    exact VR.goes hgoes (h.tmps i hi)
  · intro r' q m K' b' hl' hg'
    obtain ⟨K, hK, hT⟩ := hnew r' q m K' hl'
    obtain ⟨k1, k2, cs2, e2, f2, k3, kf, k4, k5⟩ := h.heap.rows r' q m K b' hK hg'
    have hat' : ∀ i j, i < K'.length → j < m → i < K.length ∧ j < (K.getD i []).length := fun i j hi hj => by
      have hi' : i < K.length := by rw [← hT.len]; exact hi
      exact ⟨hi', by rw [k2 i hi']; exact hj⟩
    have hlenK : ∀ i, i < K'.length → (K'.getD i []).length = m := fun i hi => by
      have hi' : i < K.length := by rw [← hT.len]; exact hi
      rw [hT.row i hi', k2 i hi']
    have hmiss : ∀ i j y, i < K'.length → j < m → ¬ ((r' = r ∧ q = p) ∧ i = row ∧ off ≤ j ∧ j < off + cs.length) → CR w σ.o g (some (r', q, i, j)) (cellAt K i j) y →
        CR w1 (setRows σ r p Q').o g (some (r', q, i, j)) (cellAt K' i j) y := by
      intro i j y hi hj hh hc
      obtain ⟨hi', hj'⟩ := hat' i j hi hj
      have := CR.goesAt hgoes hK hi' hj' hc
      rcases hT.miss i j hi' hj' hh with heq | ⟨s1, Q1, Q2, e1, e2', e3⟩
      · rw [← heq]; exact this
      · rw [e1] at this
        rw [e2']
        simp only [CR] at this ⊢
        rw [← e3]; exact this
    by_cases eb : b' = b
    · subst eb
      obtain ⟨rfl, rfl⟩ := h.heap.inj r' q m K r p sz Q b' hK hl hg' hg
      obtain ⟨rfl, rfl⟩ := Live.unique hK hl
      rw [hb] at k3
      cases k3
      refine ⟨k1, hlenK, cells', e, f, hb', by rw [hcs]; exact kf, by rw [hcs, hT.len]; exact k4, fun i j hi hj => ?_⟩
      have hi' : i < K.length := by rw [← hT.len]; exact hi
      rw [hval _ (by have := Nat.mul_le_mul_right m (show i + 1 ≤ K.length by omega); rw [Nat.add_mul, Nat.one_mul] at this; omega)]
      by_cases hh : i = row ∧ off ≤ j ∧ j < off + cs.length
      · obtain ⟨rfl, h1, h2⟩ := hh
        rw [if_pos (by omega), hT.hit i j hi' (by rw [k2 i hi']; exact hj) ⟨⟨rfl, rfl⟩, rfl, h1, h2⟩]
        have hthis := hcr (j - off) (by omega)
        rw [show i * m + j - (i * m + off) = j - off by omega]
        exact CR.any _ (CR.goes hgoes hthis)
      · have hne : ¬ (row * m + off ≤ i * m + j ∧ i * m + j < row * m + off + ys.length) := by
          intro hin
          apply hh
          have h1 : i = row := by
            rcases Nat.lt_trichotomy i row with hlt | heq | hgt
            · have : (i + 1) * m ≤ row * m := Nat.mul_le_mul_right _ hlt
              rw [Nat.add_mul, Nat.one_mul] at this
              omega
            · exact heq
            · have : (row + 1) * m ≤ i * m := Nat.mul_le_mul_right _ hgt
              rw [Nat.add_mul, Nat.one_mul] at this
              omega
          subst h1
          omega
        rw [if_neg hne]
        exact hmiss i j _ hi hj (fun h' => hh h'.2) (k5 i j hi' hj)
    · refine ⟨k1, hlenK, cs2, e2, f2, by rw [wother b' eb]; exact k3, kf, by rw [hT.len]; exact k4, fun i j hi hj => ?_⟩
      have hi' : i < K.length := by rw [← hT.len]; exact hi
      refine hmiss i j _ hi hj (fun h' => ?_) (k5 i j hi' hj)
      obtain ⟨⟨rfl, rfl⟩, _⟩ := h'
      rw [hg] at hg'
      exact eb (Option.some.inj hg').symm
  · intro r' q ob' m K' h1 h2 hgn
    obtain ⟨K, ⟨ob2, k1, k2⟩, hT⟩ := hnew r' q m K' ⟨ob', h1, h2⟩
    rcases h.heap.none r' q ob2 m K k1 k2 hgn with hnil | ⟨hk1, hk2⟩
    · left
      have := hT.len
      rw [hnil] at this
      exact List.length_eq_zero_iff.1 this
    · right
      refine ⟨?_, hk2⟩
      rw [hget] at h1
      by_cases er : r = r'
      · subst er
        rw [if_pos rfl] at h1
        rw [hob] at k1
        cases h1; cases k1; exact hk1
      · rw [if_neg er] at h1
        rw [h1] at k1; cases k1; exact hk1
  · intro r1 p1 m1 K1 r2 p2 m2 K2 b' hl1 hl2 hg1 hg2
    obtain ⟨K1', hK1, _⟩ := hnew _ _ _ _ hl1
    obtain ⟨K2', hK2, _⟩ := hnew _ _ _ _ hl2
    exact h.heap.inj _ _ _ _ _ _ _ _ b' hK1 hK2 hg1 hg2
  · intro k hk
    rw [wsize]; exact h.heap.S k hk
  · intro k hk
    rw [wother k (fun e' => hnS (e' ▸ h.keep.S k hk))]
    exact h.keep.block k hk
  · rw [(setRows_t r p Q').2]; exact (setRows_loc h.loc h.out r p Q').1
  · rw [(setRows_t r p Q').2]; exact (setRows_loc h.loc h.out r p Q').2
  · intro r' ob' hr
    rw [hget] at hr
    split at hr
    · cases hr; exact hok ob hob
    · exact h.obj r' ob' hr
  · intro r' ob' hr i j r2 hi hj href
    rw [(setRows_t r p Q').2]
    unfold setRows at hr
    cases hll : getA σ.l r with
    | some ob2 =>
      simp only [hll] at hr
      exact h.gref r' ob' hr i j r2 hi hj href
    | none =>
      have h0 : getA (σ.l ++ σ.g) r = some ob := hob
      rw [getA_append, hll] at h0
      have h0' : getA σ.g r = some ob := h0
      simp only [hll, h0'] at hr
      rw [getA_setA] at hr
      split at hr
      · rename_i er
        subst er
        rw [h0'] at hr
        cases hr
        obtain ⟨K, hK, hT⟩ := hback.2 [] ob.sz _ rfl
        simp only [rowsAt, Option.some.injEq, Prod.mk.injEq] at hK
        obtain ⟨_, rfl⟩ := hK
        have hi' : i < ob.rows.length := by rw [← hT.len]; exact hi
        have hj' : j < (ob.rows.getD i []).length := by rw [← hT.row i hi']; exact hj
        by_cases hh : ([] : Path) = p ∧ i = row ∧ off ≤ j ∧ j < off + cs.length
        · simp only [hT.hit i j hi' hj' hh] at href
          exact hgo hll (j - off) r2 (by omega) href
        · rcases hT.miss i j hi' hj' hh with e | ⟨s1, Q1, Q2, e1, e2, _⟩
          · simp only [← e] at href
            exact h.gref r ob h0' i j r2 hi' hj' href
          · simp only [e2] at href
            cases href
      · exact h.gref r' ob' hr i j r2 hi hj href
  · unfold setRows
    split
    · exact ⟨ob', h'⟩
    · split
      · simp only [getA_setA]
        split
        · exact ⟨_, by rw [h']; rfl⟩
        · exact ⟨ob', h'⟩
      · exact ⟨ob', h'⟩

theorem Rel.store (h : Rel g0 w0 σ g a w) {r : Root} {p : Path} {sz row off b : Nat} {Q : List (List C)} {cs : List C} {ys : List Value} (hlive : Live σ.o r p sz Q) (hg : g.G r p = some b)
    (hrow : row < Q.length) (hoff : off + cs.length ≤ sz) (hold : ∀ j, off ≤ j → j < off + cs.length → ∀ m K, cellAt Q row j ≠ .own m K)
    (hok : ∀ ob, getA σ.o r = some ob → okObj { ob with rows := updAt ob.rows p (Q.set row (setRange (Q.getD row []) off cs)) } = true)
    (hgo : getA σ.l r = none → ∀ j r', j < cs.length → refRoot (cs.getD j .bad) = some r' → r'.1 < σ.d)
    (hys : ys.length = cs.length) (hcr : ∀ j, j < cs.length → CR w σ.o g none (cs.getD j .bad) (ys.getD j undef)) :
    Rel g0 w0 (setRows σ r p (Q.set row (setRange (Q.getD row []) off cs))) g a (w.setCells b (row * sz + off) ys) ∧
    Goes w σ.o g (w.setCells b (row * sz + off) ys) (setRows σ r p (Q.set row (setRange (Q.getD row []) off cs))).o g := by
  obtain ⟨wos, wtape, wout, wsize, wother⟩ := setCells_world b ys (row * sz + off) w
  refine h.store' hlive hg wos wtape wout wsize wother (fun cells e f hb hle => ?_) hrow hoff hold hok hgo hys hcr
  obtain ⟨cells', hb', hcs, hval⟩ := setCells_block b ys (row * sz + off) w cells e f hb hle
  exact ⟨cells', hb', hcs, fun k _ => hval k⟩

end
end Go.Rx
