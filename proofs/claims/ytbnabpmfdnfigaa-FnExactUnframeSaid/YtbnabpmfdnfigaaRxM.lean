/- Stores and calls are sound; a body that comes to its results is a function of data. -/
import Derived.Test.YtbnabpmfdnfigaaRxL
import Derived.Laws.IdiomStrings
namespace Go.Rx
open Go.RowKit

theorem nrR_all (cs : List C) : nrR cs = cs.all nr := by induction cs <;> simp_all [nrR]

theorem nrR_setRange {row cs : List C} {off : Nat} (h : nrR row = true) (h' : nrR cs = true) : nrR (setRange row off cs) = true := by
  rw [nrR_all, List.all_eq_true] at *
  intro c hc
  simp only [setRange, List.append_assoc, List.mem_append] at hc
  rcases hc with hc | hc | hc
  · exact h c (List.mem_of_mem_take hc)
  · exact h' c hc
  · exact h c (List.mem_of_mem_drop hc)

theorem nrRR_set {R : List (List C)} {i : Nat} {row : List C} (h : nrRR R = true) (h' : nrR row = true) : nrRR (R.set i row) = true := by
  rw [nrRR_all, List.all_eq_true] at *
  intro r hr
  rcases List.mem_or_eq_of_mem_set hr with hr | rfl
  · exact h r hr
  · exact h'

theorem nrRR_row {R : List (List C)} (h : nrRR R = true) (i : Nat) : nrR (R.getD i []) = true := by
  rw [nrRR_all, List.all_eq_true] at h
  rw [List.getD_eq_getElem?_getD]
  cases hi : R[i]? with
  | none => rfl
  | some r => exact h r (List.mem_of_getElem? hi)

theorem nrR_setC {row : List C} {j : Nat} {c : C} (h : nrR row = true) (h' : nr c = true) : nrR (row.set j c) = true := by
  rw [nrR_all, List.all_eq_true] at *
  intro r hr
  rcases List.mem_or_eq_of_mem_set hr with hr | rfl
  · exact h r hr
  · exact h'

theorem nrRR_updAt {Q' : List (List C)} (hQ : nrRR Q' = true) : ∀ (p : Path) (R : List (List C)), nrRR R = true → nrRR (updAt R p Q') = true
  | [], _, _ => hQ
  | (i, j) :: p, R, h => by
    simp only [updAt]
    split
    · rename_i sz Q hc
      obtain ⟨h1, h2, h3⟩ := bind_cell hc
      have := nrRR_get h i j
      rw [h3] at this
      exact nrRR_set h (nrR_setC (nrRR_row h i) (by simp only [nr]; exact nrRR_updAt hQ p Q (by simpa [nr] using this)))
    · exact h

theorem refOr_of_nr {c : C} (h : nr c = true) : refOr c = true := by cases c <;> first | rfl | exact h

theorem okObj_upd {ob : Obj'} {p : Path} {sz row off : Nat} {Q : List (List C)} {cs : List C} (h : okObj ob = true) (hR : rowsAt ob.sz ob.rows p = some (sz, Q)) (hcs : ∀ c ∈ cs, refOr c = true)
    (hc : (ob.kind = .box ∧ p = []) ∨ nrR cs = true) : okObj { ob with rows := updAt ob.rows p (Q.set row (setRange (Q.getD row []) off cs)) } = true := by
  obtain ⟨k, s, rows⟩ := ob
  simp only [okObj] at h hR hc ⊢
  have nested : ∀ (p : Path) (s : Nat) (R : List (List C)), nrRR R = true → rowsAt s R p = some (sz, Q) → nrR cs = true → nrRR (updAt R p (Q.set row (setRange (Q.getD row []) off cs))) = true := fun p s R hn hr hcs =>
    nrRR_updAt (nrRR_set (nrRR_rowsAt hn hr) (nrR_setRange (nrRR_row (nrRR_rowsAt hn hr) row) hcs)) p R hn
  cases k with
  | vr => exact h
  | sl =>
    rcases hc with ⟨e, _⟩ | hc
    · cases e
    · exact nested p s rows h hR hc
  | box =>
    simp only [List.all_eq_true] at h ⊢
    cases p with
    | nil =>
      simp only [rowsAt, Option.some.injEq, Prod.mk.injEq] at hR
      obtain ⟨rfl, rfl⟩ := hR
      simp only [updAt]
      intro r hr c hcr
      rcases List.mem_or_eq_of_mem_set hr with hr | rfl
      · exact h r hr c hcr
      · have hrow : ∀ c ∈ rows.getD row [], refOr c = true := fun c hc => by
          rw [List.getD_eq_getElem?_getD] at hc
          cases hi : rows[row]? with
          | none => simp [hi] at hc
          | some r => rw [hi] at hc; exact h r (List.mem_of_getElem? hi) c hc
        simp only [setRange, List.append_assoc, List.mem_append] at hcr
        rcases hcr with hc' | hc' | hc'
        · exact hrow c (List.mem_of_mem_take hc')
        · exact hcs c hc'
        · exact hrow c (List.mem_of_mem_drop hc')
    | cons x p =>
      obtain ⟨i, j⟩ := x
      rcases hc with ⟨_, e⟩ | hc
      · cases e
      · simp only [rowsAt] at hR
        split at hR
        · rename_i s1 Q1 hb
          obtain ⟨h1, h2, h3⟩ := bind_cell hb
          simp only [updAt, hb]
          intro r hr c hcr
          rcases List.mem_or_eq_of_mem_set hr with hr | rfl
          · exact h r hr c hcr
          · have hmem : rows.getD i [] ∈ rows := by rw [List.getD_eq_getElem?_getD, List.getElem?_eq_getElem h1]; exact List.getElem_mem h1
            rcases List.mem_or_eq_of_mem_set hcr with hc' | rfl
            · exact h _ hmem c hc'
            · have hown : C.own s1 Q1 ∈ rows.getD i [] := by
                rw [← h3]; unfold cellAt
                rw [List.getD_eq_getElem?_getD (l := rows.getD i []), List.getElem?_eq_getElem h2]; exact List.getElem_mem h2
              have := h _ hmem _ hown
              simp only [refOr, nr] at this ⊢
              exact nested p s1 Q1 this hR hc
        · cases hR

section
variable {P : Program} {w w0 w' : World} {g g0 gr : Gh} {σ : St} {a : Act}

theorem scalar_one {v : Value} (h : scalar v = true) : v.oneCell' = true := by cases v <;> first | rfl | cases h

theorem storeS_run (h : Rel g0 w0 σ g a w) {t : TypeId} {x v : V} {σ' : St} {y z : Value} (hs : storeS P σ t x v = some σ') (hx : VR w σ.o g x y) (hv : VR w σ.o g v z) :
    ∃ w1 g1, (Instr.storeAt t y z).run P w = .ok () w1 ∧ Rel g0 w0 σ' g1 a w1 := by
  unfold storeS at hs
  split at hs
  · rename_i r p sz row off vx
    split at hs
    · rename_i cs n ob hcs hn hob
      split at hs
      · rename_i sz' Q hQ
        split at hs
        · rename_i hc
          obtain ⟨rfl, rfl, hrow, hoff, hno, hok, hd⟩ := hc
          cases hs
          obtain ⟨R, b, hl, hlt, hb, rfl⟩ := hx
          have hlive : Live σ.o r p sz' Q := ⟨ob, hob, hQ⟩
          obtain ⟨_, rfl⟩ := Live.unique hlive hl
          obtain ⟨h1, h2, h3⟩ := cellsX_rel hcs hv
          obtain ⟨_, hlen, cells, e, f, hblk, hthaw, hsize, _⟩ := h.heap.rows r p sz' Q b hlive hb
          have hmul : (row + 1) * sz' ≤ Q.length * sz' := Nat.mul_le_mul_right _ (by omega)
          rw [Nat.add_mul, Nat.one_mul] at hmul
          have hold : ∀ j, off ≤ j → j < off + cs.length → ∀ m K, cellAt Q row j ≠ .own m K := by
            intro j hj1 hj2 m K he
            simp only [noOwns, List.all_eq_true] at hno
            have hmem : C.own m K ∈ ((Q.getD row []).drop off).take cs.length := by
              have hjl : j < (Q.getD row []).length := by rw [hlen row hrow]; omega
              rw [List.mem_iff_getElem?]
              refine ⟨j - off, ?_⟩
              rw [List.getElem?_take, if_pos (by omega), List.getElem?_drop, show off + (j - off) = j by omega, List.getElem?_eq_getElem hjl, ← he]
              unfold cellAt
              rw [List.getD_eq_getElem?_getD (l := Q.getD row []), List.getElem?_eq_getElem hjl]; rfl
            have := hno _ hmem
            simp at this
          have hrefs : ∀ c ∈ cs, refOr c = true := fun c hc => by
            obtain ⟨j, hj, rfl⟩ := List.getElem_of_mem hc
            have := h3 j hj
            rw [List.getD_eq_getElem?_getD, List.getElem?_eq_getElem hj] at this
            exact cellOk_refOr this
          obtain ⟨r1, _⟩ := h.store (off := off) (ys := z.cells.toList) hlive hb hrow hoff hold
            (fun ob' hob' => by rw [hob] at hob'; cases hob'; exact okObj_upd (h.obj r ob hob) hQ hrefs hok)
            (fun hll j r' hj href => by
              rcases hd with hd | hd
              · exfalso
                have h0 : getA (σ.l ++ σ.g) r = some ob := hob
                rw [getA_append, hll] at h0
                have := h.out r ob h0
                omega
              · simp only [below, List.all_eq_true] at hd
                have := hd (cs.getD j .bad) (by rw [List.getD_eq_getElem?_getD, List.getElem?_eq_getElem hj]; exact List.getElem_mem hj)
                rw [href] at this
                simpa using this) h1 h2
          refine ⟨_, g, ?_, r1⟩
          have hvs : z.cells.size = cs.length := by rw [← h1]; simp
          have hst := run_storeCells_cells (P := P) b (row * sz' + off) z.cells.toList 0 w (fun j hj => by
              rw [h1] at hj
              rw [Nat.add_zero, cell_of_block hblk (by omega)]; rfl) (fun j hj => by
              rw [h1] at hj
              have := hthaw (row * sz' + off + j) (by omega)
              simp only [World.frozen?, hblk, Nat.add_zero]
              simpa using this) (fun v hv => by
              obtain ⟨j, hj, rfl⟩ := List.getElem_of_mem hv
              have hj' : j < cs.length := by rw [← h1]; exact hj
              have := CR.scalar (h3 j hj') (h2 j hj')
              rw [List.getD_eq_getElem?_getD, List.getElem?_eq_getElem hj] at this
              exact scalar_one this)
          simp only [Instr.storeAt, Instr.sureAddr, storeVar, Sem.run_bind, Sem.run_pure, Result.andThen_ok, tySz_run hn, hvs, ne_eq, not_true, if_false, hst, Nat.add_zero]
        · cases hs
      · cases hs
    · cases hs
  · cases hs

theorem viewX_rel {x x' : X} {y : Value} (h : HeapRel w σ.o g) (hv : viewX σ.o x = some x') (hx : XR w σ.o g x y) : XR w [] (Sall w) x' y := by
  have cell : ∀ {c c' : C} {y : Value}, viewC σ.o c = some c' → CR w σ.o g none c y → CR w [] (Sall w) none c' y := fun hv hc =>
    CR.of_sh (g := Sall w) (viewC_rel h hv hc)
  cases x with
  | one c =>
    simp only [viewX, Option.map_eq_some_iff] at hv
    obtain ⟨c', h1, rfl⟩ := hv
    exact cell h1 hx
  | agg cs =>
    simp only [viewX, Option.map_eq_some_iff] at hv
    obtain ⟨cs', h1, rfl⟩ := hv
    obtain ⟨ys, rfl, hl, hc⟩ := hx
    have hlen : ∀ (cs cs' : List C), viewCs σ.o cs = some cs' → cs'.length = cs.length := by
      intro cs; induction cs with
      | nil => intro cs' h; simp only [viewCs, Option.some.injEq] at h; subst h; rfl
      | cons c cs ih =>
        intro cs' h
        simp only [viewCs] at h
        split at h
        · rename_i c1 cs1 e1 e2; cases h; simp [ih _ e2]
        · cases h
    have hget : ∀ (cs cs' : List C), viewCs σ.o cs = some cs' → ∀ j, j < cs.length → viewC σ.o (cs.getD j .bad) = some (cs'.getD j .bad) := by
      intro cs; induction cs with
      | nil => intro cs' _ j hj; simp at hj
      | cons c cs ih =>
        intro cs' h j hj
        simp only [viewCs] at h
        split at h
        · rename_i c1 cs1 e1 e2
          cases h
          cases j with
          | zero => simpa using e1
          | succ j => simpa using ih _ e2 j (by simpa using hj)
        · cases h
    have hll := hlen cs cs' h1
    exact ⟨ys, rfl, by rw [hll]; exact hl, fun j hj => cell (hget cs cs' h1 j (by omega)) (hc j (by omega))⟩

theorem viewVs_rel (h : Rel g0 w0 σ g a w) : ∀ (as : List Operand) (xs : List X), viewVs σ.o (as.map (ev σ)) = some xs →
    xs.length = as.length ∧ ∀ i, i < xs.length → XR w [] (Sall w) (xs.getD i (.one .bad)) ((as.map a.eval).getD i undef)
  | [], xs, hv => by
    simp only [List.map_nil, viewVs, Option.some.injEq] at hv
    subst hv
    exact ⟨rfl, fun i hi => absurd hi (Nat.not_lt_zero _)⟩
  | o :: as, xs, hv => by
    simp only [List.map_cons, viewVs] at hv
    split at hv
    · rename_i x xs' h1 h2
      cases hv
      obtain ⟨e1, e2⟩ := viewVs_rel h as xs' h2
      refine ⟨by simp [e1], fun i hi => ?_⟩
      cases i with
      | zero =>
        have hr := ev_rel h o
        generalize ev σ o = v at h1 hr
        cases v with
        | tup _ => simp [viewV] at h1
        | x x0 => exact viewX_rel h.heap h1 hr
      | succ i => simpa using e2 i (by simpa using hi)
    · cases hv

theorem partsOk_rel (h : Rel g0 w0 σ g a w) : ∀ (ps : List (Nat × Operand)) (i : Nat) (R : List (List C)), partsOk i (ps.map fun p => (p.1, ev σ p.2)) = some R →
    R.length = ps.length ∧ ∀ k, k < ps.length → ∃ v, (ps.map fun p => (p.1, a.eval p.2))[k]? = some (i + k, v) ∧ v.cells.toList.length = (R.getD k []).length ∧ ∀ j, j < (R.getD k []).length → CR w σ.o g none (cellAt R k j) (v.cells.toList.getD j undef)
  | [], i, R, hs => by
    simp only [List.map_nil, partsOk, Option.some.injEq] at hs
    subst hs
    exact ⟨rfl, fun k hk => absurd hk (Nat.not_lt_zero _)⟩
  | (i0, o) :: ps, i, R, hs => by
    simp only [List.map_cons] at hs
    have hr := ev_rel h o
    generalize ev σ o = v at hs hr
    cases v with
    | tup _ => simp [partsOk] at hs
    | x x =>
      simp only [partsOk] at hs
      split at hs
      · rename_i hi
        subst hi
        split at hs
        · rename_i cs R' hcs hR'
          cases hs
          obtain ⟨e1, e2⟩ := partsOk_rel h ps (i0 + 1) R' hR'
          obtain ⟨c1, c2, c3⟩ := cellsX_rel hcs hr
          refine ⟨by simp [e1], fun k hk => ?_⟩
          cases k with
          | zero => exact ⟨a.eval o, rfl, c1, fun j hj => c2 j hj⟩
          | succ k =>
            obtain ⟨v, k1, k2, k3⟩ := e2 k (by simpa using hk)
            refine ⟨v, ?_, k2, k3⟩
            rw [List.map_cons, List.getElem?_cons_succ, k1]
            congr 2; omega
        · cases hs
      · cases hs

theorem buildS_run (h : Rel g0 w0 σ g a w) {dst : Option Tmp} {t : TypeId} {n : Nat} {ps : Array (Nat × Operand)} {σ' : St} (hs : buildS P σ dst t n (ps.toList.map fun p => (p.1, ev σ p.2)) = some σ') :
    ∃ z w1 g1, (Instr.buildSlice t n (ps.map fun (i, x) => (i, a.eval x))).run P w = .ok z w1 ∧ Rel g0 w0 σ' g1 (a.put dst z) w1 := by
  unfold buildS at hs
  split at hs
  case h_2 => cases hs
  rename_i N e he
  split at hs
  case h_2 => cases hs
  rename_i zs sz R hz hsz hR
  split at hs
  case isFalse => cases hs
  rename_i hc
  obtain ⟨c1, c2, c3, c4, c5, c6, c7⟩ := hc
  cases hs
  obtain ⟨p1, p2⟩ := partsOk_rel h ps.toList 0 R hR
  have hrow : ∀ k, k < R.length → (R.getD k []).length = sz := fun k hk => by
    unfold sized at c6
    rw [List.all_eq_true] at c6
    have := c6 (R.getD k []) (by rw [List.getD_eq_getElem?_getD, List.getElem?_eq_getElem hk]; exact List.getElem_mem hk)
    simpa using this
  unfold tyZero at hz
  simp only [Option.map_eq_some_iff, Option.bind_eq_some_iff] at hz
  obtain ⟨zv, ⟨i, hi, hzv⟩, rfl⟩ := hz
  have hsi : i.size = sz := by
    unfold tySz at hsz
    rw [hi] at hsz
    simpa using hsz
  have hps : (ps.map fun (i, x) => (i, a.eval x)).toList = ps.toList.map fun p => (p.1, a.eval p.2) := by simp
  let A0 : Array Value := (Array.range (n * sz)).map (fun q => zv.cells[q % zv.cells.size]!)
  have hA0 : A0.size = n * sz := by simp [A0]
  obtain ⟨B, b1, b2, _, b4⟩ := fill_rows sz (ps.toList.map fun p => (p.1, a.eval p.2)) 0 A0 (fun k hk => by
    obtain ⟨v, v1, v2, _⟩ := p2 k (by simpa using hk)
    exact ⟨v, v1, by rw [hrow k (by rw [p1]; simpa using hk)] at v2; simpa using v2⟩) (by rw [hA0, List.length_map, ← p1, c4, Nat.zero_add]; exact Nat.le_refl _)
  have hfr : getA σ.l (σ.d, N * 64) = none := by simpa [fresh] using c1
  obtain ⟨r1, r2⟩ := h.new (N * 64) .sl sz R B e hfr (flatRows_nr c7) hrow (by rw [b2, hA0, c4]; exact Nat.le_refl _) (fun k j hk hj => by
    obtain ⟨v, v1, v2, v3⟩ := p2 k (by rw [← p1]; exact hk)
    have := b4 k j v v1 hj
    rw [Nat.zero_add] at this
    rw [this]
    exact v3 j (by rw [hrow k hk]; exact hj))
  have hrun : (Instr.buildSlice t n (ps.map fun (i, x) => (i, a.eval x))).run P w = .ok (.slice (some ⟨w.heap.size, 0, none⟩) n n) (w.alloc (.cells B e)) := by
    have hts := tySz_run hsz w
    by_cases h0 : n * sz = 0
    · have hn : n = 0 := by rcases Nat.mul_eq_zero.1 h0 with h | h <;> omega
      subst hn
      have hpe : ps = #[] := by
        have : ps.toList.length = 0 := by rw [← p1, c4]
        apply Array.ext'; simpa using this
      subst hpe
      have hB : B = #[] := by
        have : B.size = 0 := by rw [b2, hA0]; simp
        exact Array.eq_empty_of_size_eq_zero this
      subst hB
      simp [Instr.buildSlice, run_underlying (tyElem_spec he), hts, Instr.fill, newRow]
      exact congrArg (fun c => w.alloc (.cells c e)) (Array.eq_empty_of_size_eq_zero (by simp))
    · have hle : ¬ (n * sz > 2 ^ 24) := by omega
      have hzr : (zeroValue e).run P w = .ok zv w := by simp [zeroValue, typeInfo, hi, hzv]
      have hb1 : Instr.fill (fun i => some (i * sz, sz)) ((Array.range (n * sz)).map fun q => zv.cells[q % zv.cells.size]!) (ps.toList.map fun p => (p.1, a.eval p.2)) = some B := b1
      simp only [Instr.buildSlice, Sem.run_bind, run_underlying (tyElem_spec he), Result.andThen_ok, hts, if_neg hle, if_neg h0, hzr, Sem.run_pure, hps, hb1, newRow]
      rfl
  refine ⟨_, _, _, hrun, r1.put (some N) (v := slV σ N sz n) (y := .slice (some ⟨w.heap.size, 0, none⟩) n n) ?_⟩
  refine ⟨R, ⟨_, getA_newSt σ N ⟨.sl, sz, R⟩, rfl⟩, by omega, ?_⟩
  unfold SlAt
  have hg : (g.new (σ.d, N * 64) w.heap.size).G (σ.d, N * 64) [] = some w.heap.size := by simp [Gh.new]
  rw [hg]
  refine ⟨_, n, rfl, rfl, Nat.le_refl _, ?_, fun _ => by simp, fun _ => ⟨rfl, B, e, (0, 0), heap_alloc_new w _, by rw [b2, hA0]⟩⟩
  have : n * 1 ≤ n * sz := Nat.mul_le_mul_left _ c3
  simp only [maxLen]; omega

theorem buildV_run (h : Rel g0 w0 σ g a w) {t : TypeId} {ps : Array (Nat × Operand)} {v : V} (hs : buildV P t (ps.toList.map fun p => (p.1, ev σ p.2)) = some v) :
    ∃ z, (Instr.build t (ps.map fun (i, x) => (i, a.eval x))).run P w = .ok z w ∧ VR w σ.o g v z := by
  unfold buildV at hs
  split at hs
  case h_2 => cases hs
  rename_i zs hok hz
  obtain ⟨cs, hcs, rfl⟩ := Option.map_eq_some_iff.1 hs
  unfold tyZero at hz
  simp only [Option.map_eq_some_iff, Option.bind_eq_some_iff] at hz
  obtain ⟨zv, ⟨i, hi, hzv⟩, rfl⟩ := hz
  unfold fldsOk at hok
  split at hok
  case h_2 => cases hok
  rename_i fs hfs
  have hsr := sizes_run (P := P) w fs.toList hok
  let pl : List (Nat × Nat) := fs.toList.map fun f => (f.offset, ((P.info? f.type).map (·.size)).getD 0)
  have hp : ∀ f off ft n, tyFld P t f = some (off, ft) → tySz P ft = some n → (fun i => pl.toArray[i]?) f = some (off, n) := fun f off ft n h1 h2 => by
    unfold tyFld at h1
    rw [hfs] at h1
    obtain ⟨fd, h3, h4⟩ := Option.map_eq_some_iff.1 h1
    cases h4
    unfold tySz at h2
    have h5 : fs.toList[f]? = some fd := by simpa using h3
    show pl.toArray[f]? = _
    rw [List.getElem?_toArray, List.getElem?_map, h5]
    simp [h2]
  obtain ⟨B, b1, b2, b3⟩ := buildCells_rel (P := P) (w := w) (g := g) (o := σ.o) hp (ps.toList.map fun p => (p.1, ev σ p.2)) (ps.toList.map fun p => (p.1, a.eval p.2)) _ cs zv.cells (by simp) (fun k f v hk => by
    rw [List.getElem?_map] at hk ⊢
    obtain ⟨p, hp, he⟩ := Option.map_eq_some_iff.1 hk
    cases he
    exact ⟨a.eval p.2, by rw [hp]; rfl, ev_rel h p.2⟩) hcs (by simp) (fun j hj => by
    simp only [List.length_map] at hj
    have : (zv.cells.toList.map C.v).getD j .bad = .v (zv.cells.getD j undef) := by
      have hj' : j < zv.cells.size := by simpa using hj
      simp [List.getD_eq_getElem?_getD, Array.getD, hj']
    rw [this]; rfl)
  have hzr : (zeroValue t).run P w = .ok zv w := by simp [zeroValue, typeInfo, hi, hzv]
  have hmap : (fs.mapM fun f => do pure (f.offset, ← sizeOf f.type) : Sem _).run P w = .ok pl.toArray w := by
    rw [Array.mapM_eq_mapM_toList, Sem.run_map, hsr]; rfl
  have hps : (ps.map fun (i, x) => (i, a.eval x)).toList = ps.toList.map fun p => (p.1, a.eval p.2) := by simp
  have b1' : Instr.fill (fun i => pl.toArray[i]?) zv.cells (ps.toList.map fun p => (p.1, a.eval p.2)) = some B := b1
  refine ⟨.agg B, ?_, B.toList, by simp, by simpa using b2, fun j hj => ?_⟩
  · simp only [Instr.build, Sem.run_bind, hzr, Result.andThen_ok, run_underlying hfs, hmap, hps, b1', Sem.run_pure]
  · have := b3 j hj
    rwa [getD_flat _ _ (by omega)]

theorem Rel.drew' (h : Rel g0 w0 σ g a w) : Rel g0 w0 σ g a w.drew := by
  have hgoes : Goes w σ.o g w.drew σ.o g := ⟨fun k hk => ⟨hk, rfl⟩, fun r p m K hK => ⟨⟨K, hK, Nat.le_refl _⟩, rfl, fun b cs e f _ hb => ⟨cs, hb, rfl⟩⟩⟩
  refine ⟨h.defers, h.size, fun i hi => VR.goes hgoes (h.tmps i hi), ⟨?_, h.heap.none, h.heap.inj, h.heap.S⟩, ⟨h.keep.os, h.keep.tape, h.keep.output, h.keep.size, h.keep.S, h.keep.block⟩, h.loc, h.out, h.obj, h.gref, h.pin⟩
  intro r p m K b hK hb
  obtain ⟨k1, k2, cs, e, f, k3, kf, k4, k5⟩ := h.heap.rows r p m K b hK hb
  exact ⟨k1, k2, cs, e, f, k3, kf, k4, fun i j hi hj => CR.goesAt hgoes hK hi (by rw [k2 i hi]; exact hj) (k5 i j hi hj)⟩

theorem byteRows_length (s : ByteArray) : (byteRows s).length = s.size := by rw [byteRows, List.length_map, Array.length_toList]; rfl
theorem byteRows_getD (s : ByteArray) (i : Nat) (hi : i < s.size) : (byteRows s).getD i [] = [.v (.int .u8 (s.data[i]'hi).toNat)] := by
  have : i < s.data.toList.length := by rw [Array.length_toList]; exact hi
  simp [byteRows, List.getD_eq_getElem?_getD, List.getElem?_map, List.getElem?_eq_getElem this]
theorem byteRows_nr (s : ByteArray) : nrRR (byteRows s) = true := by
  unfold byteRows
  induction s.data.toList with
  | nil => rfl
  | cons b l ih => simp [nrRR, nrR, nr, ih]

theorem convS_run (h : Rel g0 w0 σ g a w) {dst : Option Tmp} {t u : TypeId} {v : V} {σ' : St} {y : Value} (hs : convS P σ dst t u v = some σ') (hv : VR w σ.o g v y) :
    ∃ z w1 g1, (convert t u y).run P w = .ok z w1 ∧ Rel g0 w0 σ' g1 (a.put dst z) w1 := by
  unfold convS at hs
  split at hs
  · rename_i e s he
    split at hs
    · rename_i N hu hub
      split at hs
      · rename_i hc
        cases hs
        obtain rfl : y = .string s := hv
        have hfr : getA σ.l (σ.d, N * 64) = none := by simpa [fresh] using hc.1
        have hge := grownCap_ge w s.size 0 e
        have hcm := grownCap_le_maxLen w s.size 0 e (Nat.le_trans hc.2 (by decide))
        have hrun := run_bytes_of_string (P := P) w t u e s hu (tyElem_spec he) hub
        generalize hN : grownCap w s.size 0 e = cap at hge hcm hrun
        have hbs : (bytesRow s cap).size = cap := by rw [bytesRow, Array.size_append, Array.size_map, Array.size_replicate, show s.data.size = s.size from rfl]; omega
        obtain ⟨r1, r2⟩ := h.drew'.new' (N * 64) .sl 1 (byteRows s) (bytesRow s cap) e ((bytesRow s cap).size, (bytesRow s cap).size + 1) (fun i hi hf => by simp only at hf; omega) hfr (by simp only [okObj]; exact byteRows_nr s)
          (fun i hi => by rw [byteRows_length] at hi; rw [byteRows_getD s i hi]; rfl) (by rw [byteRows_length, hbs]; omega) (fun i j hi hj => by
            rw [byteRows_length] at hi
            obtain rfl : j = 0 := by omega
            unfold cellAt
            rw [byteRows_getD s i hi]
            have hi2 : i < s.data.size := hi
            simp [bytesRow, Array.getD, CR, Array.getElem_append]
            rw [if_pos (by omega), dif_pos hi])
        refine ⟨_, _, _, hrun, r1.put (some N) (v := slV σ N 1 s.size) (y := .slice (some ⟨w.heap.size, 0, none⟩) s.size cap) ?_⟩
        refine ⟨byteRows s, ⟨_, getA_newSt σ N _, rfl⟩, by rw [byteRows_length]; omega, ?_⟩
        have hG : (g.new (σ.d, N * 64) w.drew.heap.size).G (σ.d, N * 64) [] = some w.drew.heap.size := by simp [Gh.new]
        unfold SlAt
        rw [hG]
        exact ⟨_, cap, rfl, rfl, hge, hcm, fun _ => by simp, fun _ => ⟨rfl, _, _, _, heap_alloc_new w.drew _, by rw [hbs]; omega⟩⟩
      · cases hs
    · cases hs
  · obtain ⟨r, hr, rfl⟩ := Option.map_eq_some_iff.1 hs
    obtain ⟨z, h1, h2⟩ := convV_run h.heap hr hv
    exact ⟨z, w, g, h1, h.put dst h2⟩

theorem wop_sound : OpSound wop P := by
  intro g0 w0 o σ g a w K N Q hw hr hk
  unfold wop at hw
  split at hw
  · rename_i f as ats ho
    rcases hw with hw | hw
    case inr => exact hw g0 w0 g a w N Q hr hk
    unfold callW at hw
    split at hw
    · rename_i n hdst
      obtain ⟨xs, ret, h1, ⟨⟨fn, hfn, hname, hbody⟩, h2⟩, h3, h4, h5⟩ := hw
      have hb : fn.body ≠ none := fun e => by simp [e] at hbody
      have hrun : (execOp a.eval o).run P w = .ok (.enter f (as.map a.eval)) w := by
        simp [execOp, ho, resolve, Deferred.ofValue, Act.eval, invoke, callFunc, program, hfn, hname, hb, Sem.run]
      obtain ⟨e1, e2⟩ := viewVs_rel hr as.toList xs h1
      have hc := h2 w (as.toList.map a.eval) (by simp [e1]) e2
      unfold Oper.wp
      rw [hrun, Oper.upon_enter]
      have hargs : (as.toList.map a.eval).toArray = as.map a.eval := by apply Array.ext'; simp
      rw [hargs] at hc
      refine hc.mono fun e w' he => ?_
      obtain ⟨gr, zs, rfl, hret, hkeep⟩ := he
      obtain ⟨g', k1, k2, _⟩ := hr.take hkeep hret h3 n h4
      exact hk _ g' _ _ h5 (k1.put o.dst k2)
    · exact hw.elim
  · exact hw g0 w0 g a w N Q hr hk
  · exact hw g0 w0 g a w N Q hr hk
  · exact hw g0 w0 g a w N Q hr hk
  · obtain ⟨σ', hs, hK⟩ := hw
    unfold stepO at hs
    split at hs
    · rename_i t x ho
      obtain ⟨z, w1, g1, h1, h2⟩ := boxS_run hr hs (ev_rel hr x) t
      have hrun : (execOp a.eval o).run P w = .ok (.value z) w1 := by simp only [execOp, ho]; rw [Sem.run_bind, h1]; rfl
      unfold Oper.wp; rw [hrun, Oper.upon_value]
      exact hk _ _ _ _ hK h2
    · rename_i t ho
      obtain ⟨z, w1, g1, h1, h2⟩ := allocS_run hr hs
      have hrun : (execOp a.eval o).run P w = .ok (.value z) w1 := by simp only [execOp, ho]; rw [Sem.run_bind, h1]; rfl
      unfold Oper.wp; rw [hrun, Oper.upon_value]
      exact hk _ _ _ _ hK h2
    · rename_i t l c ho
      obtain ⟨z, w1, g1, h1, h2⟩ := makeS_run hr hs (ev_rel hr l) (ev_rel hr c)
      have hrun : (execOp a.eval o).run P w = .ok (.value z) w1 := by simp only [execOp, ho]; rw [Sem.run_bind, h1]; rfl
      unfold Oper.wp; rw [hrun, Oper.upon_value]
      exact hk _ _ _ _ hK h2
    · rename_i t x y ho
      simp only [Option.map_eq_some_iff] at hs
      obtain ⟨σ1, hs1, rfl⟩ := hs
      obtain ⟨w1, g1, h1, h2⟩ := storeS_run hr hs1 (ev_rel hr x) (ev_rel hr y)
      have hrun : (execOp a.eval o).run P w = .ok .skip w1 := by simp only [execOp, ho]; rw [Sem.run_bind, h1]; rfl
      unfold Oper.wp; rw [hrun, Oper.upon_skip]
      exact hk _ _ _ _ hK (h2.put o.dst (v := .x (.one .bad)) trivial)
    · rename_i as ats ho
      split at hs
      · rename_i x y t tx has hats
        obtain rfl : as = #[x, y] := by apply Array.ext'; simpa using has
        obtain rfl : ats = #[t, tx] := by apply Array.ext'; simpa using hats
        obtain ⟨z, w1, g1, h1, h2⟩ := appendS_run (ty := o.type) hr hs (ev_rel hr x) (ev_rel hr y)
        have hrun : (execOp a.eval o).run P w = .ok (.value z) w1 := by
          unfold execOp
          simp only [ho, resolve, invoke, builtin, Sem.run_bind, Sem.run_pure, Result.andThen_ok, List.map_toArray, List.map_cons, List.map_nil, h1]
        unfold Oper.wp; rw [hrun, Oper.upon_value]
        exact hk _ _ _ _ hK h2
      · cases hs
    · rename_i t parts ho
      obtain ⟨v, hv, rfl⟩ := Option.map_eq_some_iff.1 hs
      obtain ⟨z, h1, h2⟩ := buildV_run hr hv
      have hrun : (execOp a.eval o).run P w = .ok (.value z) w := by simp only [execOp, ho]; rw [Sem.run_bind, h1]; rfl
      unfold Oper.wp; rw [hrun, Oper.upon_value]
      exact hk _ _ _ _ hK (hr.put o.dst h2)
    · rename_i t n parts ho
      obtain ⟨z, w1, g1, h1, h2⟩ := buildS_run hr hs
      have hrun : (execOp a.eval o).run P w = .ok (.value z) w1 := by simp only [execOp, ho]; rw [Sem.run_bind, h1]; rfl
      unfold Oper.wp; rw [hrun, Oper.upon_value]
      exact hk _ _ _ _ hK h2
    · rename_i t u x ho
      obtain ⟨z, w1, g1, h1, h2⟩ := convS_run hr hs (ev_rel hr x)
      have hrun : (execOp a.eval o).run P w = .ok (.value z) w1 := by simp only [execOp, ho]; rw [Sem.run_bind, h1]; rfl
      unfold Oper.wp; rw [hrun, Oper.upon_value]
      exact hk _ _ _ _ hK h2
    · simp only [Option.map_eq_some_iff] at hs
      obtain ⟨v, hv, rfl⟩ := hs
      obtain ⟨z, h1, h2⟩ := opV_run hr hv
      unfold Oper.wp; rw [h1, Oper.upon_value]
      exact hk _ _ _ _ hK (hr.put o.dst h2)

end
end Go.Rx
