/- Stores and calls are sound; a body that comes to its results is a function of data. -/
import Derived.Test.YtbnabpmfdnfigaaRxL
namespace Go.Rx
open Go.RowKit

theorem nrR_all (cs : List C) : nrR cs = cs.all nr := by induction cs <;> simp_all [nrR]
theorem nrRR_all (R : List (List C)) : nrRR R = R.all nrR := by induction R <;> simp_all [nrRR]

theorem nrR_setRange {row cs : List C} {off : Nat} (h : nrR row = true) (h' : nrR cs = true) : nrR (setRange row off cs) = true := by
  rw [nrR_all, List.all_eq_true] at *
  intro c hc
  simp only [setRange, List.append_assoc, List.mem_append] at hc
  rcases hc with hc | hc | hc
  · exact h c (List.mem_of_mem_take hc)
  · exact h' c hc
  · exact h c (List.mem_of_mem_drop hc)

theorem nrRR_set {R : List (List C)} {i : Nat} {row : List C} (h : nrRR R = true) (h' : nrR row = true) : nrRR (R.set i row) = true := by
  rw [nrRR_all, List.all_eq_true] at *
  intro r hr
  rcases List.mem_or_eq_of_mem_set hr with hr | rfl
  · exact h r hr
  · exact h'

theorem nrRR_row {R : List (List C)} (h : nrRR R = true) (i : Nat) : nrR (R.getD i []) = true := by
  rw [nrRR_all, List.all_eq_true] at h
  rw [List.getD_eq_getElem?_getD]
  cases hi : R[i]? with
  | none => rfl
  | some r => exact h r (List.mem_of_getElem? hi)

theorem nrR_setC {row : List C} {j : Nat} {c : C} (h : nrR row = true) (h' : nr c = true) : nrR (row.set j c) = true := by
  rw [nrR_all, List.all_eq_true] at *
  intro r hr
  rcases List.mem_or_eq_of_mem_set hr with hr | rfl
  · exact h r hr
  · exact h'

theorem nrRR_updAt {Q' : List (List C)} (hQ : nrRR Q' = true) : ∀ (p : Path) (R : List (List C)), nrRR R = true → nrRR (updAt R p Q') = true
  | [], _, _ => hQ
  | (i, j) :: p, R, h => by
    simp only [updAt]
    split
    · rename_i sz Q hc
      obtain ⟨h1, h2, h3⟩ := bind_cell hc
      have := nrRR_get h i j
      rw [h3] at this
      exact nrRR_set h (nrR_setC (nrRR_row h i) (by simp only [nr]; exact nrRR_updAt hQ p Q (by simpa [nr] using this)))
    · exact h

theorem refOr_of_nr {c : C} (h : nr c = true) : refOr c = true := by cases c <;> first | rfl | exact h

theorem okObj_upd {ob : Obj'} {p : Path} {sz row off : Nat} {Q : List (List C)} {cs : List C} (h : okObj ob = true) (hR : rowsAt ob.sz ob.rows p = some (sz, Q)) (hcs : ∀ c ∈ cs, refOr c = true)
    (hc : (ob.kind = .box ∧ p = []) ∨ nrR cs = true) : okObj { ob with rows := updAt ob.rows p (Q.set row (setRange (Q.getD row []) off cs)) } = true := by
  obtain ⟨k, s, rows⟩ := ob
  simp only [okObj] at h hR hc ⊢
  have nested : ∀ (p : Path) (s : Nat) (R : List (List C)), nrRR R = true → rowsAt s R p = some (sz, Q) → nrR cs = true → nrRR (updAt R p (Q.set row (setRange (Q.getD row []) off cs))) = true := fun p s R hn hr hcs =>
    nrRR_updAt (nrRR_set (nrRR_rowsAt hn hr) (nrR_setRange (nrRR_row (nrRR_rowsAt hn hr) row) hcs)) p R hn
  cases k with
  | vr => exact h
  | sl =>
    rcases hc with ⟨e, _⟩ | hc
    · cases e
    · exact nested p s rows h hR hc
  | box =>
    simp only [List.all_eq_true] at h ⊢
    cases p with
    | nil =>
      simp only [rowsAt, Option.some.injEq, Prod.mk.injEq] at hR
      obtain ⟨rfl, rfl⟩ := hR
      simp only [updAt]
      intro r hr c hcr
      rcases List.mem_or_eq_of_mem_set hr with hr | rfl
      · exact h r hr c hcr
      · have hrow : ∀ c ∈ rows.getD row [], refOr c = true := fun c hc => by
          rw [List.getD_eq_getElem?_getD] at hc
          cases hi : rows[row]? with
          | none => simp [hi] at hc
          | some r => rw [hi] at hc; exact h r (List.mem_of_getElem? hi) c hc
        simp only [setRange, List.append_assoc, List.mem_append] at hcr
        rcases hcr with hc' | hc' | hc'
        · exact hrow c (List.mem_of_mem_take hc')
        · exact hcs c hc'
        · exact hrow c (List.mem_of_mem_drop hc')
    | cons x p =>
      obtain ⟨i, j⟩ := x
      rcases hc with ⟨_, e⟩ | hc
      · cases e
      · simp only [rowsAt] at hR
        split at hR
        · rename_i s1 Q1 hb
          obtain ⟨h1, h2, h3⟩ := bind_cell hb
          simp only [updAt, hb]
          intro r hr c hcr
          rcases List.mem_or_eq_of_mem_set hr with hr | rfl
          · exact h r hr c hcr
          · have hmem : rows.getD i [] ∈ rows := by rw [List.getD_eq_getElem?_getD, List.getElem?_eq_getElem h1]; exact List.getElem_mem h1
            rcases List.mem_or_eq_of_mem_set hcr with hc' | rfl
            · exact h _ hmem c hc'
            · have hown : C.own s1 Q1 ∈ rows.getD i [] := by
                rw [← h3]; unfold cellAt
                rw [List.getD_eq_getElem?_getD (l := rows.getD i []), List.getElem?_eq_getElem h2]; exact List.getElem_mem h2
              have := h _ hmem _ hown
              simp only [refOr, nr] at this ⊢
              exact nested p s1 Q1 this hR hc
        · cases hR

section
variable {P : Program} {w w0 w' : World} {g g0 gr : Gh} {σ : St} {a : Act}

theorem scalar_one {v : Value} (h : scalar v = true) : v.oneCell' = true := by cases v <;> first | rfl | cases h

theorem storeS_run (h : Rel g0 w0 σ g a w) {t : TypeId} {x v : V} {σ' : St} {y z : Value} (hs : storeS P σ t x v = some σ') (hx : VR w σ.o g x y) (hv : VR w σ.o g v z) :
    ∃ w1 g1, (Instr.storeAt t y z).run P w = .ok () w1 ∧ Rel g0 w0 σ' g1 a w1 := by
  unfold storeS at hs
  split at hs
  · rename_i r p sz row off vx
    split at hs
    · rename_i cs n ob hcs hn hob
      split at hs
      · rename_i sz' Q hQ
        split at hs
        · rename_i hc
          obtain ⟨rfl, rfl, hrow, hoff, hno, hok, hd⟩ := hc
          cases hs
          obtain ⟨R, b, hl, hlt, hb, rfl⟩ := hx
          have hlive : Live σ.o r p sz' Q := ⟨ob, hob, hQ⟩
          obtain ⟨_, rfl⟩ := Live.unique hlive hl
          obtain ⟨h1, h2, h3⟩ := cellsX_rel hcs hv
          obtain ⟨_, hlen, cells, e, f, hblk, hthaw, hsize, _⟩ := h.heap.rows r p sz' Q b hlive hb
          have hmul : (row + 1) * sz' ≤ Q.length * sz' := Nat.mul_le_mul_right _ (by omega)
          rw [Nat.add_mul, Nat.one_mul] at hmul
          have hold : ∀ j, off ≤ j → j < off + cs.length → ∀ m K, cellAt Q row j ≠ .own m K := by
            intro j hj1 hj2 m K he
            simp only [noOwns, List.all_eq_true] at hno
            have hmem : C.own m K ∈ ((Q.getD row []).drop off).take cs.length := by
              have hjl : j < (Q.getD row []).length := by rw [hlen row hrow]; omega
              rw [List.mem_iff_getElem?]
              refine ⟨j - off, ?_⟩
              rw [List.getElem?_take, if_pos (by omega), List.getElem?_drop, show off + (j - off) = j by omega, List.getElem?_eq_getElem hjl, ← he]
              unfold cellAt
              rw [List.getD_eq_getElem?_getD (l := Q.getD row []), List.getElem?_eq_getElem hjl]; rfl
            have := hno _ hmem
            simp at this
          have hrefs : ∀ c ∈ cs, refOr c = true := fun c hc => by
            obtain ⟨j, hj, rfl⟩ := List.getElem_of_mem hc
            have := h3 j hj
            rw [List.getD_eq_getElem?_getD, List.getElem?_eq_getElem hj] at this
            exact cellOk_refOr this
          obtain ⟨r1, _⟩ := h.store (off := off) (ys := z.cells.toList) hlive hb hrow hoff hold
            (fun ob' hob' => by rw [hob] at hob'; cases hob'; exact okObj_upd (h.obj r ob hob) hQ hrefs hok)
            (fun hll j r' hj href => by
              rcases hd with hd | hd
              · exfalso
                have h0 : getA (σ.l ++ σ.g) r = some ob := hob
                rw [getA_append, hll] at h0
                have := h.out r ob h0
                omega
              · simp only [below, List.all_eq_true] at hd
                have := hd (cs.getD j .bad) (by rw [List.getD_eq_getElem?_getD, List.getElem?_eq_getElem hj]; exact List.getElem_mem hj)
                rw [href] at this
                simpa using this) h1 h2
          refine ⟨_, g, ?_, r1⟩
          have hvs : z.cells.size = cs.length := by rw [← h1]; simp
          have hst := run_storeCells_cells (P := P) b (row * sz' + off) z.cells.toList 0 w (fun j hj => by
              rw [h1] at hj
              rw [Nat.add_zero, cell_of_block hblk (by omega)]; rfl) (fun j hj => by
              rw [h1] at hj
              have := hthaw (row * sz' + off + j) (by omega)
              simp only [World.frozen?, hblk, Nat.add_zero]
              simpa using this) (fun v hv => by
              obtain ⟨j, hj, rfl⟩ := List.getElem_of_mem hv
              have hj' : j < cs.length := by rw [← h1]; exact hj
              have := CR.scalar (h3 j hj') (h2 j hj')
              rw [List.getD_eq_getElem?_getD, List.getElem?_eq_getElem hj] at this
              exact scalar_one this)
          simp only [Instr.storeAt, Instr.sureAddr, storeVar, Sem.run_bind, Sem.run_pure, Result.andThen_ok, tySz_run hn, hvs, ne_eq, not_true, if_false, hst, Nat.add_zero]
        · cases hs
      · cases hs
    · cases hs
  · cases hs

theorem viewX_rel {x x' : X} {y : Value} (h : HeapRel w σ.o g) (hv : viewX σ.o x = some x') (hx : XR w σ.o g x y) : XR w [] (Sall w) x' y := by
  have cell : ∀ {c c' : C} {y : Value}, viewC σ.o c = some c' → CR w σ.o g none c y → CR w [] (Sall w) none c' y := fun hv hc =>
    CR.of_sh (g := Sall w) (viewC_rel h hv hc)
  cases x with
  | one c =>
    simp only [viewX, Option.map_eq_some_iff] at hv
    obtain ⟨c', h1, rfl⟩ := hv
    exact cell h1 hx
  | agg cs =>
    simp only [viewX, Option.map_eq_some_iff] at hv
    obtain ⟨cs', h1, rfl⟩ := hv
    obtain ⟨ys, rfl, hl, hc⟩ := hx
    have hlen : ∀ (cs cs' : List C), viewCs σ.o cs = some cs' → cs'.length = cs.length := by
      intro cs; induction cs with
      | nil => intro cs' h; simp only [viewCs, Option.some.injEq] at h; subst h; rfl
      | cons c cs ih =>
        intro cs' h
        simp only [viewCs] at h
        split at h
        · rename_i c1 cs1 e1 e2; cases h; simp [ih _ e2]
        · cases h
    have hget : ∀ (cs cs' : List C), viewCs σ.o cs = some cs' → ∀ j, j < cs.length → viewC σ.o (cs.getD j .bad) = some (cs'.getD j .bad) := by
      intro cs; induction cs with
      | nil => intro cs' _ j hj; simp at hj
      | cons c cs ih =>
        intro cs' h j hj
        simp only [viewCs] at h
        split at h
        · rename_i c1 cs1 e1 e2
          cases h
          cases j with
          | zero => simpa using e1
          | succ j => simpa using ih _ e2 j (by simpa using hj)
        · cases h
    have hll := hlen cs cs' h1
    exact ⟨ys, rfl, by rw [hll]; exact hl, fun j hj => cell (hget cs cs' h1 j (by omega)) (hc j (by omega))⟩

theorem viewVs_rel (h : Rel g0 w0 σ g a w) : ∀ (as : List Operand) (xs : List X), viewVs σ.o (as.map (ev σ)) = some xs →
    xs.length = as.length ∧ ∀ i, i < xs.length → XR w [] (Sall w) (xs.getD i (.one .bad)) ((as.map a.eval).getD i undef)
  | [], xs, hv => by
    simp only [List.map_nil, viewVs, Option.some.injEq] at hv
    subst hv
    exact ⟨rfl, fun i hi => absurd hi (Nat.not_lt_zero _)⟩
  | o :: as, xs, hv => by
    simp only [List.map_cons, viewVs] at hv
    split at hv
    · rename_i x xs' h1 h2
      cases hv
      obtain ⟨e1, e2⟩ := viewVs_rel h as xs' h2
      refine ⟨by simp [e1], fun i hi => ?_⟩
      cases i with
      | zero =>
        have hr := ev_rel h o
        generalize ev σ o = v at h1 hr
        cases v with
        | tup _ => simp [viewV] at h1
        | x x0 => exact viewX_rel h.heap h1 hr
      | succ i => simpa using e2 i (by simpa using hi)
    · cases hv

theorem wop_sound : OpSound wop P := by
  intro g0 w0 o σ g a w K N Q hw hr hk
  unfold wop at hw
  split at hw
  · rename_i f as ats ho
    unfold callW at hw
    split at hw
    · rename_i n hdst
      obtain ⟨xs, ret, h1, ⟨⟨fn, hfn, hname, hbody⟩, h2⟩, h3, h4, h5⟩ := hw
      have hb : fn.body ≠ none := fun e => by simp [e] at hbody
      have hrun : (execOp a.eval o).run P w = .ok (.enter f (as.map a.eval)) w := by
        simp [execOp, ho, resolve, Deferred.ofValue, Act.eval, invoke, callFunc, program, hfn, hname, hb, Sem.run]
      obtain ⟨e1, e2⟩ := viewVs_rel hr as.toList xs h1
      have hc := h2 w (as.toList.map a.eval) (by simp [e1]) e2
      unfold Oper.wp
      rw [hrun, Oper.upon_enter]
      have hargs : (as.toList.map a.eval).toArray = as.map a.eval := by apply Array.ext'; simp
      rw [hargs] at hc
      refine hc.mono fun e w' he => ?_
      obtain ⟨gr, zs, rfl, hret, hkeep⟩ := he
      obtain ⟨g', k1, k2, _⟩ := hr.take hkeep hret h3 n h4
      exact hk _ g' _ _ h5 (k1.put o.dst k2)
    · exact hw.elim
  · obtain ⟨σ', hs, hK⟩ := hw
    unfold stepO at hs
    split at hs
    · rename_i t x ho
      obtain ⟨z, w1, g1, h1, h2⟩ := boxS_run hr hs (ev_rel hr x) t
      have hrun : (execOp a.eval o).run P w = .ok (.value z) w1 := by simp only [execOp, ho]; rw [Sem.run_bind, h1]; rfl
      unfold Oper.wp; rw [hrun, Oper.upon_value]
      exact hk _ _ _ _ hK h2
    · rename_i t ho
      obtain ⟨z, w1, g1, h1, h2⟩ := allocS_run hr hs
      have hrun : (execOp a.eval o).run P w = .ok (.value z) w1 := by simp only [execOp, ho]; rw [Sem.run_bind, h1]; rfl
      unfold Oper.wp; rw [hrun, Oper.upon_value]
      exact hk _ _ _ _ hK h2
    · rename_i t l c ho
      obtain ⟨z, w1, g1, h1, h2⟩ := makeS_run hr hs (ev_rel hr l) (ev_rel hr c)
      have hrun : (execOp a.eval o).run P w = .ok (.value z) w1 := by simp only [execOp, ho]; rw [Sem.run_bind, h1]; rfl
      unfold Oper.wp; rw [hrun, Oper.upon_value]
      exact hk _ _ _ _ hK h2
    · rename_i t x y ho
      simp only [Option.map_eq_some_iff] at hs
      obtain ⟨σ1, hs1, rfl⟩ := hs
      obtain ⟨w1, g1, h1, h2⟩ := storeS_run hr hs1 (ev_rel hr x) (ev_rel hr y)
      have hrun : (execOp a.eval o).run P w = .ok .skip w1 := by simp only [execOp, ho]; rw [Sem.run_bind, h1]; rfl
      unfold Oper.wp; rw [hrun, Oper.upon_skip]
      exact hk _ _ _ _ hK (h2.put o.dst (v := .x (.one .bad)) trivial)
    · simp only [Option.map_eq_some_iff] at hs
      obtain ⟨v, hv, rfl⟩ := hs
      obtain ⟨z, h1, h2⟩ := opV_run hr hv
      unfold Oper.wp; rw [h1, Oper.upon_value]
      exact hk _ _ _ _ hK (hr.put o.dst h2)

end
end Go.Rx
