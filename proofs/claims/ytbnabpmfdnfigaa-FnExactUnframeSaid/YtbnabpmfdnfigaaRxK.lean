/- A callee's results taken over by the caller. -/
import Derived.Test.YtbnabpmfdnfigaaRxJ
namespace Go.Rx
open Go.RowKit

def newRoots (d N : Nat) : Nat → List C → Store
  | _, [] => []
  | j, c :: cs => match c with
    | .own sz R => ((d, N * 64 + j), ⟨.sl, sz, R⟩) :: newRoots d N (j + 1) cs
    | _ => newRoots d N (j + 1) cs
def impC (d N j : Nat) : C → C
  | .own sz R => .rs (d, N * 64 + j) [] sz 0 R.length
  | c => c
def impCs (d N : Nat) : Nat → List C → List C
  | _, [] => []
  | j, c :: cs => impC d N j c :: impCs d N (j + 1) cs
def impXs (d N : Nat) : Nat → List X → List X
  | _, [] => []
  | j, .one c :: xs => .one (impC d N j c) :: impXs d N (j + 1) xs
  | j, .agg cs :: xs => .agg (impCs d N j cs) :: impXs d N (j + cs.length) xs
def packT : List X → V
  | [x] => .x x
  | xs => .tup xs
def freshR (l : Store) : Store → Bool
  | [] => true
  | (k, _) :: s => (getA l k).isNone && freshR l s

/-- The caller, with the callee's rows. -/
def impSt (σ : St) (N : Nat) (ret : List X) : St := { σ with l := newRoots σ.d N 0 (retRow ret) ++ σ.l }

theorem getA_newRoots (d N : Nat) : ∀ (cs : List C) (j : Nat) (r : Root) (ob : Obj'), getA (newRoots d N j cs) r = some ob →
    ∃ i sz R, i < cs.length ∧ cs.getD i .bad = .own sz R ∧ r = (d, N * 64 + (j + i)) ∧ ob = ⟨.sl, sz, R⟩
  | [], j, r, ob, h => by simp [newRoots, getA] at h
  | c :: cs, j, r, ob, h => by
    have rest : getA (newRoots d N (j + 1) cs) r = some ob → ∃ i sz R, i < (c :: cs).length ∧ (c :: cs).getD i .bad = .own sz R ∧ r = (d, N * 64 + (j + i)) ∧ ob = ⟨.sl, sz, R⟩ := fun h => by
      obtain ⟨i, sz, R, h1, h2, h3, h4⟩ := getA_newRoots d N cs (j + 1) r ob h
      exact ⟨i + 1, sz, R, by simpa using h1, by simpa using h2, by rw [h3]; congr 2; omega, h4⟩
    cases c with
    | own sz R =>
      simp only [newRoots, getA] at h
      split at h
      · rename_i e
        cases h
        exact ⟨0, sz, R, by simp, by simp, by rw [← e]; rfl, rfl⟩
      · exact rest h
    | _ => exact rest h

theorem newRoots_getA (d N : Nat) : ∀ (cs : List C) (j i : Nat) (sz : Nat) (R : List (List C)), i < cs.length → cs.getD i .bad = .own sz R →
    getA (newRoots d N j cs) (d, N * 64 + (j + i)) = some ⟨.sl, sz, R⟩
  | [], j, i, sz, R, h, _ => absurd h (Nat.not_lt_zero _)
  | c :: cs, j, i, sz, R, h, hc => by
    cases i with
    | zero =>
      simp only [List.getD_cons_zero] at hc
      subst hc
      simp [newRoots, getA]
    | succ i =>
      have ih := newRoots_getA d N cs (j + 1) i sz R (by simpa using h) (by simpa using hc)
      rw [show j + 1 + i = j + (i + 1) by omega] at ih
      cases c with
      | own s Q =>
        simp only [newRoots, getA]
        rw [if_neg (by simp), ih]
      | _ => exact ih

theorem freshR_spec {l s : Store} (h : freshR l s = true) {r : Root} {ob : Obj'} (hr : getA s r = some ob) : getA l r = none := by
  induction s with
  | nil => simp [getA] at hr
  | cons x s ih =>
    obtain ⟨k, o⟩ := x
    simp only [freshR, Bool.and_eq_true, Option.isNone_iff_eq_none] at h
    simp only [getA] at hr
    split at hr
    · rename_i e; rw [← e]; exact h.1
    · exact ih h.2 hr

section
variable {P : Program} {w w0 w' : World} {g g0 gr : Gh} {σ : St} {a : Act} {o : Store}

theorem impXs_rel {d N : Nat} : ∀ (xs : List X) (j : Nat) (zs : List Value), zs.length = (retRow xs).length →
    (∀ i, i < (retRow xs).length → CR w o g none (impC d N (j + i) ((retRow xs).getD i .bad)) (zs.getD i undef)) →
    (packX xs zs).length = (impXs d N j xs).length ∧ ∀ k, k < (impXs d N j xs).length → XR w o g ((impXs d N j xs).getD k (.one .bad)) ((packX xs zs).getD k undef)
  | [], j, zs, _, _ => by simp [packX, impXs]
  | .one c :: xs, j, zs, hz, h => by
    simp only [retRow, cellsOf, List.length_append, List.length_cons, List.length_nil] at hz h
    obtain ⟨l1, l2⟩ := impXs_rel xs (j + 1) (zs.drop 1) (by simp; omega) (fun i hi => by
      have := h (i + 1) (by omega)
      rw [show j + (i + 1) = j + 1 + i by omega] at this
      simpa [List.getD_eq_getElem?_getD, List.getElem?_drop, Nat.add_comm] using this)
    refine ⟨by simp only [packX, impXs, List.length_cons, l1], fun k hk => ?_⟩
    cases k with
    | zero =>
      have := h 0 (by omega)
      simp only [packX, impXs, List.getD_cons_zero]
      cases zs with
      | nil => simp only [List.length_nil] at hz; omega
      | cons z zs =>
        simp only [List.headD_cons]
        show CR w o g none _ _
        simpa using this
    | succ k =>
      simp only [packX, impXs, List.getD_cons_succ]
      exact l2 k (by simpa [impXs] using hk)
  | .agg cs :: xs, j, zs, hz, h => by
    simp only [retRow, cellsOf, List.length_append] at hz h
    obtain ⟨l1, l2⟩ := impXs_rel xs (j + cs.length) (zs.drop cs.length) (by simp; omega) (fun i hi => by
      have := h (cs.length + i) (by omega)
      rw [← Nat.add_assoc] at this
      simpa [List.getD_eq_getElem?_getD, List.getElem?_drop, List.getElem?_append_right] using this)
    refine ⟨by simp only [packX, impXs, List.length_cons, l1], fun k hk => ?_⟩
    have hlen : ∀ (cs : List C) (j : Nat), (impCs d N j cs).length = cs.length := by
      intro cs; induction cs with
      | nil => intro j; rfl
      | cons c cs ih => intro j; simp [impCs, ih]
    have hget : ∀ (cs : List C) (j i : Nat), i < cs.length → (impCs d N j cs).getD i .bad = impC d N (j + i) (cs.getD i .bad) := by
      intro cs; induction cs with
      | nil => intro j i hi; simp at hi
      | cons c cs ih =>
        intro j i hi
        cases i with
        | zero => simp [impCs]
        | succ i =>
          have := ih (j + 1) i (by simpa using hi)
          simp only [impCs, List.getD_cons_succ, this]
          rw [show j + 1 + i = j + (i + 1) by omega]
    cases k with
    | zero =>
      simp only [packX, impXs, List.getD_cons_zero]
      refine ⟨_, rfl, by simp [hlen]; omega, fun i hi => ?_⟩
      rw [hlen] at hi
      rw [hget cs j i hi]
      have := h i (by omega)
      simpa [List.getD_eq_getElem?_getD, List.getElem?_append_left hi, hi] using this
    | succ k =>
      simp only [packX, impXs, List.getD_cons_succ]
      exact l2 k (by simpa [impXs] using hk)

theorem packT_rel {xs : List X} {zs : List Value} (hl : zs.length = xs.length) (h : ∀ k, k < xs.length → XR w o g (xs.getD k (.one .bad)) (zs.getD k undef)) : VR w o g (packT xs) (packV zs) := by
  match xs, zs, hl with
  | [], [], _ => exact ⟨[], rfl, rfl, fun j hj => absurd hj (Nat.not_lt_zero _)⟩
  | [x], [z], _ => exact h 0 (by simp)
  | x :: y :: xs, z :: u :: zs, hl => exact ⟨_, rfl, hl, h⟩

theorem Rel.take (h : Rel g0 w0 σ g a w) {ret : List X} {zs : List Value} (hk : Keep (Sall w) w gr w') (hr : RetR w' gr ret zs) (hpo : poR (retRow ret) = true) (N : Nat)
    (hf : freshR σ.l (newRoots σ.d N 0 (retRow ret)) = true) :
    ∃ g', Rel g0 w0 (impSt σ N ret) g' a w' ∧ VR w' (impSt σ N ret).o g' (packT (impXs σ.d N 0 ret)) (packV (packX ret zs)) ∧ Goes w σ.o g w' (impSt σ N ret).o g' := by
  generalize hrow : retRow ret = row at *
  -- the new ghost
  let g' : Gh := { g with G := fun r p => match getA (newRoots σ.d N 0 row) r with | some _ => gr.G rho ((0, r.2 - N * 64) :: p) | none => g.G r p }
  have hgetA : ∀ r, getA (impSt σ N ret).o r = match getA (newRoots σ.d N 0 row) r with | some ob => some ob | none => getA σ.o r := fun r => by
    show getA ((newRoots σ.d N 0 (retRow ret) ++ σ.l) ++ σ.g) r = _
    rw [hrow, List.append_assoc, getA_append]; rfl
  have hdis : ∀ r ob, getA σ.o r = some ob → getA (newRoots σ.d N 0 row) r = none := fun r ob hro => by
    cases hn : getA (newRoots σ.d N 0 row) r with
    | none => rfl
    | some ob' =>
      exfalso
      have h1 := freshR_spec hf hn
      have h2 : getA (σ.l ++ σ.g) r = some ob := hro
      rw [getA_append, h1] at h2
      obtain ⟨i, sz, R, _, _, e, _⟩ := getA_newRoots _ _ _ _ _ _ hn
      have := h.out r ob h2
      rw [e] at this
      exact Nat.lt_irrefl _ this
  have hGnew : ∀ j s R p, j < row.length → row.getD j .bad = .own s R → g'.G (σ.d, N * 64 + j) p = gr.G rho ((0, j) :: p) := fun j s R p hj hc => by
    have := newRoots_getA σ.d N row 0 j s R hj hc
    rw [Nat.zero_add] at this
    show (match getA (newRoots σ.d N 0 row) _ with | some _ => _ | none => _) = _
    rw [this]
    simp
  have hGold : ∀ r ob p, getA σ.o r = some ob → g'.G r p = g.G r p := fun r ob p hro => by
    show (match getA (newRoots σ.d N 0 row) _ with | some _ => _ | none => _) = _
    rw [hdis r ob hro]
  have hlv : ∀ r p m K, Live (impSt σ N ret).o r p m K → (∃ j s R, j < row.length ∧ row.getD j .bad = .own s R ∧ r = (σ.d, N * 64 + j) ∧ rowsAt s R p = some (m, K)) ∨ Live σ.o r p m K := by
    rintro r p m K ⟨ob, h1, h2⟩
    rw [hgetA] at h1
    split at h1
    · rename_i ob' hn
      cases h1
      obtain ⟨i, sz, R, e1, e2, e3, rfl⟩ := getA_newRoots _ _ _ _ _ _ hn
      exact .inl ⟨i, sz, R, e1, e2, by rw [e3, Nat.zero_add], h2⟩
    · exact .inr ⟨ob, h1, h2⟩
  have hlr : ∀ j s R p m K, j < row.length → row.getD j .bad = .own s R → rowsAt s R p = some (m, K) → Live (retStore ret) rho ((0, j) :: p) m K := fun j s R p m K hj hc hp => by
    refine ⟨⟨.vr, row.length, [row]⟩, by simp [retStore, getA, hrow], ?_⟩
    have : ([row][0]?).bind (·[j]?) = some (.own s R) := by
      rw [← hc]; simp [List.getD_eq_getElem?_getD, List.getElem?_eq_getElem hj]
    simp only [rowsAt, this]
    exact hp
  have hblk : ∀ k, k < w.heap.size → w'.heap[k]? = w.heap[k]? := fun k hk' => hk.block k hk'
  have hgoes : Goes w σ.o g w' (impSt σ N ret).o g' := by
    refine ⟨fun k hk' => ⟨hk', hblk k (h.heap.S k hk')⟩, fun r p m K hl => ?_⟩
    obtain ⟨ob, h1, h2⟩ := hl
    refine ⟨⟨K, ⟨ob, by rw [hgetA, hdis r ob h1]; exact h1, h2⟩, Nat.le_refl _⟩, hGold r ob p h1, fun b cs e f _ hb => ⟨cs, by rw [hblk b (block_lt hb)]; exact hb, rfl⟩⟩
  have hSl : ∀ j s R p off sz len y, j < row.length → row.getD j .bad = .own s R → SlAt gr w' rho ((0, j) :: p) sz off len y → SlAt g' w' (σ.d, N * 64 + j) p sz off len y :=
    fun j s R p off sz len y hj hc hs => by
      unfold SlAt at *; rw [hGnew j s R p hj hc]; exact hs
  have hgS : ∀ k, g.S k → gr.S k := fun k hk' => hk.S k (h.heap.S k hk')
  refine ⟨g', ⟨h.defers, h.size, fun i hi => VR.goes hgoes (h.tmps i hi), ⟨?_, ?_, ?_, ?_⟩, ⟨hk.os.trans h.keep.os, hk.tape.trans h.keep.tape, hk.output.trans h.keep.output, Nat.le_trans h.keep.size hk.size, h.keep.S, ?_⟩, ?_, h.out, ?_, h.gref, h.pin.goes hgoes fun _ ob h => ⟨ob, h⟩⟩, ?_, hgoes⟩
  · intro r p m K b hl hg
    rcases hlv r p m K hl with ⟨j, s, R, hj, hc, rfl, hp⟩ | hl'
    · rw [hGnew j s R p hj hc] at hg
      obtain ⟨k1, k2, cells, e, f, k3, kf, k4, k5⟩ := hr.heap.rows rho _ m K b (hlr j s R p m K hj hc hp) hg
      refine ⟨fun hs => k1 (hgS b hs), k2, cells, e, f, k3, kf, k4, fun i k hi hk' => ?_⟩
      have hpoR : poRR R = true := by have := poR_get hpo j hj; rw [hc] at this; simpa [po] using this
      have hn := poRR_get (poRR_rowsAt hpoR hp) i k hi (by rw [k2 i hi]; exact hk')
      have hc' := k5 i k hi hk'
      generalize cellAt K i k = c at hn hc' ⊢
      cases c with
      | v x => exact hc'
      | own s1 Q =>
        exact hSl j s R (p ++ [(i, k)]) _ _ _ _ hj hc hc'
      | _ => simp [po] at hn
    · obtain ⟨ob, h1, _⟩ := id hl'
      rw [hGold r ob p h1] at hg
      obtain ⟨k1, k2, cells, e, f, k3, kf, k4, k5⟩ := h.heap.rows r p m K b hl' hg
      exact ⟨k1, k2, cells, e, f, by rw [hblk b (block_lt k3)]; exact k3, kf, k4, fun i k hi hk' => CR.goesAt hgoes hl' hi (by rw [k2 i hi]; exact hk') (k5 i k hi hk')⟩
  · intro r p ob m K h1 h2 hg
    rcases hlv r p m K ⟨ob, h1, h2⟩ with ⟨j, s, R, hj, hc, rfl, hp⟩ | ⟨ob', h1', h2'⟩
    · rw [hGnew j s R p hj hc] at hg
      obtain ⟨ob2, f1, f2⟩ := hlr j s R p m K hj hc hp
      rcases hr.heap.none rho _ ob2 m K f1 f2 hg with e | ⟨_, e⟩
      · exact .inl e
      · cases e
    · rw [hGold r ob' p h1'] at hg
      rw [hgetA, hdis r ob' h1'] at h1
      have h3 : getA σ.o r = some ob := h1
      rw [h3] at h1'
      cases h1'
      exact h.heap.none r p ob m K h1 h2 hg
  · intro r p m K r2 p2 m2 K2 b hl hl2 hg hg2
    have hnew : ∀ j s R p m K, j < row.length → row.getD j .bad = .own s R → rowsAt s R p = some (m, K) → gr.G rho ((0, j) :: p) = some b → w.heap.size ≤ b := fun j s R p m K hj hc hp hg => by
      obtain ⟨k1, _⟩ := hr.heap.rows rho _ m K b (hlr j s R p m K hj hc hp) hg
      rcases Nat.lt_or_ge b w.heap.size with h' | h'
      · exact absurd (hk.S b h') k1
      · exact h'
    have hold : ∀ r p m K, Live σ.o r p m K → g.G r p = some b → b < w.heap.size := fun r p m K hl hg => by
      obtain ⟨_, _, cells, e, f, k3, _⟩ := h.heap.rows r p m K b hl hg
      exact block_lt k3
    rcases hlv r p m K hl with ⟨j, s, R, hj, hc, rfl, hp⟩ | hl' <;> rcases hlv r2 p2 m2 K2 hl2 with ⟨j', s', R', hj', hc', rfl, hp'⟩ | hl2'
    · rw [hGnew j s R p hj hc] at hg
      rw [hGnew j' s' R' p2 hj' hc'] at hg2
      obtain ⟨_, e⟩ := hr.heap.inj _ _ _ _ _ _ _ _ b (hlr j s R p m K hj hc hp) (hlr j' s' R' p2 m2 K2 hj' hc' hp') hg hg2
      obtain ⟨e1, e2⟩ := List.cons.inj e
      cases e1
      exact ⟨rfl, e2⟩
    · rw [hGnew j s R p hj hc] at hg
      obtain ⟨ob, h1, _⟩ := id hl2'
      rw [hGold r2 ob p2 h1] at hg2
      have := hnew j s R p m K hj hc hp hg
      have := hold _ _ _ _ hl2' hg2
      omega
    · rw [hGnew j' s' R' p2 hj' hc'] at hg2
      obtain ⟨ob, h1, _⟩ := id hl'
      rw [hGold r ob p h1] at hg
      have := hnew j' s' R' p2 m2 K2 hj' hc' hp' hg2
      have := hold _ _ _ _ hl' hg
      omega
    · obtain ⟨ob, h1, _⟩ := id hl'
      obtain ⟨ob2, h12, _⟩ := id hl2'
      rw [hGold r ob p h1] at hg
      rw [hGold r2 ob2 p2 h12] at hg2
      exact h.heap.inj _ _ _ _ _ _ _ _ b hl' hl2' hg hg2
  · intro k hk'
    exact Nat.lt_of_lt_of_le (h.heap.S k hk') hk.size
  · intro k hk'
    rw [hblk k (h.heap.S k (h.keep.S k hk'))]
    exact h.keep.block k hk'
  · intro r ob hro
    change getA (newRoots σ.d N 0 (retRow ret) ++ σ.l) r = some ob at hro
    rw [hrow, getA_append] at hro
    split at hro
    · rename_i hn
      obtain ⟨i, sz, R, _, _, e, _⟩ := getA_newRoots _ _ _ _ _ _ hn
      rw [e]; rfl
    · exact h.loc r ob hro
  · intro r ob hro
    rw [hgetA] at hro
    split at hro
    · rename_i hn
      cases hro
      obtain ⟨i, sz, R, e1, e2, _, rfl⟩ := getA_newRoots _ _ _ _ _ _ hn
      have := nrR_get (hrow ▸ hr.nr) i
      rw [e2] at this
      simpa [okObj, nr] using this
    · exact h.obj r ob hro
  · have hz := hr.len
    have := impXs_rel (w := w') (o := (impSt σ N ret).o) (g := g') (d := σ.d) (N := N) ret 0 zs hz (fun i hi => by
      have hc := hr.cells i hi
      rw [hrow] at hc hi ⊢
      have hp := poR_get hpo i hi
      generalize hcc : row.getD i .bad = c at hc hp ⊢
      cases c with
      | v x => exact hc
      | own s R =>
        rw [Nat.zero_add]
        refine ⟨R, ⟨⟨.sl, s, R⟩, ?_, rfl⟩, by omega, hSl i s R [] _ _ _ _ hi hcc hc⟩
        rw [hgetA]
        have := newRoots_getA σ.d N row 0 i s R hi hcc
        rw [Nat.zero_add] at this
        rw [this]
      | _ => simp [po] at hp)
    exact packT_rel this.1 this.2

end
end Go.Rx
