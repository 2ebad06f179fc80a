/- Memory seen under other names. -/
import Derived.Test.YtbnabpmfdnfigaaRxY
namespace Go.Rx
open Go.RowKit

/-- The ghost of a store whose places are those of another one, renamed; where there is no old place, there is no memory. -/
def renG (ρ : Root → Path → Option (Root × Path)) (g : Gh) : Gh := { G := fun r p => (ρ r p).bind fun q => g.G q.1 q.2, S := g.S }

theorem renG_some {ρ : Root → Path → Option (Root × Path)} {g : Gh} {r r0 : Root} {p p0 : Path} (h : ρ r p = some (r0, p0)) : (renG ρ g).G r p = g.G r0 p0 := by
  simp [renG, h]
theorem renG_none {ρ : Root → Path → Option (Root × Path)} {g : Gh} {r : Root} {p : Path} (h : ρ r p = none) : (renG ρ g).G r p = none := by
  simp [renG, h]

theorem SlAt.ren {w : World} {g g' : Gh} {r r0 : Root} {p p0 : Path} {sz off len : Nat} {y : Value} (hG : g'.G r p = g.G r0 p0) (h : SlAt g w r0 p0 sz off len y) : SlAt g' w r p sz off len y := by
  unfold SlAt at *
  rw [hG]; exact h

structure Ren (w : World) (o o' : Store) (ρ : Root → Path → Option (Root × Path)) (g : Gh) : Prop where
  live : ∀ r p sz R', Live o' r p sz R' → (ρ r p = none ∧ R' = []) ∨ ∃ r0 p0 R, ρ r p = some (r0, p0) ∧ Live o r0 p0 sz R ∧ R'.length = R.length ∧
    (∀ i, i < R.length → (R'.getD i []).length = (R.getD i []).length) ∧
    ∀ i j y, i < R.length → j < sz → CR w o g (some (r0, p0, i, j)) (cellAt R i j) y → CR w o' (renG ρ g) (some (r, p, i, j)) (cellAt R' i j) y
  inj : ∀ r p sz R r' p' sz' R' q, Live o' r p sz R → Live o' r' p' sz' R' → ρ r p = some q → ρ r' p' = some q → r = r' ∧ p = p'
  plain : ∀ r ob, getA o r = some ob → ob.kind ≠ .vr

theorem HeapRel.ren {w : World} {o o' : Store} {ρ : Root → Path → Option (Root × Path)} {g : Gh} (h : HeapRel w o g) (hr : Ren w o o' ρ g) : HeapRel w o' (renG ρ g) := by
  refine ⟨fun r p sz R' b hl hb => ?_, fun r p ob sz R' h1 h2 hb => ?_, fun r p sz R r' p' sz' R' b h1 h2 h3 h4 => ?_, h.S⟩
  · rcases hr.live r p sz R' hl with ⟨hn, rfl⟩ | ⟨r0, p0, R, hs, hl0, e1, e2, e3⟩
    · rw [renG_none hn] at hb; cases hb
    · rw [renG_some hs] at hb
      obtain ⟨k1, k2, cells, e, f, k3, k4, k5, k6⟩ := h.rows r0 p0 sz R b hl0 hb
      refine ⟨k1, fun i hi => ?_, cells, e, f, k3, k4, by rw [e1]; exact k5, fun i j hi hj => ?_⟩
      · rw [e1] at hi; rw [e2 i hi]; exact k2 i hi
      · rw [e1] at hi; exact e3 i j _ hi hj (k6 i j hi hj)
  · rcases hr.live r p sz R' ⟨ob, h1, h2⟩ with ⟨hn, rfl⟩ | ⟨r0, p0, R, hs, ⟨ob0, q1, q2⟩, e1, e2, e3⟩
    · exact .inl rfl
    · rw [renG_some hs] at hb
      rcases h.none r0 p0 ob0 sz R q1 q2 hb with rfl | ⟨hk, _⟩
      · exact .inl (List.eq_nil_of_length_eq_zero (by rw [e1]; rfl))
      · exact absurd hk (hr.plain _ _ q1)
  · have get : ∀ r p sz R, Live o' r p sz R → (renG ρ g).G r p = some b → ∃ r0 p0 R0, ρ r p = some (r0, p0) ∧ Live o r0 p0 sz R0 ∧ g.G r0 p0 = some b := fun r p sz R hl hb => by
      rcases hr.live r p sz R hl with ⟨hn, rfl⟩ | ⟨r0, p0, R0, hs, hl0, _⟩
      · rw [renG_none hn] at hb; cases hb
      · rw [renG_some hs] at hb; exact ⟨r0, p0, R0, hs, hl0, hb⟩
    obtain ⟨r0, p0, R0, s1, l1, b1⟩ := get r p sz R h1 h3
    obtain ⟨r1, p1, R1, s2, l2, b2⟩ := get r' p' sz' R' h2 h4
    obtain ⟨rfl, rfl⟩ := h.inj r0 p0 _ _ r1 p1 _ _ b l1 l2 b1 b2
    exact hr.inj r p sz R r' p' sz' R' _ h1 h2 s1 s2

/-! ### a slice that is nil, seen as rows of one's own (none) -/
theorem Rel.nilRoot {t : List V} {d : Nat} {l g : Store} {g0 gh : Gh} {w0 w : World} {a : Act} {r : Root} {sz : Nat} (hr : Rel g0 w0 ⟨t, d, l, g⟩ gh a w) (hd : r.1 = d) (hf : getA l r = none) (i : Nat)
    (hi : t[i]? = some (.x (.one (.v (.slice none 0 0))))) :
    ∃ gh', Rel g0 w0 ⟨t.set i (.x (.one (.rs r [] sz 0 0))), d, (r, ⟨.sl, sz, []⟩) :: l, g⟩ gh' a w := by
  have hfo : getA (l ++ g) r = none := by
    rw [getA_append, hf]
    cases hg : getA g r with
    | none => rfl
    | some ob => have := hr.out r ob hg; simp only at this; omega
  let gh' : Gh := { G := fun r' p' => if r' = r then none else gh.G r' p', S := gh.S }
  have hne : ∀ r' p' s R, Live (l ++ g) r' p' s R → r' ≠ r := fun r' p' s R ⟨ob, h1, _⟩ e => by subst e; rw [hfo] at h1; cases h1
  have hget : ∀ r', r' ≠ r → getA ((r, (⟨.sl, sz, []⟩ : Obj')) :: l ++ g) r' = getA (l ++ g) r' := fun r' h => by
    show (if r = r' then _ else _) = _
    rw [if_neg (Ne.symm h)]; rfl
  have hsame : getA ((r, (⟨.sl, sz, []⟩ : Obj')) :: l ++ g) r = some ⟨.sl, sz, []⟩ := by
    show (if r = r then _ else _) = _
    rw [if_pos rfl]
  have goes : Goes w (l ++ g) gh w ((r, (⟨.sl, sz, []⟩ : Obj')) :: l ++ g) gh' := by
    refine ⟨fun k hk => ⟨hk, rfl⟩, fun r' p s R hl => ⟨⟨R, ?_, Nat.le_refl _⟩, ?_, fun b cells e f _ hb => ⟨cells, hb, rfl⟩⟩⟩
    · obtain ⟨ob, h1, h2⟩ := hl
      exact ⟨ob, by rw [hget r' (hne r' p s R ⟨ob, h1, h2⟩)]; exact h1, h2⟩
    · show (if r' = r then none else gh.G r' p) = _
      rw [if_neg (hne r' p s R hl)]
  have old : ∀ r' p s R, Live ((r, (⟨.sl, sz, []⟩ : Obj')) :: l ++ g) r' p s R → r' ≠ r → Live (l ++ g) r' p s R := fun r' p s R ⟨ob, h1, h2⟩ h => ⟨ob, by rw [← hget r' h]; exact h1, h2⟩
  have crl : ∀ loc c y, CR w (l ++ g) gh (some loc) c y → loc.1 ≠ r → CR w ((r, (⟨.sl, sz, []⟩ : Obj')) :: l ++ g) gh' (some loc) c y := fun loc c y hc hl => by
    obtain ⟨r1, p1, i1, j1⟩ := loc
    cases c with
    | own s R =>
      have hc' : SlAt gh w r1 (p1 ++ [(i1, j1)]) s 0 R.length y := hc
      refine SlAt.ren (g := gh) ?_ hc'
      show (if r1 = r then none else gh.G r1 _) = _
      rw [if_neg hl]
    | v x => exact hc
    | sh s R => exact hc
    | ps cs => exact hc
    | bad => trivial
    | rs r2 p2 s off len => exact CR.goes (c := .rs r2 p2 s off len) goes hc
    | pt r2 p2 s row off => exact CR.goes (c := .pt r2 p2 s row off) goes hc
  refine ⟨gh', hr.defers, by rw [List.length_set]; exact hr.size, fun k hk => ?_, ⟨fun r' p s R b hl hb => ?_, fun r' p ob s R h1 h2 hb => ?_, fun r1 p1 s1 R1 r2 p2 s2 R2 b l1 l2 b1 b2 => ?_, hr.heap.S⟩, ?_, fun r' ob h => ?_, hr.out, fun r' ob h => ?_, hr.gref, hr.pin.goes goes fun _ ob h => ⟨ob, h⟩⟩
  · rw [List.length_set] at hk
    show VR w _ gh' ((t.set i _).getD k _) _
    by_cases e : k = i
    · subst e
      have hv := hr.tmps k hk
      have ht : t.getD k (.x (.one .bad)) = .x (.one (.v (.slice none 0 0))) := by rw [List.getD_eq_getElem?_getD, hi]; rfl
      rw [ht] at hv
      have hv' : a.tmps.getD k undef = .slice none 0 0 := hv
      rw [List.getD_eq_getElem?_getD, List.getElem?_set_self (by exact hk), hv']
      refine ⟨[], ⟨_, hsame, rfl⟩, Nat.le_refl _, ?_⟩
      unfold SlAt
      rw [show gh'.G r [] = none from if_pos rfl]
      exact ⟨rfl, rfl⟩
    · rw [List.getD_eq_getElem?_getD, List.getElem?_set_ne (Ne.symm e), ← List.getD_eq_getElem?_getD]
      exact VR.goes goes (hr.tmps k hk)
  · have hn : r' ≠ r := fun e => by subst e; rw [show gh'.G r' p = none from if_pos rfl] at hb; cases hb
    rw [show gh'.G r' p = gh.G r' p from if_neg hn] at hb
    obtain ⟨k1, k2, cells, e, f, k3, k4, k5, k6⟩ := hr.heap.rows r' p s R b (old _ _ _ _ hl hn) hb
    exact ⟨k1, k2, cells, e, f, k3, k4, k5, fun i j hi hj => crl _ _ _ (k6 i j hi hj) hn⟩
  · by_cases e : r' = r
    · subst e
      have hob : ob = ⟨.sl, sz, []⟩ := by
        have := hsame
        rw [show getA ((r', (⟨.sl, sz, []⟩ : Obj')) :: l ++ g) r' = some ob from h1] at this
        exact Option.some.inj this
      subst hob
      cases p with
      | nil => simp only [rowsAt, Option.some.injEq, Prod.mk.injEq] at h2; exact .inl h2.2.symm
      | cons q p => simp [rowsAt] at h2
    · rw [show gh'.G r' p = gh.G r' p from if_neg e] at hb
      exact hr.heap.none r' p ob s R ((hget r' e).symm.trans h1) h2 hb
  · have n1 : r1 ≠ r := fun e => by subst e; rw [show gh'.G r1 p1 = none from if_pos rfl] at b1; cases b1
    have n2 : r2 ≠ r := fun e => by subst e; rw [show gh'.G r2 p2 = none from if_pos rfl] at b2; cases b2
    rw [show gh'.G r1 p1 = gh.G r1 p1 from if_neg n1] at b1
    rw [show gh'.G r2 p2 = gh.G r2 p2 from if_neg n2] at b2
    exact hr.heap.inj r1 p1 s1 R1 r2 p2 s2 R2 b (old _ _ _ _ l1 n1) (old _ _ _ _ l2 n2) b1 b2
  · exact ⟨hr.keep.os, hr.keep.tape, hr.keep.output, hr.keep.size, hr.keep.S, hr.keep.block⟩
  · by_cases e : r' = r
    · rw [e]; exact hd
    · refine hr.loc r' ob ?_
      have h' : (if r = r' then some (⟨.sl, sz, []⟩ : Obj') else getA l r') = some ob := h
      rwa [if_neg (Ne.symm e)] at h'
  · by_cases e : r' = r
    · subst e
      have := hsame
      rw [show getA ((r', (⟨.sl, sz, []⟩ : Obj')) :: l ++ g) r' = some ob from h] at this
      cases this; rfl
    · exact hr.obj r' ob ((hget r' e).symm.trans h)
theorem Weak.nilRoot {t : List V} {d : Nat} {l g : Store} (r : Root) (sz i : Nat) (hd : r.1 = d) (hf : getA l r = none) (hi : t[i]? = some (.x (.one (.v (.slice none 0 0))))) :
    Weak ⟨t, d, l, g⟩ ⟨t.set i (.x (.one (.rs r [] sz 0 0))), d, (r, ⟨.sl, sz, []⟩) :: l, g⟩ := fun _ _ _ _ _ hr => hr.nilRoot hd hf i hi

/-! ### rules for append and literals of slices -/
theorem tyZero_eq {P : Program} {e : TypeId} {zs : List Value} (h : tyZero P e = some zs) : ∃ z, (P.info? e).bind (·.zero) = some z ∧ z.cells.size = zs.length := by
  unfold tyZero at h
  obtain ⟨z, h1, rfl⟩ := Option.map_eq_some_iff.1 h
  exact ⟨z, h1, by simp⟩
def appendS' := @appendS
theorem append_rs {P : Program} (t2 : List V) (d : Nat) (l g : Store) (N : Tmp) (t tx : TypeId) (r : Root) (sz len : Nat) (x : V) :
    appendS P ⟨t2, d, l, g⟩ (some N) t tx (.x (.one (.rs r [] sz 0 len))) x = match tyElem P t with
      | some e => match tyZero P e, tySz P e, tyBytes P e, srcRows P (l ++ g) tx x, getA l r with
        | some zs, some s, some bytes, some (szx, X), some ⟨.sl, sz2, R⟩ =>
          if zs.length = s ∧ 0 < s ∧ szx = s ∧ sz = s ∧ sz2 = s ∧ len = R.length ∧ flatRows X = true ∧ dropOk d (delA l r) (t2.map (killV r)) = true ∧ (getA (delA l r) (d, N * 64)).isNone = true ∧
              R.length + X.length ≤ 9223372036854775807 ∧ ((R.length + X.length) + (R.length + X.length) / 4 + 192) * bytes ≤ 281474976710656 then
              some (put ⟨t2.map (killV r), d, ((d, N * 64), ⟨.sl, s, R ++ X⟩) :: delA l r, g⟩ (some N) (.x (.one (.rs (d, N * 64) [] s 0 (R.length + X.length)))))
          else appendS' P ⟨t2, d, l, g⟩ (some N) t tx (.x (.one (.rs r [] sz 0 len))) x
        | _, _, _, _, _ => appendS' P ⟨t2, d, l, g⟩ (some N) t tx (.x (.one (.rs r [] sz 0 len))) x
      | none => appendS' P ⟨t2, d, l, g⟩ (some N) t tx (.x (.one (.rs r [] sz 0 len))) x := by
  split
  · rename_i e he
    split
    · rename_i zs s bytes szx X sz2 R h1 h2 h3 h4 h5
      split
      · rename_i hc
        obtain ⟨z, hz, hzs⟩ := tyZero_eq h1
        have hs : (P.info? e).map (·.size) = some s := h2
        have hb : (P.info? e).map (·.bytes) = some bytes := h3
        obtain ⟨c1, c2⟩ := hc
        unfold appendS
        simp only [he, hz, hs, hb]
        rw [show srcRows P (St.o ⟨t2, d, l, g⟩) tx x = some (szx, X) from h4]
        simp only [h5]
        rw [if_pos ⟨hzs.trans c1, c2⟩]
      · rfl
    · rfl
  · rfl
theorem room_le {n b : Nat} (h : n ≤ 4294967296) (hb : b ≤ 4096) : (n + n / 4 + 192) * b ≤ 281474976710656 := by
  have h1 : n + n / 4 + 192 ≤ 8589934592 := by omega
  exact Nat.le_trans (Nat.mul_le_mul h1 hb) (by decide)
theorem drop_zero' {α : Type} (l : List α) : l.drop 0 = l := rfl
theorem take_one' {α : Type} (a : α) (l : List α) : (a :: l).take 1 = [a] := by simp
theorem max_len {n : Nat} (h : n ≤ 4294967296) : n ≤ 9223372036854775807 := Nat.le_trans h (by decide)
attribute [push_cast] drop_zero' take_one' List.any_cons List.any_nil Bool.or_self
attribute [push_cast] append_rs buildV buildCells buildS partsOk sized flatRows flatRow srcRows killV hasV hasX hasC delA
end Go.Rx
