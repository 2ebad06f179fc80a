/- append, of rows. -/
import Derived.Test.YtbnabpmfdnfigaaRxKb
import Derived.Deep.AppendSrc
import Derived.Deep.DeepAppendWide
namespace Go.Rx
open Go.RowKit
section
variable {P : Program} {g0 gh : Gh} {w0 w w' : World} {a : Act} {t t2 : List V} {d : Nat} {l gs : Store}

theorem rowsAt_app {sz : Nat} {R X : List (List C)} (hX : ∀ i j s Q, cellAt X i j ≠ .own s Q) {p : Path} (hp : p ≠ []) {q : Nat × List (List C)} (h : rowsAt sz (R ++ X) p = some q) : rowsAt sz R p = some q := by
  cases p with
  | nil => exact absurd rfl hp
  | cons ij p =>
    obtain ⟨i, j⟩ := ij
    by_cases hi : i < R.length
    · simpa only [rowsAt, List.getElem?_append_left hi] using h
    · simp only [rowsAt, List.getElem?_append_right (Nat.le_of_not_lt hi)] at h
      split at h
      · rename_i s Q hc
        obtain ⟨_, _, h3⟩ := bind_cell hc
        exact absurd h3 (hX _ _ _ _)
      · cases h

theorem cell_tr {o : Store} {G1 : Path → Option Nat} {c : C} {r r' : Root} {p : Path} {i j : Nat} {y : Value} (hn : nr c = true) (hS : ∀ k, gh.S k → w'.heap[k]? = w.heap[k]?)
    (hown : ∀ s Q, c = .own s Q → G1 (p ++ [(i, j)]) = gh.G r (p ++ [(i, j)]) ∧ ∀ b cells e f, gh.G r (p ++ [(i, j)]) = some b → w.heap[b]? = some (.cells cells e f) → w'.heap[b]? = some (.cells cells e f))
    (h : CR w o gh (some (r, p, i, j)) c y) : CR w' [] (gh1 gh r' G1) (some (r', p, i, j)) c y := by
  cases c with
  | v x => exact h
  | sh s R => exact Sh.mono (fun k hk => ⟨hk, hS k hk⟩) h
  | ps cs => exact Sh.mono (fun k hk => ⟨hk, hS k hk⟩) h
  | bad => trivial
  | rs _ _ _ _ _ => simp [nr] at hn
  | pt _ _ _ _ _ => simp [nr] at hn
  | own s Q =>
    obtain ⟨k1, k2⟩ := hown s Q rfl
    have h' : SlAt gh w r (p ++ [(i, j)]) s 0 Q.length y := h
    show SlAt (gh1 gh r' G1) w' r' (p ++ [(i, j)]) s 0 Q.length y
    unfold SlAt at h' ⊢
    rw [show (gh1 gh r' G1).G r' (p ++ [(i, j)]) = gh.G r (p ++ [(i, j)]) from (if_pos rfl).trans k1]
    cases hg : gh.G r (p ++ [(i, j)]) with
    | none => rw [hg] at h'; exact h'
    | some b =>
      rw [hg] at h'
      obtain ⟨ad, cap, e1, eb, e2, e3, e4, e5⟩ := h'
      refine ⟨ad, cap, e1, eb, e2, e3, e4, fun h0 => ?_⟩
      obtain ⟨f1, cells, e, f, f2, f3⟩ := e5 h0
      exact ⟨f1, cells, e, f, k2 b cells e f hg f2, f3⟩

theorem append_core {r r' : Root} {sz : Nat} {R X : List (List C)} (hr : Rel g0 w0 ⟨t, d, l, gs⟩ gh a w) (hob : getA l r = some ⟨.sl, sz, R⟩) (h2 : Rel g0 w0 ⟨t2, d, delA l r, gs⟩ gh a w)
    (hr' : r'.1 = d) (hf : getA (delA l r) r' = none) (hXn : nrRR X = true) (hXo : ∀ i j s Q, cellAt X i j ≠ .own s Q) (hXl : ∀ k, k < X.length → (X.getD k []).length = sz) (hRl : ∀ k, k < R.length → (R.getD k []).length = sz)
    {b' : Nat} (hos : w'.os = w.os) (htape : w'.tape = w.tape) (hout : w'.output = w.output) (hsz : w.heap.size ≤ w'.heap.size) (hblk : ∀ k, k < w.heap.size → k ≠ b' → w'.heap[k]? = w.heap[k]?)
    (hb' : b' = w.heap.size ∨ gh.G r [] = some b')
    (hc : ∃ cells e f, w'.heap[b']? = some (.cells cells e f) ∧ Thaw f cells.size ∧ (R.length + X.length) * sz ≤ cells.size ∧
      (∀ i j, i < R.length → j < sz → CR w (l ++ gs) gh (some (r, [], i, j)) (cellAt R i j) (cells.getD (i * sz + j) undef)) ∧
      ∀ k j, k < X.length → j < sz → CR w [] gh none (cellAt X k j) (cells.getD ((R.length + k) * sz + j) undef)) :
    ∃ g', Rel g0 w0 ⟨t2, d, (r', ⟨.sl, sz, R ++ X⟩) :: delA l r, gs⟩ g' a w' ∧ g'.G r' [] = some b' := by
  have hob' : getA (l ++ gs) r = some ⟨.sl, sz, R⟩ := by rw [getA_append, hob]
  have hRn : nrRR R = true := hr.obj r _ hob'
  have hrd : r.1 = d := hr.loc r _ hob
  have hgs : getA gs r = none := by
    cases hg : getA gs r with
    | none => rfl
    | some ob => have := hr.out r ob hg; simp only at this; omega
  have hlive : ∀ r1 p s Q, Live (delA l r ++ gs) r1 p s Q → r1 ≠ r ∧ Live (l ++ gs) r1 p s Q := fun r1 p s Q ⟨ob, q1, q2⟩ => by
    rw [getA_append, getA_delA] at q1
    by_cases e : r = r1
    · subst e; rw [if_pos rfl, hgs] at q1; cases q1
    · rw [if_neg e] at q1
      exact ⟨fun e' => e e'.symm, ob, by rw [getA_append]; exact q1, q2⟩
  have hself : ∀ p s Q, rowsAt sz R p = some (s, Q) → Live (l ++ gs) r p s Q := fun p s Q hq => ⟨_, hob', hq⟩
  have hlt : ∀ r1 p s Q b, Live (l ++ gs) r1 p s Q → gh.G r1 p = some b → b < w.heap.size := fun r1 p s Q b hl hg => by
    obtain ⟨_, _, cs, e', f', k3, _⟩ := hr.heap.rows r1 p s Q b hl hg
    exact block_lt k3
  have hneB : ∀ r1 p s Q b, Live (l ++ gs) r1 p s Q → gh.G r1 p = some b → (r1 ≠ r ∨ p ≠ []) → b ≠ b' := fun r1 p s Q b hl hg hne e => by
    rcases hb' with rfl | hb'
    · have := hlt r1 p s Q b hl hg; omega
    · subst e
      obtain ⟨e1, e2⟩ := hr.heap.inj r1 p s Q r [] sz R b hl (hself [] sz R rfl) hg hb'
      rcases hne with h | h
      · exact h e1
      · exact h e2
  have hnS : ¬ gh.S b' := by
    rcases hb' with rfl | hb'
    · exact fun hs => absurd (hr.heap.S _ hs) (Nat.lt_irrefl _)
    · exact (hr.heap.rows r [] sz R b' (hself [] sz R rfl) hb').1
  have hSk : ∀ k, gh.S k → w'.heap[k]? = w.heap[k]? := fun k hk => hblk k (hr.heap.S k hk) (fun e => hnS (e ▸ hk))
  let G1 : Path → Option Nat := fun p => if p = [] then some b' else gh.G r p
  have hG1 : ∀ p, p ≠ [] → G1 p = gh.G r p := fun p hp => if_neg hp
  have hkeepB : ∀ p s Q b cells e f, p ≠ [] → rowsAt sz R p = some (s, Q) → gh.G r p = some b → w.heap[b]? = some (.cells cells e f) → w'.heap[b]? = some (.cells cells e f) := fun p s Q b cells e f hp hq hg hb => by
    rw [hblk b (block_lt hb) (hneB r p s Q b (hself p s Q hq) hg (.inr hp))]; exact hb
  have hA : Adopt gh w w' (delA l r ++ gs) r' sz (R ++ X) G1 (some b') := by
    refine ⟨hos, htape, hout, hsz, fun k hk hne => hblk k hk (fun e => hne (by rw [e])), fun k hk => by cases hk; exact hnS, fun r1 p s Q k hl hk hg => ?_, fun p s Q b hq hg => ?_, fun p s Q hq hg => ?_, fun p s Q p2 s2 Q2 b hq hq2 hg hg2 => ?_, fun p s Q b r1 p1 s1 R1 hq hg hl hg1 => ?_⟩
    · cases hk
      obtain ⟨n1, n2⟩ := hlive r1 p s Q hl
      exact hneB r1 p s Q b' n2 hg (.inl n1) rfl
    · by_cases hp : p = []
      · subst hp
        simp only [rowsAt, Option.some.injEq, Prod.mk.injEq] at hq
        obtain ⟨rfl, rfl⟩ := hq
        have : b' = b := Option.some.inj ((if_pos rfl : G1 [] = some b').symm.trans hg)
        subst this
        obtain ⟨cells, e, f, c1, c2, c3, c4, c5⟩ := hc
        refine ⟨hnS, fun i hi => ?_, cells, e, f, c1, c2, by simpa using c3, fun i j hi hj => ?_⟩
        · rw [List.getD_eq_getElem?_getD]
          by_cases hlt : i < R.length
          · rw [List.getElem?_append_left hlt, ← List.getD_eq_getElem?_getD]; exact hRl i hlt
          · rw [List.getElem?_append_right (Nat.le_of_not_lt hlt), ← List.getD_eq_getElem?_getD]
            exact hXl _ (by simp at hi; omega)
        · by_cases hlt : i < R.length
          · have e1 : cellAt (R ++ X) i j = cellAt R i j := by unfold cellAt; rw [List.getD_eq_getElem?_getD (l := R ++ X), List.getElem?_append_left hlt, ← List.getD_eq_getElem?_getD]
            rw [e1]
            refine cell_tr (nrRR_get hRn i j) hSk (fun s Q hQ => ?_) (c4 i j hlt hj)
            have hq1 : rowsAt sz R ([] ++ [(i, j)]) = some (s, Q) := rowsAt_snoc (p := []) rfl hlt (by rw [hRl i hlt]; exact hj) hQ
            exact ⟨hG1 _ (by simp), fun b cells e f hg hb => hkeepB _ s Q b cells e f (by simp) hq1 hg hb⟩
          · have e1 : cellAt (R ++ X) i j = cellAt X (i - R.length) j := by unfold cellAt; rw [List.getD_eq_getElem?_getD (l := R ++ X), List.getElem?_append_right (Nat.le_of_not_lt hlt), ← List.getD_eq_getElem?_getD]
            have c6 := c5 (i - R.length) j (by simp at hi; omega) hj
            rw [show R.length + (i - R.length) = i by omega] at c6
            rw [e1]
            exact CR.any _ (CR.goes (o := []) (o' := []) (g := gh) (g' := gh1 gh r' G1) ⟨fun k (hk : gh.S k) => ⟨hk, hSk k hk⟩, fun _ _ _ _ ⟨_, h, _⟩ => (by cases h)⟩ c6)
      · have hq' := rowsAt_app hXo hp hq
        rw [hG1 p hp] at hg
        obtain ⟨k1, k2, cs, e', f', k3, kf, k4, k5⟩ := hr.heap.rows r p s Q b (hself p s Q hq') hg
        refine ⟨k1, k2, cs, e', f', hkeepB p s Q b cs e' f' hp hq' hg k3, kf, k4, fun i j hi hj => ?_⟩
        refine cell_tr (nrRR_get (nrRR_rowsAt hRn hq') i j) hSk (fun s2 Q2 hQ => ?_) (k5 i j hi hj)
        have hq1 : rowsAt sz R (p ++ [(i, j)]) = some (s2, Q2) := rowsAt_snoc hq' hi (by rw [k2 i hi]; exact hj) hQ
        exact ⟨hG1 _ (by simp), fun b cells e f hg hb => hkeepB _ s2 Q2 b cells e f (by simp) hq1 hg hb⟩
    · by_cases hp : p = []
      · subst hp; exact absurd ((if_pos rfl : G1 [] = some b').symm.trans hg) (by simp)
      · rw [hG1 p hp] at hg
        rcases hr.heap.none r p _ s Q hob' (rowsAt_app hXo hp hq) hg with h | ⟨h, _⟩
        · exact h
        · cases h
    · by_cases hp : p = [] <;> by_cases hp2 : p2 = []
      · rw [hp, hp2]
      · subst hp
        rw [hG1 p2 hp2] at hg2
        have : b' = b := Option.some.inj ((if_pos rfl : G1 [] = some b').symm.trans hg)
        exact absurd this.symm (hneB r p2 s2 Q2 b (hself p2 s2 Q2 (rowsAt_app hXo hp2 hq2)) hg2 (.inr hp2))
      · subst hp2
        rw [hG1 p hp] at hg
        have : b' = b := Option.some.inj ((if_pos rfl : G1 [] = some b').symm.trans hg2)
        exact absurd this.symm (hneB r p s Q b (hself p s Q (rowsAt_app hXo hp hq)) hg (.inr hp))
      · rw [hG1 p hp] at hg
        rw [hG1 p2 hp2] at hg2
        exact (hr.heap.inj r p s Q r p2 s2 Q2 b (hself p s Q (rowsAt_app hXo hp hq)) (hself p2 s2 Q2 (rowsAt_app hXo hp2 hq2)) hg hg2).2
    · obtain ⟨n1, n2⟩ := hlive r1 p1 s1 R1 hl
      by_cases hp : p = []
      · subst hp
        have : b' = b := Option.some.inj ((if_pos rfl : G1 [] = some b').symm.trans hg)
        exact hneB r1 p1 s1 R1 b n2 hg1 (.inl n1) this.symm
      · rw [hG1 p hp] at hg
        exact n1 (hr.heap.inj r1 p1 s1 R1 r p s Q b n2 (hself p s Q (rowsAt_app hXo hp hq)) hg1 hg).1
  exact ⟨_, (h2.adopt hA hr' hf (by rw [nrRR_all, List.all_append, ← nrRR_all, ← nrRR_all, hRn, hXn]; rfl)).1, (if_pos rfl : (gh1 gh r' G1).G r' [] = G1 []).trans (if_pos rfl)⟩
end
end Go.Rx
