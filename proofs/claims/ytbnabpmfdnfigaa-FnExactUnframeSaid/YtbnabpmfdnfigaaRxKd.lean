/- append, run. -/
import Derived.Test.YtbnabpmfdnfigaaRxKc
namespace Go.Rx
open Go.RowKit
section
variable {P : Program} {g0 gh : Gh} {w0 w w' : World} {a : Act} {t t2 : List V} {d : Nat} {l gs : Store}

theorem arr_getD (A : List Value) (B : Array Value) (k : Nat) (h : k < A.length) : (A.toArray ++ B).getD k undef = A.getD k undef := by
  have h2 : k < (A.toArray ++ B).size := by simp; omega
  rw [Array.getD, dif_pos h2, List.getD_eq_getElem?_getD, List.getElem?_eq_getElem h]
  show (A.toArray ++ B)[k] = _
  rw [Array.getElem_append_left (by simpa using h)]; simp

theorem mul_lt {i n j s : Nat} (hi : i < n) (hj : j < s) : i * s + j < n * s := by
  have := Nat.mul_le_mul_right s (show i + 1 ≤ n by omega)
  rw [Nat.add_mul] at this; omega

theorem append_run {r r' : Root} {sz : Nat} {R X : List (List C)} (hr : Rel g0 w0 ⟨t, d, l, gs⟩ gh a w) (hob : getA l r = some ⟨.sl, sz, R⟩) (h2 : Rel g0 w0 ⟨t2, d, delA l r, gs⟩ gh a w)
    (hr' : r'.1 = d) (hf : getA (delA l r) r' = none) (hXn : nrRR X = true) (hXo : ∀ i j s Q, cellAt X i j ≠ .own s Q) (hXl : ∀ k, k < X.length → (X.getD k []).length = sz)
    {ty tx tt e : TypeId} {i : TypeInfo} {z : Value} {ys yx : Value} {news : List Value} (ht : P.underlying tt = some (.slice e)) (hi : P.info? e = some i) (hz : i.zero = some z) (hsize : i.size = sz) (hzs : z.cells.size = sz) (hpos : 0 < sz)
    (hs : SlAt gh w r [] sz 0 R.length ys) (hsrc : Src P sz tx yx X.length news w) (hXc : ∀ k j, k < X.length → j < sz → CR w [] gh none (cellAt X k j) (news.getD (k * sz + j) undef))
    (h63 : R.length + X.length ≤ 9223372036854775807) (hby : ((R.length + X.length) + (R.length + X.length) / 4 + 192) * i.bytes ≤ 281474976710656) :
    ∃ y' w' g', (Builtin.append_ #[tt, tx] ty #[ys, yx]).run P w = .ok y' w' ∧ Rel g0 w0 ⟨t2, d, (r', ⟨.sl, sz, R ++ X⟩) :: delA l r, gs⟩ g' a w' ∧ SlAt g' w' r' [] sz 0 (R.length + X.length) y' := by
  subst hsize
  have hml : R.length + X.length ≤ maxLen := h63
  have hob' : getA (l ++ gs) r = some ⟨.sl, i.size, R⟩ := by rw [getA_append, hob]
  have hnl := hsrc.newsLen
  -- the arm that grows
  have grow : ∀ (base : Option Addr) (cap : Nat) (olds : List Value), ys = .slice base R.length cap → cap < R.length + X.length → olds.length = R.length * i.size →
      (Builtin.firstCells i.size R.length (.slice base R.length cap)).run P w.drew = .ok olds.toArray w.drew →
      (∀ k, k < R.length → (R.getD k []).length = i.size) →
      (∀ k j, k < R.length → j < i.size → CR w (l ++ gs) gh (some (r, [], k, j)) (cellAt R k j) (olds.getD (k * i.size + j) undef)) →
      ∃ y' w' g', (Builtin.append_ #[tt, tx] ty #[ys, yx]).run P w = .ok y' w' ∧ Rel g0 w0 ⟨t2, d, (r', ⟨.sl, i.size, R ++ X⟩) :: delA l r, gs⟩ g' a w' ∧ SlAt g' w' r' [] i.size 0 (R.length + X.length) y' := by
    intro base cap olds hys hg holen hold hRl hcR
    subst hys
    have hrun := run_append_grow_src (P := P) w tt tx ty e i z ht hi hz base R.length cap olds hold yx X.length news hsrc hg (by omega) (growslice_fits_wide hg hby)
    have hge := grownCap_ge w (R.length + X.length) cap e
    have hcm := grownCap_le_maxLen w (R.length + X.length) cap e hml
    generalize hN : grownCap w (R.length + X.length) cap e = N at hrun hge hcm
    have hlen : (olds ++ news).length = (R.length + X.length) * i.size := by rw [List.length_append, holen, hnl, Nat.add_mul]
    have hnew : (w.drew.alloc (.cells ((olds ++ news).toArray ++ Builtin.zeroCells z.cells (N - (R.length + X.length))) e)).heap[w.heap.size]? = some (.cells ((olds ++ news).toArray ++ Builtin.zeroCells z.cells (N - (R.length + X.length))) e) := heap_alloc_new w.drew _
    have hcs : ((olds ++ news).toArray ++ Builtin.zeroCells z.cells (N - (R.length + X.length))).size = N * i.size := by
      rw [Array.size_append, size_zeroCells, hzs, List.size_toArray, hlen, ← Nat.add_mul]; congr 1; omega
    obtain ⟨g', k1, k2⟩ := append_core (w' := w.drew.alloc (.cells ((olds ++ news).toArray ++ Builtin.zeroCells z.cells (N - (R.length + X.length))) e)) (b' := w.heap.size) hr hob h2 hr' hf hXn hXo hXl hRl rfl rfl rfl
      (by simp) (fun k hk _ => heap_alloc w.drew _ k hk) (.inl rfl) ⟨_, e, (0, 0), hnew, fun _ _ h => absurd h.2 (Nat.not_lt_zero _), by rw [hcs]; exact Nat.mul_le_mul_right _ hge, fun p j hp hj => by
        have hlt := mul_lt hp hj
        rw [arr_getD _ _ _ (by rw [hlen, Nat.add_mul]; omega), List.getD_eq_getElem?_getD, List.getElem?_append_left (by rw [holen]; exact hlt), ← List.getD_eq_getElem?_getD]
        exact hcR p j hp hj, fun p j hp hj => by
        have hlt := mul_lt hp hj
        have e1 : (R.length + p) * i.size + j = R.length * i.size + (p * i.size + j) := by rw [Nat.add_mul]; omega
        rw [e1, arr_getD _ _ _ (by rw [hlen, Nat.add_mul]; omega), List.getD_eq_getElem?_getD, List.getElem?_append_right (by rw [holen]; omega), holen, Nat.add_sub_cancel_left, ← List.getD_eq_getElem?_getD]
        exact hXc p j hp hj⟩
    refine ⟨_, _, g', hrun, k1, ?_⟩
    unfold SlAt
    rw [k2]
    refine ⟨⟨w.heap.size, 0, none⟩, N, rfl, rfl, hge, hcm, fun _ => by simp, fun _ => ⟨rfl, _, e, (0, 0), hnew, hcs.symm⟩⟩
  unfold SlAt at hs
  cases hG : gh.G r [] with
  | none =>
    rw [hG] at hs
    obtain ⟨rfl, hl0⟩ := hs
    obtain rfl : R = [] := List.eq_nil_of_length_eq_zero hl0
    by_cases hm : X.length = 0
    · obtain rfl : X = [] := List.eq_nil_of_length_eq_zero hm
      have hne : news = [] := List.eq_nil_of_length_eq_zero (by simpa using hnl)
      subst hne
      have hrun : (Builtin.append_ #[tt, tx] ty #[.slice none 0 0, yx]).run P w = .ok (.slice none 0 0) w := by
        have hl := hsrc.len
        have hc := hsrc.cells
        simp only [List.length_nil] at hl hc
        rcases hsrc.kind with ⟨e', hk⟩ | hk <;> simp [Builtin.append_, run_underlying ht, run_underlying hk, sizeOf, typeInfo, hi, hl, hc]
      have hA : Adopt gh w w (delA l r ++ gs) r' i.size ([] : List (List C)) (fun _ => none) none := by
        refine ⟨rfl, rfl, rfl, Nat.le_refl _, fun _ _ _ => rfl, fun k hk => (by cases hk), fun _ _ _ _ k _ hk => (by cases hk), fun p s Q b _ hg => (by cases hg), fun p s Q hq _ => ?_, fun p s Q p2 s2 Q2 b _ _ hg => (by cases hg), fun p s Q b r1 p1 s1 R1 _ hg => (by cases hg)⟩
        cases p with
        | nil => simp only [rowsAt, Option.some.injEq, Prod.mk.injEq] at hq; exact hq.2.symm
        | cons q p => simp [rowsAt] at hq
      refine ⟨_, _, _, hrun, (h2.adopt hA hr' hf rfl).1, ?_⟩
      unfold SlAt
      rw [show (gh1 gh r' (fun _ => none)).G r' [] = none from if_pos rfl]
      exact ⟨rfl, rfl⟩
    · exact grow none 0 [] rfl (by simp; omega) (by simp) (run_firstCells_none w.drew i.size 0 0 0) (fun k hk => absurd hk (Nat.not_lt_zero _)) (fun k j hk => absurd hk (Nat.not_lt_zero _))
  | some b =>
    rw [hG] at hs
    obtain ⟨ad, cap, hys, hab, hlc, hcm, _, hs5⟩ := hs
    obtain ⟨rfl, cells, e0, f, hb, hcap⟩ := hs5 rfl
    obtain ⟨_, hRl, cells', e1, f1, hb1, hth, hfit, hcR⟩ := hr.heap.rows r [] i.size R b ⟨_, hob', rfl⟩ hG
    have hbe : cells' = cells ∧ e1 = e0 ∧ f1 = f := by rw [hb] at hb1; cases hb1; exact ⟨rfl, rfl, rfl⟩
    obtain ⟨rfl, rfl, rfl⟩ := hbe
    by_cases hroom : R.length + X.length ≤ cap
    · have hfit2 : R.length * i.size + news.length ≤ cells'.size := by rw [hnl, ← Nat.add_mul, ← hcap]; exact Nat.mul_le_mul_right _ hroom
      have hrun := run_append_room_src (P := P) w tt tx ty e i ht hi b 0 R.length cap yx X.length news hsrc hroom
        (fun j hj => by rw [cell_of_block hb (show 0 + R.length * i.size + j < cells'.size by omega)]; rfl)
        (fun j hj => by
          have := hth (0 + R.length * i.size + j) (by omega)
          simp only [World.frozen?, hb]
          simpa using this)
      obtain ⟨wos, wtape, wout, wsize, wother⟩ := setCells_world b news (0 + R.length * i.size) w
      obtain ⟨cur', hcur, hcs, hval⟩ := setCells_block b news (0 + R.length * i.size) w cells' e1 f1 hb (by omega)
      obtain ⟨g', k1, k2⟩ := append_core (w' := w.setCells b (0 + R.length * i.size) news) (b' := b) hr hob h2 hr' hf hXn hXo hXl hRl wos wtape wout (Nat.le_of_eq wsize.symm) (fun k _ hk => wother k hk) (.inr hG)
        ⟨cur', e1, f1, hcur, fun k hk => hth k (by rw [← hcs]; exact hk), by rw [hcs, ← hcap]; exact Nat.mul_le_mul_right _ hroom, fun p j hp hj => by
          have hlt := mul_lt hp hj
          rw [hval, if_neg (by omega)]
          exact hcR p j hp hj, fun p j hp hj => by
          have hlt := mul_lt hp hj
          have e1 : (R.length + p) * i.size + j = R.length * i.size + (p * i.size + j) := by rw [Nat.add_mul]; omega
          rw [e1, hval, if_pos (by rw [hnl]; omega), show R.length * i.size + (p * i.size + j) - (0 + R.length * i.size) = p * i.size + j by omega]
          exact hXc p j hp hj⟩
      subst hys
      refine ⟨_, _, g', hrun, k1, ?_⟩
      unfold SlAt
      rw [k2]
      exact ⟨⟨b, 0, none⟩, cap, rfl, rfl, hroom, hcm, fun _ => by simp, fun _ => ⟨rfl, cur', e1, f1, hcur, by rw [hcs]; exact hcap⟩⟩
    · have holdlen : (cells'.toList.take (R.length * i.size)).length = R.length * i.size := by simp; omega
      refine grow (some ⟨b, 0, none⟩) cap (cells'.toList.take (R.length * i.size)) hys (by omega) holdlen
        (run_firstCells_some w.drew i.size R.length ⟨b, 0, none⟩ R.length cap _ holdlen (fun j v hv => ?_)) hRl (fun p j hp hj => ?_)
      · have hj : j < R.length * i.size := by rw [← holdlen]; exact (List.getElem?_eq_some_iff.1 hv).1
        have hc := cell_of_block (n := j) hb (by omega)
        rw [List.getElem?_take, if_pos hj] at hv
        have hj2 : j < cells'.size := by omega
        rw [Array.getElem?_toList, Array.getElem?_eq_getElem hj2] at hv
        cases hv
        show w.cell? ((⟨b, 0, none⟩ : Addr).add j) = _
        rw [show ((⟨b, 0, none⟩ : Addr).add j) = ⟨b, j, none⟩ by simp [Addr.add]; intro h0; exact h0.symm, hc]
        simp [Array.getD, hj2]
      · have hlt := mul_lt hp hj
        rw [List.getD_eq_getElem?_getD, List.getElem?_take, if_pos hlt, ← List.getD_eq_getElem?_getD, getD_flat _ _ (by omega)]
        exact hcR p j hp hj
end
end Go.Rx
