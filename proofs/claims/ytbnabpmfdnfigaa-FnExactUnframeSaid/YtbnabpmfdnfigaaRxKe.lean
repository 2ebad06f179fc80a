/- append, as an operation over data. -/
import Derived.Test.YtbnabpmfdnfigaaRxKd
namespace Go.Rx
open Go.RowKit

def hasC (r : Root) : C → Bool
  | .rs r' _ _ _ _ => decide (r' = r)
  | .pt r' _ _ _ _ => decide (r' = r)
  | _ => false
def hasX (r : Root) : X → Bool
  | .one c => hasC r c
  | .agg cs => cs.any (hasC r)
def hasV (r : Root) : V → Bool
  | .x x => hasX r x
  | .tup xs => xs.any (hasX r)
/-- A temporary that leads into a root is forgotten. -/
def killV (r : Root) (v : V) : V := if hasV r v = true then .x (.one .bad) else v

theorem T2_kill (r : Root) : ∀ t : List V, T2 t (t.map (killV r))
  | [] => trivial
  | v :: t => by
    refine ⟨?_, T2_kill r t⟩
    unfold killV
    split
    · exact .inr rfl
    · exact .inl rfl

/-- The rows that a second argument of append yields. -/
def srcRows (P : Program) (o : Store) (tx : TypeId) : V → Option (Nat × List (List C))
  | .x (.one (.sh sz R)) => (tyElem P tx).map fun _ => (sz, R)
  | .x (.one (.rs r p sz off len)) => match tyElem P tx, getA o r with
    | some _, some ob => match rowsAt ob.sz ob.rows p with
      | some (sz', R) => if sz' = sz then some (sz, (R.drop off).take len) else none
      | none => none
    | _, _ => none
  | .x (.one (.v (.string s))) => match P.underlying tx with
    | some .string => some (1, s.data.toList.map fun b => [.v (.int .u8 b.toNat)])
    | _ => none
  | _ => none
def flatRow (row : List C) : Bool := row.all fun c => cellOk c && nr c
def flatRows (X : List (List C)) : Bool := X.all flatRow

theorem scalar_one' {v : Value} (h : scalar v = true) : v.oneCell' = true := by cases v <;> first | rfl | cases h

section
variable {P : Program} {w w0 : World} {g g0 : Gh} {σ : St} {a : Act} {o : Store}

theorem flatRows_get {X : List (List C)} (h : flatRows X = true) (i j : Nat) (hi : i < X.length) (hj : j < (X.getD i []).length) : cellOk (cellAt X i j) = true ∧ nr (cellAt X i j) = true := by
  unfold flatRows at h
  rw [List.all_eq_true] at h
  have h1 := h (X.getD i []) (by rw [List.getD_eq_getElem?_getD, List.getElem?_eq_getElem hi]; exact List.getElem_mem hi)
  unfold flatRow at h1
  rw [List.all_eq_true] at h1
  have := h1 (cellAt X i j) (by unfold cellAt; rw [List.getD_eq_getElem?_getD (l := X.getD i []), List.getElem?_eq_getElem hj]; exact List.getElem_mem hj)
  simpa using this

theorem flatRows_notOwn {X : List (List C)} (h : flatRows X = true) : ∀ i j s Q, cellAt X i j ≠ .own s Q := by
  intro i j s Q e
  by_cases hi : i < X.length
  · by_cases hj : j < (X.getD i []).length
    · have := (flatRows_get h i j hi hj).1
      rw [e] at this; cases this
    · unfold cellAt at e; rw [List.getD_eq_getElem?_getD (l := X.getD i []), List.getElem?_eq_none (by omega)] at e; cases e
  · unfold cellAt at e; rw [List.getD_eq_getElem?_getD (l := X), List.getElem?_eq_none (by omega)] at e; cases e
theorem flatRows_nr {X : List (List C)} (h : flatRows X = true) : nrRR X = true := by
  have hr : ∀ row : List C, flatRow row = true → nrR row = true := by
    intro row
    induction row with
    | nil => intro _; rfl
    | cons c cs ih =>
      intro h
      simp only [flatRow, List.all_cons, Bool.and_eq_true] at h
      simp only [nrR, h.1.2, Bool.true_and]
      exact ih h.2
  induction X with
  | nil => rfl
  | cons r X ih =>
    simp only [flatRows, List.all_cons, Bool.and_eq_true] at h
    simp only [nrRR, hr r h.1, Bool.true_and]
    exact ih h.2

/-- A plain cell stands for itself, wherever it stands. -/
theorem CR.flat {l : Option (Root × Path × Nat × Nat)} {c : C} {y : Value} (h1 : cellOk c = true) (h2 : nr c = true) (h : CR w o g l c y) : CR w [] g none c y := by
  cases c with
  | v x => exact h
  | sh s R => exact h
  | ps cs => exact h
  | bad => trivial
  | own s R => cases h1
  | rs _ _ _ _ _ => simp [nr] at h2
  | pt _ _ _ _ _ => simp [nr] at h2
theorem CR_of_sh {c : C} {y : Value} (h : Sh w g.S c y) : CR w [] g none c y := by
  cases h with
  | v x => rfl
  | nil sz => exact Sh.nil sz
  | slice sz R a len cap vals h1 h2 h3 h4 h5 h6 h7 => exact Sh.slice sz R a len cap vals h1 h2 h3 h4 h5 h6 h7
  | ptr cs a vals h1 h2 h3 => exact Sh.ptr cs a vals h1 h2 h3
  | bad x => trivial

theorem news_get (n : Nat) (f : Nat → Value) (k : Nat) (h : k < n) : ((List.range n).map f).getD k undef = f k := by
  simp [List.getD_eq_getElem?_getD, h]

theorem srcRows_src (hh : HeapRel w o g) {tx : TypeId} {v : V} {y : Value} {sz : Nat} {X : List (List C)} (hs : srcRows P o tx v = some (sz, X)) (hv : VR w o g v y) (hfl : flatRows X = true) (hpos : 0 < sz) :
    ∃ news, Src P sz tx y X.length news w ∧ (∀ k, k < X.length → (X.getD k []).length = sz) ∧ ∀ k j, k < X.length → j < sz → CR w [] g none (cellAt X k j) (news.getD (k * sz + j) undef) := by
  -- out of rows in memory, cell by cell
  have mem : ∀ (ad : Addr) (cap : Nat) (f : Nat → Value) (e' : TypeId), P.underlying tx = some (.slice e') → (∀ k, k < X.length → (X.getD k []).length = sz) → (∀ q, q < X.length * sz → w.cell? (ad.add q) = some (f q)) →
      (∀ k j, k < X.length → j < sz → CR w [] g none (cellAt X k j) (f (k * sz + j))) → y = .slice (some ad) X.length cap →
      ∃ news, Src P sz tx y X.length news w ∧ (∀ k, k < X.length → (X.getD k []).length = sz) ∧ ∀ k j, k < X.length → j < sz → CR w [] g none (cellAt X k j) (news.getD (k * sz + j) undef) := by
    intro ad cap f e' hk hl hcell hcr hy
    subst hy
    refine ⟨(List.range (X.length * sz)).map f, Src.ofSlice (P := P) w hk ad X.length cap _ (by simp) (fun j u hj => ?_) (fun u hu => ?_), hl, fun k j hk' hj => ?_⟩
    · rw [List.getElem?_map] at hj
      obtain ⟨q, hq, rfl⟩ := Option.map_eq_some_iff.1 hj
      obtain ⟨h1, h2⟩ := List.getElem?_eq_some_iff.1 hq
      simp only [List.length_range] at h1
      simp only [List.getElem_range] at h2
      subst h2
      exact hcell j h1
    · obtain ⟨q, hq, rfl⟩ := List.mem_map.1 hu
      simp only [List.mem_range] at hq
      have hd : q / sz < X.length := Nat.div_lt_of_lt_mul (by rw [Nat.mul_comm]; exact hq)
      have hm : q % sz < sz := Nat.mod_lt _ hpos
      have := hcr (q / sz) (q % sz) hd hm
      rw [show q / sz * sz + q % sz = q by rw [Nat.mul_comm]; exact Nat.div_add_mod q sz] at this
      exact scalar_one' (CR.scalar (flatRows_get hfl _ _ hd (by rw [hl _ hd]; exact hm)).1 this)
    · rw [news_get _ _ _ (mul_lt hk' hj)]
      exact hcr k j hk' hj
  have none_ : ∀ (cap : Nat) (e' : TypeId), P.underlying tx = some (.slice e') → y = .slice none 0 cap → X = [] →
      ∃ news, Src P sz tx y X.length news w ∧ (∀ k, k < X.length → (X.getD k []).length = sz) ∧ ∀ k j, k < X.length → j < sz → CR w [] g none (cellAt X k j) (news.getD (k * sz + j) undef) := by
    intro cap e' hk hy hX
    subst hy hX
    exact ⟨[], Src.ofNil (P := P) w hk cap, fun k hk => absurd hk (Nat.not_lt_zero _), fun k j hk => absurd hk (Nat.not_lt_zero _)⟩
  unfold srcRows at hs
  split at hs
  · rename_i s R
    simp only [Option.map_eq_some_iff] at hs
    obtain ⟨e', he, hs⟩ := hs
    cases hs
    have hv' : Sh w g.S (.sh sz X) y := hv
    cases hv' with
    | nil => exact none_ 0 e' (tyElem_spec he) rfl rfl
    | slice _ _ ad len cap vals h1 h2 h3 h4 h5 h6 h7 =>
      subst h1
      refine mem ad cap (fun q => vals (q / sz) (q % sz)) e' (tyElem_spec he) h5 (fun q hq => ?_) (fun k j hk hj => ?_) rfl
      · have hd : q / sz < X.length := Nat.div_lt_of_lt_mul (by rw [Nat.mul_comm]; exact hq)
        have hm : q % sz < sz := Nat.mod_lt _ hpos
        have := h6 (q / sz) (q % sz) hd hm
        rw [Addr.add_add, show q / sz * sz + q % sz = q by rw [Nat.mul_comm]; exact Nat.div_add_mod q sz] at this
        exact this
      · have e1 : (k * sz + j) / sz = k := by rw [Nat.mul_comm, Nat.mul_add_div hpos, Nat.div_eq_of_lt hj, Nat.add_zero]
        have e2 : (k * sz + j) % sz = j := by rw [Nat.mul_comm, Nat.mul_add_mod, Nat.mod_eq_of_lt hj]
        simp only [e1, e2]
        exact CR_of_sh (h7 k j hk hj)
  · rename_i r p s off len
    split at hs
    · rename_i e' ob he hob
      split at hs
      · rename_i s' R hR
        split at hs
        · rename_i hse
          subst hse
          cases hs
          obtain ⟨R', hl', hle, hsl⟩ := hv
          obtain ⟨_, rfl⟩ := Live.unique hl' ⟨ob, hob, hR⟩
          have hlen : ((R'.drop off).take len).length = len := by simp; omega
          have hget : ∀ k, k < len → ((R'.drop off).take len).getD k [] = R'.getD (off + k) [] := fun k hk => by
            simp [List.getD_eq_getElem?_getD, hk]
          unfold SlAt at hsl
          cases hG : g.G r p with
          | none =>
            rw [hG] at hsl
            obtain ⟨rfl, rfl⟩ := hsl
            exact none_ 0 e' (tyElem_spec he) rfl (by simp)
          | some b =>
            rw [hG] at hsl
            obtain ⟨ad, cap, rfl, hab, hlc, hcm, hpos', _⟩ := hsl
            obtain ⟨_, hRl, cells, e1, f1, hb1, hth, hfit, hcR⟩ := hh.rows r p sz R' b hl' hG
            by_cases h0 : len = 0
            · subst h0
              refine mem ad cap (fun _ => undef) e' (tyElem_spec he) (fun k hk => by simp at hk) (fun q hq => by simp at hq) (fun k j hk => by simp at hk) (by simp)
            · obtain rfl := hpos' (by omega)
              refine mem _ cap (fun q => cells.getD (off * sz + q) undef) e' (tyElem_spec he) (fun k hk => ?_) (fun q hq => ?_) (fun k j hk hj => ?_) (by rw [hlen])
              · rw [hlen] at hk; rw [hget k hk]; exact hRl _ (by omega)
              · rw [hlen] at hq
                have hlt : off * sz + q < cells.size := by
                  have := Nat.mul_le_mul_right sz hle
                  rw [Nat.add_mul] at this; omega
                have hc := cell_of_block hb1 hlt
                rw [show ((⟨b, off * sz, none⟩ : Addr).add q) = ⟨b, off * sz + q, none⟩ by simp only [Addr.add]; split <;> simp_all]
                exact hc
              · have hk2 : k < len := by rw [hlen] at hk; exact hk
                have e3 : cellAt ((R'.drop off).take len) k j = cellAt R' (off + k) j := by unfold cellAt; rw [hget k hk2]
                have hq := flatRows_get hfl k j hk (by rw [hget k hk2, hRl _ (by omega)]; exact hj)
                rw [e3] at hq ⊢
                have := hcR (off + k) j (by omega) hj
                rw [Nat.add_mul, Nat.add_assoc] at this
                exact CR.flat hq.1 hq.2 this
        · cases hs
      · cases hs
    · cases hs
  · rename_i s
    split at hs
    · rename_i hu
      cases hs
      cases (show y = .string s from hv)
      refine ⟨byteCells s, ?_, fun k hk => ?_, fun k j hk hj => ?_⟩
      · have := Src.ofString (P := P) w hu s
        rwa [show s.size = (s.data.toList.map fun b => [C.v (Value.int .u8 b.toNat)]).length by rw [List.length_map, Array.length_toList]; rfl] at this
      · simp at hk; simp [List.getD_eq_getElem?_getD, hk]
      · simp at hk
        obtain rfl : j = 0 := by omega
        simp [cellAt, List.getD_eq_getElem?_getD, hk, byteCells, CR]
    · cases hs
  · cases hs
end

def appendS (P : Program) (σ : St) (dst : Option Tmp) (t tx : TypeId) (s x : V) : Option St :=
  match dst, tyElem P t with
  | some N, some e => match (P.info? e).bind (·.zero) with
    | some z => match (P.info? e).map (·.size), (P.info? e).map (·.bytes), srcRows P σ.o tx x with
      | some sz, some bytes, some (szx, X) => match s with
        | .x (.one (.rs r [] sz' 0 len)) => match getA σ.l r with
          | some ⟨.sl, sz2, R⟩ =>
            if z.cells.size = sz ∧ 0 < sz ∧ szx = sz ∧ sz' = sz ∧ sz2 = sz ∧ len = R.length ∧ flatRows X = true ∧ dropOk σ.d (delA σ.l r) (σ.t.map (killV r)) = true ∧ (getA (delA σ.l r) (σ.d, N * 64)).isNone = true ∧
              R.length + X.length ≤ 9223372036854775807 ∧ ((R.length + X.length) + (R.length + X.length) / 4 + 192) * bytes ≤ 281474976710656 then
              some (put ⟨σ.t.map (killV r), σ.d, ((σ.d, N * 64), ⟨.sl, sz, R ++ X⟩) :: delA σ.l r, σ.g⟩ dst (.x (.one (.rs (σ.d, N * 64) [] sz 0 (R.length + X.length)))))
            else none
          | _ => none
        | _ => none
      | _, _, _ => none
    | none => none
  | _, _ => none

section
variable {P : Program} {w w0 : World} {g g0 : Gh} {σ σ' : St} {a : Act}
theorem appendS_run (h : Rel g0 w0 σ g a w) {dst : Option Tmp} {t tx ty : TypeId} {s x : V} {ys yx : Value} (hs : appendS P σ dst t tx s x = some σ') (hv : VR w σ.o g s ys) (hx : VR w σ.o g x yx) :
    ∃ z w1 g1, (Builtin.append_ #[t, tx] ty #[ys, yx]).run P w = .ok z w1 ∧ Rel g0 w0 σ' g1 (a.put dst z) w1 := by
  obtain ⟨tt, d, l, gs⟩ := σ
  unfold appendS at hs
  split at hs
  case h_2 => cases hs
  rename_i N e he
  split at hs
  case h_2 => cases hs
  rename_i z hz
  split at hs
  case h_2 => cases hs
  rename_i sz bytes szx X hsz hby hsr
  split at hs
  case h_2 => cases hs
  rename_i r sz' len
  split at hs
  case h_2 => cases hs
  rename_i sz2 R hob
  split at hs
  case isFalse => cases hs
  rename_i hc
  obtain ⟨c1, c2, c3, c4, c5, c6, c7, c8, c9, c10, c11⟩ := hc
  cases hs
  subst c3 c4 c5 c6
  rw [Option.bind_eq_some_iff] at hz
  obtain ⟨i, hi, hz⟩ := hz
  rw [hi] at hsz hby
  simp only [Option.map_some, Option.some.injEq] at hsz hby
  subst hsz hby
  obtain ⟨news, k1, k2, k3⟩ := srcRows_src h.heap hsr hx c7 c2
  obtain ⟨R', ⟨ob', q1, q2⟩, _, hsl⟩ := hv
  have hoo : ob' = ⟨.sl, i.size, R⟩ := by
    have q3 : getA (l ++ gs) r = some ob' := q1
    rw [getA_append, hob] at q3
    exact (Option.some.inj q3).symm
  subst hoo
  have hdrop : Rel g0 w0 ⟨tt.map (killV r), d, delA l r, gs⟩ g a w := Rel.drop (T2_kill r tt) (fun r1 ob1 hg => by
    rw [getA_delA] at hg
    split at hg
    · cases hg
    · exact hg) c8 h
  obtain ⟨y', w', g', e1, e2, e3⟩ := append_run (ty := ty) h hob hdrop (r' := (d, N * 64)) rfl (by simpa using c9) (flatRows_nr c7) (flatRows_notOwn c7) k2 (tyElem_spec he) hi hz rfl c1 c2 hsl k1 k3 c10 c11
  refine ⟨y', w', g', e1, e2.put (some N) (v := .x (.one (.rs (d, N * 64) [] i.size 0 (R.length + X.length)))) ?_⟩
  refine ⟨R ++ X, ⟨⟨.sl, i.size, R ++ X⟩, ?_, rfl⟩, by simp, e3⟩
  show (if (d, N * 64) = (d, N * 64) then _ else _) = _
  rw [if_pos rfl]
end
end Go.Rx
