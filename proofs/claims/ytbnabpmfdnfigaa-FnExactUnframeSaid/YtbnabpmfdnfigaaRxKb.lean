/- A new root over memory that no root has (new, or another root's that has been forgotten). -/
import Derived.Test.YtbnabpmfdnfigaaRxKa
namespace Go.Rx
open Go.RowKit
section
variable {g0 gh : Gh} {w0 w w' : World} {a : Act} {t : List V} {d : Nat} {l gs : Store}

/-- What the ghost says of the places of one root. -/
def gh1 (gh : Gh) (r' : Root) (G1 : Path → Option Nat) : Gh := { G := fun r p => if r = r' then G1 p else gh.G r p, S := gh.S }

structure Adopt (gh : Gh) (w w' : World) (o : Store) (r' : Root) (sz : Nat) (RR : List (List C)) (G1 : Path → Option Nat) (b' : Option Nat) : Prop where
  os : w'.os = w.os
  tape : w'.tape = w.tape
  output : w'.output = w.output
  size : w.heap.size ≤ w'.heap.size
  block : ∀ k, k < w.heap.size → some k ≠ b' → w'.heap[k]? = w.heap[k]?
  notS : ∀ k, some k = b' → ¬ gh.S k
  free : ∀ r p s R k, Live o r p s R → some k = b' → gh.G r p ≠ some k
  rows : ∀ p s R b, rowsAt sz RR p = some (s, R) → G1 p = some b → ¬ gh.S b ∧ (∀ i, i < R.length → (R.getD i []).length = s) ∧ ∃ cells e f, w'.heap[b]? = some (.cells cells e f) ∧ Thaw f cells.size ∧
    R.length * s ≤ cells.size ∧ ∀ i j, i < R.length → j < s → CR w' [] (gh1 gh r' G1) (some (r', p, i, j)) (cellAt R i j) (cells.getD (i * s + j) undef)
  none : ∀ p s R, rowsAt sz RR p = some (s, R) → G1 p = .none → R = []
  inj : ∀ p s R p2 s2 R2 b, rowsAt sz RR p = some (s, R) → rowsAt sz RR p2 = some (s2, R2) → G1 p = some b → G1 p2 = some b → p = p2
  apart : ∀ p s R b r1 p1 s1 R1, rowsAt sz RR p = some (s, R) → G1 p = some b → Live o r1 p1 s1 R1 → gh.G r1 p1 ≠ some b

theorem CR.noStore {w : World} {o : Store} {g : Gh} {loc : Option (Root × Path × Nat × Nat)} {c : C} {y : Value} (h : CR w [] g loc c y) : CR w o g loc c y := by
  cases c with
  | rs r p s off len => obtain ⟨R, ⟨ob, h1, _⟩, _⟩ := h; cases h1
  | pt r p s row off => obtain ⟨R, b, ⟨ob, h1, _⟩, _⟩ := h; cases h1
  | v x => exact h
  | sh s R => exact h
  | own s R => exact h
  | ps cs => exact h
  | bad => trivial

theorem Rel.adopt {r' : Root} {sz : Nat} {RR : List (List C)} {G1 : Path → Option Nat} {b' : Option Nat} (h : Rel g0 w0 ⟨t, d, l, gs⟩ gh a w) (hA : Adopt gh w w' (l ++ gs) r' sz RR G1 b') (hr' : r'.1 = d) (hf : getA l r' = none) (hnr : nrRR RR = true) :
    Rel g0 w0 ⟨t, d, (r', ⟨.sl, sz, RR⟩) :: l, gs⟩ (gh1 gh r' G1) a w' ∧ Goes w (l ++ gs) gh w' ((r', ⟨.sl, sz, RR⟩) :: l ++ gs) (gh1 gh r' G1) := by
  have hfo : getA (l ++ gs) r' = none := by
    rw [getA_append, hf]
    cases hg : getA gs r' with
    | none => rfl
    | some ob => have := h.out r' ob hg; simp only at this; omega
  have hget : ∀ r, getA ((r', (⟨.sl, sz, RR⟩ : Obj')) :: l ++ gs) r = if r' = r then some ⟨.sl, sz, RR⟩ else getA (l ++ gs) r := fun r => rfl
  have hne : ∀ r ob, getA (l ++ gs) r = some ob → r ≠ r' := fun r ob hr e => by rw [e, hfo] at hr; cases hr
  have hG : ∀ r p, r ≠ r' → (gh1 gh r' G1).G r p = gh.G r p := fun r p e => if_neg e
  have hG' : ∀ p, (gh1 gh r' G1).G r' p = G1 p := fun p => if_pos rfl
  have hheap : ∀ r p s R b cells e f, Live (l ++ gs) r p s R → gh.G r p = some b → w.heap[b]? = some (.cells cells e f) → w'.heap[b]? = some (.cells cells e f) := fun r p s R b cells e f hl hg hb => by
    rw [hA.block b (block_lt hb) (fun e' => hA.free r p s R b hl e' hg)]; exact hb
  have hgoes : Goes w (l ++ gs) gh w' ((r', ⟨.sl, sz, RR⟩) :: l ++ gs) (gh1 gh r' G1) := by
    refine ⟨fun k hk => ⟨hk, hA.block k (h.heap.S k hk) (fun e => hA.notS k e hk)⟩, fun r p m Q hl => ⟨⟨Q, ?_, Nat.le_refl _⟩, ?_, fun b cs e' f' hg hb => ⟨cs, hheap r p m Q b cs e' f' hl hg hb, rfl⟩⟩⟩
    · obtain ⟨ob, h1, h2⟩ := hl
      exact ⟨ob, by rw [hget, if_neg (fun e => hne r ob h1 e.symm)]; exact h1, h2⟩
    · obtain ⟨ob, h1, _⟩ := hl
      exact hG r p (hne r ob h1)
  have hsplit : ∀ r p m Q, Live ((r', (⟨.sl, sz, RR⟩ : Obj')) :: l ++ gs) r p m Q → (r = r' ∧ rowsAt sz RR p = some (m, Q)) ∨ (r ≠ r' ∧ Live (l ++ gs) r p m Q) := by
    intro r p m Q ⟨ob, h1, h2⟩
    rw [hget] at h1
    by_cases hr : r' = r
    · rw [if_pos hr] at h1
      cases h1
      exact .inl ⟨hr.symm, h2⟩
    · rw [if_neg hr] at h1
      exact .inr ⟨fun e => hr e.symm, ob, h1, h2⟩
  refine ⟨⟨h.defers, h.size, fun i hi => VR.goes hgoes (h.tmps i hi), ⟨?_, ?_, ?_, ?_⟩, ⟨?_, ?_, ?_, ?_, h.keep.S, ?_⟩, ?_, h.out, ?_, h.gref, h.pin.goes hgoes fun _ ob h => ⟨ob, h⟩⟩, hgoes⟩
  · intro r p m Q b hl hg
    rcases hsplit r p m Q hl with ⟨rfl, hq⟩ | ⟨hn, hl'⟩
    · rw [hG'] at hg
      obtain ⟨k1, k2, cs, e', f', k3, kf, k4, k5⟩ := hA.rows p m Q b hq hg
      exact ⟨k1, k2, cs, e', f', k3, kf, k4, fun i j hi hj => CR.noStore (k5 i j hi hj)⟩
    · rw [hG _ _ hn] at hg
      obtain ⟨k1, k2, cs, e', f', k3, kf, k4, k5⟩ := h.heap.rows r p m Q b hl' hg
      exact ⟨k1, k2, cs, e', f', hheap r p m Q b cs e' f' hl' hg k3, kf, k4, fun i j hi hj => CR.goesAt hgoes hl' hi (by rw [k2 i hi]; exact hj) (k5 i j hi hj)⟩
  · intro r p ob m Q h1 h2 hg
    rcases hsplit r p m Q ⟨ob, h1, h2⟩ with ⟨rfl, hq⟩ | ⟨hn, ob', q1, q2⟩
    · rw [hG'] at hg; exact .inl (hA.none p m Q hq hg)
    · rw [hG _ _ hn] at hg
      have : ob = ob' := by
        have h1' : (if r' = r then some (⟨.sl, sz, RR⟩ : Obj') else getA (l ++ gs) r) = some ob := h1
        rw [if_neg (fun e => hn e.symm), q1] at h1'
        exact (Option.some.inj h1').symm
      subst this
      exact h.heap.none r p ob m Q q1 h2 hg
  · intro r p m Q r2 p2 m2 Q2 b hl hl2 hg hg2
    rcases hsplit r p m Q hl with ⟨rfl, hq⟩ | ⟨hn, hl'⟩ <;> rcases hsplit r2 p2 m2 Q2 hl2 with ⟨rfl, hq2⟩ | ⟨hn2, hl2'⟩
    · rw [hG'] at hg hg2
      exact ⟨rfl, hA.inj p m Q p2 m2 Q2 b hq hq2 hg hg2⟩
    · rw [hG'] at hg; rw [hG _ _ hn2] at hg2
      exact absurd hg2 (hA.apart p m Q b r2 p2 m2 Q2 hq hg hl2')
    · rw [hG'] at hg2; rw [hG _ _ hn] at hg
      exact absurd hg (hA.apart p2 m2 Q2 b r p m Q hq2 hg2 hl')
    · rw [hG _ _ hn] at hg; rw [hG _ _ hn2] at hg2
      exact h.heap.inj r p m Q r2 p2 m2 Q2 b hl' hl2' hg hg2
  · intro b hb
    exact Nat.lt_of_lt_of_le (h.heap.S b hb) hA.size
  · exact hA.os.trans h.keep.os
  · exact hA.tape.trans h.keep.tape
  · exact hA.output.trans h.keep.output
  · exact Nat.le_trans h.keep.size hA.size
  · intro b hb
    have hs := h.keep.S b hb
    rw [hA.block b (h.heap.S b hs) (fun e => hA.notS b e hs)]
    exact h.keep.block b hb
  · intro r ob hr
    by_cases hk' : r' = r
    · rw [← hk']; exact hr'
    · have hr2 : (if r' = r then some (⟨.sl, sz, RR⟩ : Obj') else getA l r) = some ob := hr
      rw [if_neg hk'] at hr2
      exact h.loc r ob hr2
  · intro r ob hr
    have hr2 : (if r' = r then some (⟨.sl, sz, RR⟩ : Obj') else getA (l ++ gs) r) = some ob := hr
    split at hr2
    · cases hr2; exact hnr
    · exact h.obj r ob hr2
end
end Go.Rx
