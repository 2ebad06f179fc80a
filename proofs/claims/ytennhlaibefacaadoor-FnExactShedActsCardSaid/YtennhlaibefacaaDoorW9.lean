/- Nodes, confs, entries: what these functions return, by their code. -/
import Derived.Test.YtennhlaibefacaaDoorW8
namespace Go.Proofs.YtennhlaibefacaaDoor
open Go.RowKit Go.Rx
set_option linter.unusedSimpArgs false
set_option maxRecDepth 100000

def inR (n a b : Int) : Bool := decide (a ≤ n) && decide (n ≤ b)
theorem inR_spec {n a b : Int} : inR n a b = true ↔ a ≤ n ∧ n ≤ b := by simp [inR]

theorem isTerm_ok (n : Int) : PureFn Tryd.prog 76 [i64 n] [bo (inR n 0 100000)] := by
  refine PureFn_of_Go Tryd.func76 rfl (by decide) mo (by decide +kernel) ?_
  simp only [Tryd.ntmps76, Tryd.results76, push_cast, seval]
  refine GoL_call rfl rfl (inRange_ok n 0 100000) rfl rfl ?_
  simp only [Tryd.ntmps76, Tryd.results76, push_cast, seval, inR]
theorem isIndex_ok (n : Int) : PureFn Tryd.prog 51 [i64 n] [bo (inR n 0 1000000)] := by
  refine PureFn_of_Go Tryd.func51 rfl (by decide) mo (by decide +kernel) ?_
  simp only [Tryd.ntmps51, Tryd.results51, push_cast, seval]
  refine GoL_call rfl rfl (inRange_ok n 0 1000000) rfl rfl ?_
  simp only [Tryd.ntmps51, Tryd.results51, push_cast, seval, inR]
theorem isNode_ok (n : Int) : PureFn Tryd.prog 91 [i64 n] [bo (inR n 1 4)] := by
  refine PureFn_of_Go Tryd.func91 rfl (by decide) mo (by decide +kernel) ?_
  simp only [Tryd.ntmps91, Tryd.results91, push_cast, seval]
  refine GoL_call rfl rfl (inRange_ok n 1 4) rfl rfl ?_
  simp only [Tryd.ntmps91, Tryd.results91, push_cast, seval, inR]

/-! ### numbers that rise -/
def at_ (l : List Int) (i : Nat) : Int := l.getD i default
def rise (l : List Int) (a b : Int) : Prop := ∀ i, i < l.length → a ≤ at_ l i ∧ at_ l i ≤ b ∧ (0 < i → at_ l (i - 1) < at_ l i)
instance (l : List Int) (a b : Int) : Decidable (rise l a b) := by unfold rise; infer_instance
theorem areNodes_ok (l : List Int) (hl : l.length ≤ 140737488355328) : PureFn Tryd.prog 88 [.one (.sh 1 (vR (ints l)))] [bo (decide (rise l 1 4))] := by
  refine PureFn_of_Go Tryd.func88 rfl (by decide) mo (by decide +kernel) ?_
  obtain ⟨r, hr⟩ : ∃ r, r = decide (rise l 1 4) := ⟨_, rfl⟩
  rw [← hr]
  simp only [Tryd.ntmps88, Tryd.results88, push_cast, seval, ints_length]
  refine Go_loop (α := {i : Nat // i ≤ l.length ∧ ∀ j, j < i → 1 ≤ at_ l j ∧ at_ l j ≤ 4 ∧ (0 < j → at_ l (j - 1) < at_ l j)})
    (fun i => ⟨tp 29 [(0, .x (.one (.sh 1 (vR (ints l))))), (5, .x (.one (.sh 1 (vR (ints l))))), (6, int l.length), (7, int i.1)], 0, [], []⟩) (fun i => l.length - i.1) ⟨0, by omega, fun j h => absurd h (Nat.not_lt_zero _)⟩ ?_ ?_
  · exact Weak.same (by simp only [push_cast, seval, Int.ofNat_zero])
  · rintro ⟨i, hi, hall⟩ X hX
    by_cases hlt : (i : Int) < (l.length : Int)
    · have hi' : i < l.length := by omega
      have ws := wsucc hi' hl
      have hg := ints_getD l hi'
      rw [show l.getD i default = at_ l i from rfl] at hg
      have kn := isNode_ok (at_ l i)
      obtain ⟨x, hx⟩ : ∃ x, x = at_ l i := ⟨_, rfl⟩
      rw [← hx] at hg kn
      obtain ⟨i', hi1⟩ : ∃ i', i' = i + 1 := ⟨_, rfl⟩
      rw [← hi1] at ws
      simp only [push_cast, seval, ints_length, hlt, hi', vR_getD, hg]
      refine GoL_call rfl rfl kn rfl rfl ?_
      cases c1 : inR x 1 4 with
      | false =>
        have hf : r = false := by
          rw [hr]; apply decide_eq_false
          intro h
          have := h i hi'
          have h2 : inR x 1 4 = true := inR_spec.2 ⟨by rw [hx]; exact this.1, by rw [hx]; exact this.2.1⟩
          rw [h2] at c1; cases c1
        subst hf
        simp only [Tryd.ntmps88, Tryd.results88, push_cast, seval]
      | true =>
        have hin := inR_spec.1 c1
        by_cases c2 : (0 : Int) < (i : Int)
        · have hpi : i - 1 < l.length := by omega
          have hgp := ints_getD l hpi
          rw [show l.getD (i - 1) default = at_ l (i - 1) from rfl] at hgp
          have wp : IntKind.i64.wrap ((i : Int) - 1) = ((i - 1 : Nat) : Int) := wN (by omega) (by omega)
          obtain ⟨p, hp⟩ : ∃ p, p = i - 1 := ⟨_, rfl⟩
          rw [← hp] at hgp wp hpi
          obtain ⟨y, hy⟩ : ∃ y, y = at_ l p := ⟨_, rfl⟩
          rw [← hy] at hgp
          have hpl : (p : Int) < (l.length : Int) := by omega
          by_cases c3 : x ≤ y
          · have hf : r = false := by
              rw [hr]; apply decide_eq_false
              intro h
              have := (h i hi').2.2 (by omega)
              rw [← hp, ← hy, ← hx] at this; omega
            subst hf
            simp only [Tryd.ntmps88, Tryd.results88, push_cast, seval, ints_length, c2, wp, hpi, hpl, vR_getD, hgp, c3]
          · simp only [push_cast, seval, ints_length, c2, wp, hpi, hpl, vR_getD, hgp, c3, ws]
            refine ⟨_, ?_, hX ⟨i', by omega, fun j hj => ?_⟩ (by simp only; omega)⟩
            · exact Weak.same (by simp only [push_cast, seval])
            · by_cases e : j = i
              · subst e
                exact ⟨by rw [← hx]; exact hin.1, by rw [← hx]; exact hin.2, fun _ => by rw [← hp, ← hy, ← hx]; omega⟩
              · exact hall j (by omega)
        · simp only [push_cast, seval, ints_length, c2, ws]
          refine ⟨_, ?_, hX ⟨i', by omega, fun j hj => ?_⟩ (by simp only; omega)⟩
          · exact Weak.same (by simp only [push_cast, seval])
          · by_cases e : j = i
            · subst e
              exact ⟨by rw [← hx]; exact hin.1, by rw [← hx]; exact hin.2, fun h0 => by omega⟩
            · exact hall j (by omega)
    · have ht : r = true := by
        rw [hr]; apply decide_eq_true
        intro j hj; exact hall j (by omega)
      subst ht
      simp only [Tryd.ntmps88, Tryd.results88, push_cast, seval, hlt]
theorem l05Rise_ok (l : List Int) (hl : l.length ≤ 140737488355328) (a b : Int) : PureFn Tryd.prog 85 [.one (.sh 1 (vR (ints l))), i64 a, i64 b] [bo (decide (rise l a b))] := by
  refine PureFn_of_Go Tryd.func85 rfl (by decide) mo (by decide +kernel) ?_
  obtain ⟨r, hr⟩ : ∃ r, r = decide (rise l a b) := ⟨_, rfl⟩
  rw [← hr]
  simp only [Tryd.ntmps85, Tryd.results85, push_cast, seval, ints_length]
  refine Go_loop (α := {i : Nat // i ≤ l.length ∧ ∀ j, j < i → a ≤ at_ l j ∧ at_ l j ≤ b ∧ (0 < j → at_ l (j - 1) < at_ l j)})
    (fun i => ⟨tp 38 [(0, .x (.one (.sh 1 (vR (ints l))))), (1, .x (i64 a)), (2, .x (i64 b)), (7, int i.1)], 0, [], []⟩) (fun i => l.length - i.1) ⟨0, by omega, fun j h => absurd h (Nat.not_lt_zero _)⟩ ?_ ?_
  · exact Weak.same (by simp only [push_cast, seval, Int.ofNat_zero])
  · rintro ⟨i, hi, hall⟩ X hX
    by_cases hlt : (i : Int) < (l.length : Int)
    · have hi' : i < l.length := by omega
      have ws := wsucc hi' hl
      have hg := ints_getD l hi'
      rw [show l.getD i default = at_ l i from rfl] at hg
      have kn := l01In_ok (at_ l i) a b
      obtain ⟨x, hx⟩ : ∃ x, x = at_ l i := ⟨_, rfl⟩
      rw [← hx] at hg kn
      obtain ⟨i', hi1⟩ : ∃ i', i' = i + 1 := ⟨_, rfl⟩
      rw [← hi1] at ws
      simp only [push_cast, seval, ints_length, hlt, hi', vR_getD, hg]
      refine GoD_call rfl rfl kn rfl rfl ?_
      rw [show (decide (a ≤ x) && decide (x ≤ b)) = inR x a b from rfl]
      cases c1 : inR x a b with
      | false =>
        have hf : r = false := by
          rw [hr]; apply decide_eq_false
          intro h
          have := h i hi'
          have h2 : inR x a b = true := inR_spec.2 ⟨by rw [hx]; exact this.1, by rw [hx]; exact this.2.1⟩
          rw [h2] at c1; cases c1
        subst hf
        simp only [Tryd.ntmps85, Tryd.results85, push_cast, seval]
      | true =>
        have hin := inR_spec.1 c1
        by_cases c2 : (0 : Int) < (i : Int)
        · have hpi : i - 1 < l.length := by omega
          have hgp := ints_getD l hpi
          rw [show l.getD (i - 1) default = at_ l (i - 1) from rfl] at hgp
          have wp : IntKind.i64.wrap ((i : Int) - 1) = ((i - 1 : Nat) : Int) := wN (by omega) (by omega)
          obtain ⟨p, hp⟩ : ∃ p, p = i - 1 := ⟨_, rfl⟩
          rw [← hp] at hgp wp hpi
          obtain ⟨y, hy⟩ : ∃ y, y = at_ l p := ⟨_, rfl⟩
          rw [← hy] at hgp
          have hpl : (p : Int) < (l.length : Int) := by omega
          by_cases c3 : x ≤ y
          · have hf : r = false := by
              rw [hr]; apply decide_eq_false
              intro h
              have := (h i hi').2.2 (by omega)
              rw [← hp, ← hy, ← hx] at this; omega
            subst hf
            simp only [Tryd.ntmps85, Tryd.results85, push_cast, seval, ints_length, hlt, hi', hg, c2, wp, hpi, hpl, vR_getD, hgp, c3]
          · simp only [push_cast, seval, ints_length, hlt, hi', hg, c2, wp, hpi, hpl, vR_getD, hgp, c3, ws]
            refine ⟨_, ?_, hX ⟨i', by omega, fun j hj => ?_⟩ (by simp only; omega)⟩
            · exact Weak.same (by simp only [push_cast, seval])
            · by_cases e : j = i
              · subst e
                exact ⟨by rw [← hx]; exact hin.1, by rw [← hx]; exact hin.2, fun _ => by rw [← hp, ← hy, ← hx]; omega⟩
              · exact hall j (by omega)
        · simp only [push_cast, seval, ints_length, c2, ws]
          refine ⟨_, ?_, hX ⟨i', by omega, fun j hj => ?_⟩ (by simp only; omega)⟩
          · exact Weak.same (by simp only [push_cast, seval])
          · by_cases e : j = i
            · subst e
              exact ⟨by rw [← hx]; exact hin.1, by rw [← hx]; exact hin.2, fun h0 => by omega⟩
            · exact hall j (by omega)
    · have ht : r = true := by
        rw [hr]; apply decide_eq_true
        intro j hj; exact hall j (by omega)
      subst ht
      simp only [Tryd.ntmps85, Tryd.results85, push_cast, seval, hlt, ints_length]

def confB (l : List Int) : Bool := decide ((0 : Int) < (l.length : Int)) && decide (rise l 1 4)
theorem rise_len {l : List Int} (h : rise l 1 4) : l.length ≤ 4 := by
  have key : ∀ i, i < l.length → (i : Int) + 1 ≤ at_ l i := by
    intro i
    induction i with
    | zero => intro hi; have := (h 0 hi).1; omega
    | succ i ih =>
      intro hi
      have h1 := ih (by omega)
      have h2 := (h (i + 1) hi).2.2 (by omega)
      rw [Nat.add_sub_cancel] at h2
      omega
  rcases Nat.lt_or_ge 4 l.length with h4 | h4
  · have h1 := key 4 h4
    have h2 := (h 4 h4).2.1
    omega
  · exact h4
theorem confOkI_ok (l : List Int) (hl : l.length ≤ 140737488355328) : PureFn Tryd.prog 77 [.one (.sh 1 (vR (ints l)))] [bo (confB l)] := by
  refine PureFn_of_Go Tryd.func77 rfl (by decide) mo (by decide +kernel) ?_
  have k := areNodes_ok l hl
  unfold confB
  by_cases c : (0 : Int) < (l.length : Int)
  · simp only [Tryd.ntmps77, Tryd.results77, push_cast, seval, ints_length, c]
    refine GoL_call rfl rfl k rfl rfl ?_
    simp only [Tryd.ntmps77, Tryd.results77, push_cast, seval, ints_length, c]
  · simp only [Tryd.ntmps77, Tryd.results77, push_cast, seval, ints_length, c]
theorem confOkS_ok (l : List Int) (hl : l.length ≤ 140737488355328) : PureFn Tryd.prog 65 [.one (.sh 1 (vR (ints l)))] [bo (confB l)] := by
  refine PureFn_of_Go Tryd.func65 rfl (by decide) mo (by decide +kernel) ?_
  have k1 := l01In_ok l.length 1 4
  have k2 := l05Rise_ok l hl 1 4
  simp only [Tryd.ntmps65, Tryd.results65, push_cast, seval, ints_length]
  refine GoL_call rfl rfl k1 rfl rfl ?_
  rw [show (decide ((1 : Int) ≤ (l.length : Int)) && decide ((l.length : Int) ≤ 4)) = inR l.length 1 4 from rfl]
  cases c : inR l.length 1 4 with
  | true =>
    have hc := inR_spec.1 c
    have h0 : (0 : Int) < (l.length : Int) := by omega
    simp only [Tryd.ntmps65, Tryd.results65, push_cast, seval, confB, h0]
    refine GoL_call rfl rfl k2 rfl rfl ?_
    simp only [Tryd.ntmps65, Tryd.results65, push_cast, seval, confB, h0]
  | false =>
    have hb : confB l = false := by
      cases hb : confB l with
      | false => rfl
      | true =>
        simp only [confB, Bool.and_eq_true, decide_eq_true_eq] at hb
        have := rise_len hb.2
        have h2 : inR l.length 1 4 = true := inR_spec.2 ⟨by omega, by omega⟩
        rw [h2] at c; cases c
    simp only [Tryd.ntmps65, Tryd.results65, push_cast, seval, hb]

/-! ### a text as numbers -/
def natsL (s : ByteArray) : List Int := s.data.toList.map fun b => (b.toNat : Int)
theorem natsL_length (s : ByteArray) : (natsL s).length = s.size := by simp [natsL]
theorem natsL_take (s : ByteArray) {i : Nat} (h : i < s.size) : (natsL s).take (i + 1) = (natsL s).take i ++ [((bu s i).toNat : Int)] := by
  have h2 : i < s.data.toList.length := by rw [Array.length_toList]; exact h
  have h3 : i < (natsL s).length := by rw [natsL_length]; exact h
  rw [List.take_add_one, List.getElem?_eq_getElem h3]
  simp [natsL, bu, List.getD_eq_getElem?_getD, List.getElem?_eq_getElem h2]
theorem byR_getD (s : ByteArray) {i : Nat} (h : i < s.size) : (byR s.data.toList).getD i [] = [.v (.int .u8 ((bu s i).toNat : Int))] := by
  have h2 : i < s.data.toList.length := by rw [Array.length_toList]; exact h
  simp [byR, bu, List.getD_eq_getElem?_getD, List.getElem?_map, List.getElem?_eq_getElem h2]
theorem numbers_ok (s : ByteArray) (hs : s.size ≤ 1000000) : PureFn Tryd.prog 56 [st s] [.one (.own 1 (vR (ints (natsL s))))] := by
  refine PureFn_of_Go Tryd.func56 rfl (by decide) mo (by decide +kernel) ?_
  have h1 : s.size ≤ 281474976710656 := by omega
  have hbl : (byR s.data.toList).length = s.size := by rw [byR_length, Array.length_toList]; rfl
  obtain ⟨F, hF⟩ : ∃ F, F = natsL s := ⟨_, rfl⟩
  rw [← hF]
  simp only [Tryd.ntmps56, Tryd.results56, push_cast, seval, h1, byteRows_byR]
  refine Go_loop (α := {i : Nat // i ≤ s.size})
    (fun i => ⟨tp 20 [(3, .x (.one (.rs (0, 1088) [] 1 0 i.1))), (7, .x (.one (.rs (0, 448) [] 1 0 s.size))), (8, int s.size), (9, int i.1)], 0, [((0, 1088), ⟨.sl, 1, vR (ints (F.take i.1))⟩), ((0, 448), ⟨.sl, 1, byR s.data.toList⟩)], []⟩) (fun i => s.size - i.1) ⟨0, Nat.zero_le _⟩ ?_ ?_
  · refine Weak.trans (Weak.nilRoot (0, 1088) 1 3 rfl rfl rfl) ?_
    simp only [push_cast, seval, ints, List.map_nil, List.take_zero]
    exact Weak.same (by simp only [push_cast, seval, Int.ofNat_zero])
  · rintro ⟨i, hi⟩ X hX
    have hll : (ints (F.take i)).length = i := by rw [ints_length, List.length_take, hF, natsL_length]; omega
    by_cases hlt : (i : Int) < (s.size : Int)
    · have hi' : i < s.size := by omega
      have ws := wsucc hi' (by omega)
      have hg := byR_getD s hi'
      have hw : IntKind.i64.wrap ((bu s i).toNat : Int) = ((bu s i).toNat : Int) := wN rfl (by have := u8_lt (bu s i); omega)
      have a0 : i + 1 ≤ 4294967296 := by omega
      have a1 := max_len a0
      have a2 := room_le (b := 8) a0 (by decide)
      have s1 := vR_snoc (ints (F.take i)) [.int .i64 ((bu s i).toNat : Int)]
      have e1 : ints (F.take i) ++ [[Value.int .i64 ((bu s i).toNat : Int)]] = ints (F.take (i + 1)) := by rw [hF, natsL_take s hi']; simp [ints]
      rw [e1] at s1
      simp only [List.map_cons, List.map_nil] at s1
      obtain ⟨i', hi1⟩ : ∃ i', i' = i + 1 := ⟨_, rfl⟩
      rw [← hi1] at ws s1
      simp only [push_cast, seval, hlt, hi', hbl, hg, hw, hll, a1, a2, s1, ws, flatRows, flatRow]
      refine ⟨_, ?_, hX ⟨i', by omega⟩ (by simp only; omega)⟩
      exact Weak.drop (by simp only [push_cast, seval, hi1]) (by simp only [push_cast, seval, hi1]) (by simp only [push_cast, seval, hi1])
    · have hie : i = s.size := by omega
      have hfin : F.take i = F := List.take_of_length_le (by rw [hF, natsL_length, hie]; exact Nat.le_refl _)
      rw [hfin] at hll
      simp only [hfin]
      simp only [Tryd.ntmps56, Tryd.results56, push_cast, seval, hlt, hll]
end Go.Proofs.YtennhlaibefacaaDoor

