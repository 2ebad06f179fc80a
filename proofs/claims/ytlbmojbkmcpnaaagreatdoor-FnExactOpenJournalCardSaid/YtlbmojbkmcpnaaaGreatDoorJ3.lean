/- Logs: right ones, a copy, one more entry. -/
import Derived.Test.YtlbmojbkmcpnaaaGreatDoorJ2
namespace Go.Proofs.YtlbmojbkmcpnaaaGreatDoor
open Go.RowKit Go.Rx
set_option linter.unusedSimpArgs false
set_option maxRecDepth 100000

structure Lg where
  start : Int
  sterm : Int
  es : List Ent
def lgC (l : Lg) (f : C) : List C := [.v (.int .i64 l.start), .v (.int .i64 l.sterm), f]
def entOk (e : Ent) : Bool := eoB e.term e.kind e.data
def riseB : Int → List Ent → Bool
  | _, [] => true
  | t, e :: es => (entOk e && decide (t ≤ e.term)) && riseB e.term es
def logB (l : Lg) : Bool := (inR l.start 0 1000000 && inR l.sterm 0 100000 && decide ((l.es.length : Int) ≤ 60) && decide (l.start + (l.es.length : Int) ≤ 1000000)) && riseB l.sterm l.es
def fineE (l : List Ent) : Prop := l.length ≤ 1048576 ∧ ∀ e ∈ l, e.data.size ≤ 140737488355328
theorem ents_drop {l : List Ent} {i : Nat} (h : i < l.length) : l.drop i = l.getD i default :: l.drop (i + 1) := by
  rw [List.drop_eq_getElem_cons h, List.getD_eq_getElem?_getD, List.getElem?_eq_getElem h]; rfl
theorem fine_getD {l : List Ent} (h : fineE l) {i : Nat} (hi : i < l.length) : (l.getD i default).data.size ≤ 140737488355328 := by
  rw [List.getD_eq_getElem?_getD, List.getElem?_eq_getElem hi]
  exact h.2 _ (List.getElem_mem hi)

theorem logOkS_ok (l : Lg) (h : fineE l.es) : PureFn Tryz.prog 63 [.agg (lgC l (.sh 3 (vR (ents l.es))))] [bo (logB l)] := by
  refine PureFn_of_Go Tryz.func63 rfl (by decide) mo (by decide +kernel) ?_
  obtain ⟨start, sterm, es⟩ := l
  obtain ⟨hl, hd⟩ := h
  have hfe : fineE es := ⟨hl, hd⟩
  simp only at hl hd
  have k1 := l01In_ok start 0 1000000
  have k2 := l01In_ok sterm 0 100000
  rw [show (decide ((0 : Int) ≤ start) && decide (start ≤ 1000000)) = inR start 0 1000000 from rfl] at k1
  rw [show (decide ((0 : Int) ≤ sterm) && decide (sterm ≤ 100000)) = inR sterm 0 100000 from rfl] at k2
  simp only [Tryz.ntmps63, Tryz.results63, push_cast, seval, lgC]
  refine GoL_call rfl rfl k1 rfl rfl ?_
  unfold logB
  simp only
  cases c1 : inR start 0 1000000 with
  | false => simp only [Tryz.ntmps63, Tryz.results63, push_cast, seval]
  | true =>
    have hst := inR_spec.1 c1
    simp only [Tryz.ntmps63, Tryz.results63, push_cast, seval]
    refine GoL_call rfl rfl k2 rfl rfl ?_
    cases c2 : inR sterm 0 100000 with
    | false => simp only [Tryz.ntmps63, Tryz.results63, push_cast, seval]
    | true =>
      have hw : IntKind.i64.wrap (start + (es.length : Int)) = start + (es.length : Int) := w64 (by omega) (by omega)
      by_cases c3 : (es.length : Int) ≤ 60
      · have c3' : ¬ (60 : Int) < (es.length : Int) := by omega
        by_cases c4 : start + (es.length : Int) ≤ 1000000
        · have c4' : ¬ (1000000 : Int) < start + (es.length : Int) := by omega
          simp only [Tryz.ntmps63, Tryz.results63, push_cast, seval, ents_length, c3, c3', hw, c4, c4']
          refine Go_loop (α := {p : Nat × Int // p.1 ≤ es.length ∧ riseB sterm es = riseB p.2 (es.drop p.1)})
            (fun p => ⟨tp 62 [(1, .x (.one (.pt (0, 64) [] 3 0 0))), (2, .x (bo false)), (3, .x (i64 p.1.2)), (4, int p.1.1)], 0, [((0, 64), ⟨.box, 3, [[.v (.int .i64 start), .v (.int .i64 sterm), .sh 3 (vR (ents es))]]⟩)], []⟩)
            (fun p => es.length - p.1.1) ⟨(0, sterm), Nat.zero_le _, by simp⟩ ?_ ?_
          · exact Weak.same (by simp only [push_cast, seval, Int.ofNat_zero])
          · rintro ⟨⟨i, t⟩, hi, hr⟩ X hX
            simp only at hi hr
            by_cases hlt : (i : Int) < (es.length : Int)
            · have hi' : i < es.length := by omega
              have hg := ents_getD es hi'
              have hsz := fine_getD hfe hi'
              rw [ents_drop hi'] at hr
              obtain ⟨e, he⟩ : ∃ e, e = es.getD i default := ⟨_, rfl⟩
              rw [← he] at hg hr hsz
              have k3 := entryOkS_ok e.term e.kind e.data hsz
              rw [show eoB e.term e.kind e.data = entOk e from rfl] at k3
              obtain ⟨i', hi1⟩ : ∃ i', i' = i + 1 := ⟨_, rfl⟩
              have ws := wsucc hi' (by omega)
              rw [← hi1] at ws hr
              simp only [push_cast, seval, ents_length, hlt, hi', vR_getD, hg, entV]
              refine GoL_call rfl rfl k3 rfl rfl ?_
              cases c5 : entOk e with
              | false =>
                rw [hr]
                simp only [Tryz.ntmps63, Tryz.results63, push_cast, seval, riseB, c5]
              | true =>
                by_cases c6 : t ≤ e.term
                · have c6' : ¬ e.term < t := by omega
                  simp only [push_cast, seval, ents_length, hlt, hi', vR_getD, hg, entV, c6', ws]
                  refine ⟨_, ?_, hX ⟨(i', e.term), by simp only; omega, by simp only; rw [hr, riseB, c5, decide_eq_true c6]; rfl⟩ (by simp only; omega)⟩
                  exact Weak.same (by simp only [push_cast, seval])
                · have c6' : e.term < t := by omega
                  rw [hr, riseB, c5, decide_eq_false c6]
                  simp only [Tryz.ntmps63, Tryz.results63, push_cast, seval, ents_length, hlt, hi', vR_getD, hg, entV, c6']
            · have hil : i = es.length := by omega
              rw [hil, List.drop_length] at hr
              simp only [Tryz.ntmps63, Tryz.results63, push_cast, seval, ents_length, hlt, hr, riseB]
        · have c4' : (1000000 : Int) < start + (es.length : Int) := by omega
          simp only [Tryz.ntmps63, Tryz.results63, push_cast, seval, ents_length, c3, c3', hw, c4, c4']
      · have c3' : (60 : Int) < (es.length : Int) := by omega
        simp only [Tryz.ntmps63, Tryz.results63, push_cast, seval, ents_length, c3, c3']
theorem logOkI_ok (l : Lg) (h : fineE l.es) : PureFn Tryz.prog 87 [.agg (lgC l (.sh 3 (vR (ents l.es))))] [bo (logB l)] := by
  refine PureFn_of_Go Tryz.func87 rfl (by decide) mo (by decide +kernel) ?_
  obtain ⟨start, sterm, es⟩ := l
  obtain ⟨hl, hd⟩ := h
  have hfe : fineE es := ⟨hl, hd⟩
  simp only at hl hd
  have k1 := isIndex_ok start
  have k2 := isTerm_ok sterm
  simp only [Tryz.ntmps87, Tryz.results87, push_cast, seval, lgC]
  refine GoL_call rfl rfl k1 rfl rfl ?_
  unfold logB
  simp only
  cases c1 : inR start 0 1000000 with
  | false => simp only [Tryz.ntmps87, Tryz.results87, push_cast, seval]
  | true =>
    have hst := inR_spec.1 c1
    simp only [Tryz.ntmps87, Tryz.results87, push_cast, seval]
    refine GoL_call rfl rfl k2 rfl rfl ?_
    cases c2 : inR sterm 0 100000 with
    | false => simp only [Tryz.ntmps87, Tryz.results87, push_cast, seval]
    | true =>
      have hw : IntKind.i64.wrap (start + (es.length : Int)) = start + (es.length : Int) := w64 (by omega) (by omega)
      by_cases c3 : (es.length : Int) ≤ 60
      · have c3' : ¬ (60 : Int) < (es.length : Int) := by omega
        by_cases c4 : start + (es.length : Int) ≤ 1000000
        · have c4' : ¬ (1000000 : Int) < start + (es.length : Int) := by omega
          simp only [Tryz.ntmps87, Tryz.results87, push_cast, seval, ents_length, c3, c3', hw, c4, c4']
          refine Go_loop (α := {p : Nat × Int // p.1 ≤ es.length ∧ riseB sterm es = riseB p.2 (es.drop p.1)})
            (fun p => ⟨tp 52 [(1, .x (.one (.pt (0, 64) [] 3 0 0))), (2, .x (bo false)), (3, .x (i64 p.1.2)), (34, .x (.one (.sh 3 (vR (ents es))))), (35, int es.length), (36, int p.1.1)], 0, [((0, 64), ⟨.box, 3, [[.v (.int .i64 start), .v (.int .i64 sterm), .sh 3 (vR (ents es))]]⟩)], []⟩)
            (fun p => es.length - p.1.1) ⟨(0, sterm), Nat.zero_le _, by simp⟩ ?_ ?_
          · exact Weak.same (by simp only [push_cast, seval, Int.ofNat_zero])
          · rintro ⟨⟨i, t⟩, hi, hr⟩ X hX
            simp only at hi hr
            by_cases hlt : (i : Int) < (es.length : Int)
            · have hi' : i < es.length := by omega
              have hg := ents_getD es hi'
              have hsz := fine_getD hfe hi'
              rw [ents_drop hi'] at hr
              obtain ⟨e, he⟩ : ∃ e, e = es.getD i default := ⟨_, rfl⟩
              rw [← he] at hg hr hsz
              have k3 := entryOkI_ok e.term e.kind e.data hsz
              rw [show eoB e.term e.kind e.data = entOk e from rfl] at k3
              obtain ⟨i', hi1⟩ : ∃ i', i' = i + 1 := ⟨_, rfl⟩
              have ws := wsucc hi' (by omega)
              rw [← hi1] at ws hr
              simp only [push_cast, seval, ents_length, hlt, hi', vR_getD, hg, entV]
              refine GoL_call rfl rfl k3 rfl rfl ?_
              cases c5 : entOk e with
              | false =>
                rw [hr]
                simp only [Tryz.ntmps87, Tryz.results87, push_cast, seval, riseB, c5]
              | true =>
                by_cases c6 : t ≤ e.term
                · have c6' : ¬ e.term < t := by omega
                  simp only [push_cast, seval, ents_length, hlt, hi', vR_getD, hg, entV, c6', ws]
                  refine ⟨_, ?_, hX ⟨(i', e.term), by simp only; omega, by simp only; rw [hr, riseB, c5, decide_eq_true c6]; rfl⟩ (by simp only; omega)⟩
                  exact Weak.drop (by simp only [push_cast, seval]) (by simp only [push_cast, seval]) (by simp only [push_cast, seval])
                · have c6' : e.term < t := by omega
                  rw [hr, riseB, c5, decide_eq_false c6]
                  simp only [Tryz.ntmps87, Tryz.results87, push_cast, seval, ents_length, hlt, hi', vR_getD, hg, entV, c6']
            · have hil : i = es.length := by omega
              rw [hil, List.drop_length] at hr
              simp only [Tryz.ntmps87, Tryz.results87, push_cast, seval, ents_length, hlt, hr, riseB]
        · have c4' : (1000000 : Int) < start + (es.length : Int) := by omega
          simp only [Tryz.ntmps87, Tryz.results87, push_cast, seval, ents_length, c3, c3', hw, c4, c4']
      · have c3' : (60 : Int) < (es.length : Int) := by omega
        simp only [Tryz.ntmps87, Tryz.results87, push_cast, seval, ents_length, c3, c3']

/-! ### a copy -/
theorem ents_flat (es : List Ent) : (vR (ents es)).all flatRow = true := by
  rw [List.all_eq_true]
  intro r hr
  simp only [vR, ents, List.map_map, List.mem_map, Function.comp_apply] at hr
  obtain ⟨e, _, rfl⟩ := hr
  rfl
theorem entT (es : List Ent) : toShRR (vR (ents es)) = vR (ents es) := by simp only [push_cast]
theorem clone_v (y : Value) (hy : y = .slice none 0 0 ∨ ∃ a cap, y = .slice (some a) 0 cap) : PureFn Tryz.prog 117 [.one (.v y)] [.one (.own 3 [])] := by
  refine PureFn_of_GoW Tryz.func117 rfl (by decide) mo (by decide +kernel) ?_
  have ht : isSlT Tryz.prog 26 = true := by kernel_rfl
  rcases hy with rfl | ⟨a, cap, rfl⟩
  · simp only [Tryz.ntmps117, Tryz.results117, push_cast, seval, bin_nilNil ht]
    refine ⟨_, Weak.nilRoot (0, 1) 3 2 rfl rfl rfl, ?_⟩
    simp only [Tryz.ntmps117, Tryz.results117, push_cast, seval]
  · simp only [Tryz.ntmps117, Tryz.results117, push_cast, seval, bin_vNil ht, List.append_nil, show (0 / 4 + 192) * 32 ≤ 281474976710656 by decide]
    refine ⟨_, Weak.refl _, ?_⟩
    simp only [Tryz.ntmps117, Tryz.results117, push_cast, seval]
theorem clone_ok (es : List Ent) (h : fineE es) : PureFn Tryz.prog 117 [.one (.sh 3 (vR (ents es)))] [.one (.own 3 (vR (ents es)))] := by
  cases hes : es with
  | nil => exact PureFn_sh0 (clone_v _ (.inl rfl)) fun a cap => clone_v _ (.inr ⟨a, cap, rfl⟩)
  | cons e es' =>
    rw [← hes]
    refine PureFn_of_GoW Tryz.func117 rfl (by decide) mo (by decide +kernel) ?_
    have ht : isSlT Tryz.prog 26 = true := by kernel_rfl
    have hne : vR (ents es) ≠ [] := by rw [hes]; exact List.cons_ne_nil _ _
    have a0 : 0 + es.length ≤ 4294967296 := by have := h.1; omega
    have a1 := max_len a0
    have a2 := room_le (b := 32) a0 (by decide)
    rw [Nat.zero_add] at a1 a2
    simp only [Tryz.ntmps117, Tryz.results117, push_cast, seval, bin_shNil hne ht, ents_length, a1, a2, List.nil_append, ents_flat]
    refine ⟨_, Weak.refl _, ?_⟩
    simp only [Tryz.ntmps117, Tryz.results117, push_cast, seval, ents_length]
theorem copyLog_ok (l : Lg) (h : fineE l.es) : PureFn Tryz.prog 89 [.agg (lgC l (.sh 3 (vR (ents l.es))))] [.agg (lgC l (.own 3 (vR (ents l.es))))] := by
  refine PureFn_of_Go Tryz.func89 rfl (by decide) mo (by decide +kernel) ?_
  have k := clone_ok l.es h
  simp only [Tryz.ntmps89, Tryz.results89, push_cast, seval, lgC]
  refine GoL_call rfl rfl k (by simp only [push_cast, seval]) rfl ?_
  simp only [Tryz.ntmps89, Tryz.results89, push_cast, seval, ents_length, ents_take, lgC]
end Go.Proofs.YtlbmojbkmcpnaaaGreatDoor

