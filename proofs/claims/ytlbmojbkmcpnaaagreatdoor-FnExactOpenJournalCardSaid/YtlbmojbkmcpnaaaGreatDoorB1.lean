/- strings.Builder: what its methods do, in the model itself. -/
import Derived.Test.YtlbmojbkmcpnaaaGreatDoorK5
import Derived.BigRegion
namespace Go.Proofs.YtlbmojbkmcpnaaaGreatDoor
open Go.RowKit Go.Rx
set_option linter.unusedSimpArgs false
set_option linter.unusedVariables false
set_option maxRecDepth 100000

theorem bld_info : ∃ j, Tryz.prog.info? 120 = some j ∧ j.size ≠ 0 := by
  have h : (Tryz.prog.info? 120).map (·.size) = some 2 := by kernel_rfl
  obtain ⟨j, h1, h2⟩ := Option.map_eq_some_iff.1 h
  exact ⟨j, h1, by omega⟩
theorem byte_info : ∃ i, Tryz.prog.info? 5 = some i ∧ i.zero = some (.int .u8 0) ∧ i.size = 1 ∧ i.bytes = 1 := by
  have h : (Tryz.prog.info? 5).map (fun i => (i.zero, i.size, i.bytes)) = some (some (.int .u8 0), 1, 1) := by kernel_rfl
  obtain ⟨j, h1, h2⟩ := Option.map_eq_some_iff.1 h
  simp only [Prod.mk.injEq] at h2
  exact ⟨j, h1, h2⟩
theorem bld_lies : liesAt Tryz.prog Tryz.prog.depth 120 (2 / Tryz.prog.cellsOf 120) 0 120 1 = true := by kernel_rfl
theorem u_pb : Tryz.prog.underlying 118 = some (.pointer 120) := by kernel_rfl
theorem u_up : Tryz.prog.underlying 162 = some .unsafePointer := by kernel_rfl
theorem u_bs : Tryz.prog.underlying 111 = some (.slice 5) := by kernel_rfl
theorem u_p8 : Tryz.prog.underlying 154 = some (.pointer 5) := by kernel_rfl
theorem byte_cells : Tryz.prog.cellsOf 5 = 1 := by kernel_rfl
theorem u_st : Tryz.prog.underlying 9 = some .string := by kernel_rfl

theorem noesc (args : Array Value) (w : World) : (callFunc 132 args).run Tryz.prog w = ((Extern.AbiNoEscape.same args).run Tryz.prog w).andThen fun v w' => .ok (.value v) w' :=
  run_callFunc_extern Tryz.func132 (by kernel_rfl) (by kernel_rfl) (by kernel_rfl) (by kernel_rfl) args w

theorem copy_used (b : Nat) (w : World) (h0 : w.cell? ⟨b, 0, none⟩ = some (.pointer (some ⟨b, 0, none⟩))) :
    Calls Tryz.prog 119 #[.pointer (some ⟨b, 0, none⟩)] w fun e w' => e = .returned (.tuple #[]) ∧ w' = w := by
  obtain ⟨j, hj, _⟩ := bld_info
  go_enter Tryz.func119, Tryz.ntmps119
  go_wp2
  rw [Lib.run_neq_ptr_same w _ u_pb hj]
  go_wp2
  go_end0
  exact ⟨rfl, rfl⟩

theorem copy_fresh (b : Nat) (w : World) (h0 : w.cell? ⟨b, 0, none⟩ = some (.pointer none)) (hsh : w.shape? b = some (120, 2)) (hfz : w.frozen? ⟨b, 0, none⟩ = false) :
    Calls Tryz.prog 119 #[.pointer (some ⟨b, 0, none⟩)] w fun e w' => e = .returned (.tuple #[]) ∧ w' = w.setCell ⟨b, 0, none⟩ (.pointer (some ⟨b, 0, none⟩)) := by
  obtain ⟨j, hj, hjs⟩ := bld_info
  go_enter Tryz.func119, Tryz.ntmps119
  go_wp2
  rw [Lib.run_to_unsafe w ⟨b, 0, none⟩ u_pb u_up hj hjs hsh (Nat.zero_lt_succ 1)]
  simp only [Result.andThen]
  rw [Oper.upon_value]
  go_wp2
  rw [noesc, Lib.run_noEscape]
  simp only [Result.andThen]
  rw [Oper.upon_value]
  go_wp2
  rw [Lib.run_from_unsafe w ⟨b, 0, none⟩ u_up u_pb hj hsh bld_lies]
  simp only [Result.andThen]
  rw [Oper.upon_value]
  go_wp2
  go_end0
  exact ⟨rfl, rfl⟩

/-- behind copyCheck -/
theorem bl_check {w : World} {b : Nat} {row : Option Nat} {s : ByteArray} (h : BlAt w 120 5 b row s) :
    Calls Tryz.prog 119 #[.pointer (some ⟨b, 0, none⟩)] w fun e w' => e = .returned (.tuple #[]) ∧ BFr w w' b row ∧ w'.heap.size = w.heap.size ∧
      ∃ v, w'.heap[b]? = some (.cells #[.pointer (some ⟨b, 0, none⟩), v] 120 (0, 0)) ∧ w'.ownsRow 0 5 1 v s.size (Lib.strCells s) ∧ v.ownBlock = row := by
  obtain ⟨hT, p, v, hb, hp, hown, hrow⟩ := h
  have hne := Lib.ownBlock_ne hown hb hT
  rcases hp with rfl | rfl
  · refine (copy_fresh b w (by rw [Lib.cell_of_heap hb]; rfl) (by simp [World.shape?, hb]) (Lib.frozen_of_heap hb 0)).mono ?_
    rintro e w' ⟨rfl, rfl⟩
    refine ⟨rfl, ⟨rfl, rfl, rfl, by simp [World.setCell], fun k _ hk _ => Below.heap_setCell _ _ _ _ hk⟩, by simp [World.setCell], v, ?_, ?_, hrow⟩
    · simp [World.setCell, Array.getElem?_modify, hb]
    · exact hown.kept (row := some b) ⟨rfl, rfl, rfl, by simp [World.setCell], fun k _ hk => Below.heap_setCell _ _ _ _ (fun e => hk (by simp [e]))⟩ (Or.inr hne)
  · refine (copy_used b w (by rw [Lib.cell_of_heap hb]; rfl)).mono ?_
    rintro e w' ⟨rfl, rfl⟩
    exact ⟨rfl, BFr.refl _ _ _, rfl, v, hb, hown, hrow⟩

theorem strCells_append (s t : ByteArray) : Lib.strCells (s ++ t) = Lib.strCells s ++ Lib.strCells t := by
  simp [Lib.strCells, ByteArray.data_append]

theorem fn_ok {f : FuncId} {fn : Func} (h : Tryz.prog.funcs[f]? = some fn) (h1 : fn.name ≠ "runtime.NumGoroutine") (h2 : fn.body.isSome = true) : ∃ fn, Tryz.prog.funcs[f]? = some fn ∧ fn.name ≠ "runtime.NumGoroutine" ∧ fn.body.isSome = true := ⟨fn, h, h1, h2⟩

set_option maxHeartbeats 2000000 in
theorem bl_write (s t : ByteArray) (hsz : s.size + t.size ≤ 140737488355328) :
    BlFn Tryz.prog 93 (fun b => #[.pointer (some ⟨b, 0, none⟩), .string t]) 120 5 s (s ++ t) (.tuple #[.int .i64 t.size, .nilIface]) := by
  refine ⟨fn_ok Tryz.func93 (by decide) rfl, fun w b row h => ?_⟩
  obtain ⟨i0, hi, hz0, hz1, hz2⟩ := byte_info
  have hT := h.1
  have hlt : b < w.heap.size := by
    obtain ⟨_, p, v, hb, _⟩ := h
    exact (Array.getElem?_eq_some_iff.1 hb).1
  go_enter Tryz.func93, Tryz.ntmps93
  go_wp2_with (go_at_call 119; refine (bl_check h).mono ?_)
  rintro e w1 ⟨rfl, hF, hs1, v, hbk, hown, hrow⟩
  have c0 : w1.cell? ⟨b, 0, none⟩ = some (.pointer (some ⟨b, 0, none⟩)) := by rw [Lib.cell_of_heap hbk]; rfl
  have c1 : w1.cell? ⟨b, 1, none⟩ = some v := by rw [Lib.cell_of_heap hbk]; rfl
  go_wp2_with (at_builtin; refine wpList_append_bl rfl _ _ 111 9 rfl 5 i0 u_bs u_st hi hz0 hz1 hz2 _ _ _ rfl hown t rfl hsz ?_)
  intro v' w2 hown' hgrow hloc
  have hne := Lib.ownBlock_ne hown hbk hT
  have hb2 : w2.heap[b]? = some (.cells #[.pointer (some ⟨b, 0, none⟩), v] 120 (0, 0)) := by
    rw [hgrow.block b (by omega) (fun e => hne (hrow.trans e.symm))]
    exact hbk
  have d0 : w2.cell? ⟨b, 0, none⟩ = some (.pointer (some ⟨b, 0, none⟩)) := by rw [Lib.cell_of_heap hb2]; rfl
  have d1 : w2.cell? ⟨b, 1, none⟩ = some v := by rw [Lib.cell_of_heap hb2]; rfl
  have f1 : w2.frozen? ⟨b, 1, none⟩ = false := Lib.frozen_of_heap hb2 1
  have hne2 := Lib.ownBlock_ne hown' hb2 hT
  obtain ⟨ao, n', cap, rfl⟩ : ∃ ao n' cap, v' = .slice ao n' cap := by
    rcases hown'.2 with ⟨hv, _⟩ | ⟨g, cap, cur, hv, _⟩
    · exact ⟨_, _, _, hv⟩
    · exact ⟨_, _, _, hv⟩
  go_wp2
  go_ret2
  refine ⟨rfl, Value.ownBlock (.slice ao n' cap), ⟨hT, _, _, ?_, .inr rfl, ?_, rfl⟩, ?_, fun k hk => ?_⟩
  · simp [World.setCell, Array.getElem?_modify, hb2]
  · have hk := hown'.kept (w' := w2.setCell ⟨b, 1, none⟩ (.slice ao n' cap)) (row := some b) ⟨rfl, rfl, rfl, by simp [World.setCell], fun k _ hk => Below.heap_setCell _ _ _ _ (fun e => hk (by simp [e]))⟩ (Or.inr hne2)
    rw [strCells_append, ByteArray.size_append]
    exact hk
  · refine ⟨hgrow.os.trans hF.os, hgrow.tape.trans hF.tape, hgrow.output.trans hF.output, ?_, fun k hk h1 h2 => ?_⟩
    · have := hgrow.size; simp [World.setCell]; omega
    · rw [Below.heap_setCell _ _ _ _ h1, hgrow.block k (by omega) (fun e => h2 e.symm)]
      exact hF.block k hk h1 h2
  · rcases hloc k hk with h5 | h5
    · exact .inl (hrow ▸ h5)
    · exact .inr (by omega)

set_option maxHeartbeats 2000000 in
theorem bl_string (s : ByteArray) : BlEnd Tryz.prog 95 120 5 s := by
  refine ⟨fn_ok Tryz.func95 (by decide) rfl, fun w b row h => ?_⟩
  obtain ⟨hT, p, v, hb, hp, hown, hrow⟩ := h
  have hne := Lib.ownBlock_ne hown hb hT
  have hlt : b < w.heap.size := (Array.getElem?_eq_some_iff.1 hb).1
  rcases hown.2 with ⟨rfl, h0⟩ | ⟨g, cap, cur, rfl, _, hg, hnc, hcm, hcs, htake⟩
  · have c1 : w.drew.cell? ⟨b, 1, none⟩ = some (.slice none 0 0) := by
      have : w.drew.heap[b]? = some (.cells #[p, .slice none 0 0] 120 (0, 0)) := hb
      rw [Lib.cell_of_heap this]; rfl
    have c0 : w.cell? ⟨b, 1, none⟩ = some (.slice none 0 0) := c1
    have hSD : (Builtin.unsafeSliceData_ #[111] 154 #[.slice none 0 0]).run Tryz.prog w.drew = .ok (.pointer none) w.drew := rfl
    have hUS := fun w p => Lib.run_unsafeString_none (P := Tryz.prog) w 154 3 9 p
    have hs : s = ByteArray.empty := by
      have : s.data = #[] := Array.eq_empty_of_size_eq_zero h0
      cases s; cases this; rfl
    subst hs
    go_enter Tryz.func95, Tryz.ntmps95
    go_wp2
    go_region
    all_goals (go_wp2; go_ret; exact ⟨rfl, ⟨rfl, rfl, rfl, Nat.le_refl _, fun _ _ _ _ => rfl⟩⟩)
  · have c1 : w.drew.cell? ⟨b, 1, none⟩ = some (.slice (some ⟨g, 0, none⟩) s.size cap) := by
      have : w.drew.heap[b]? = some (.cells #[p, .slice (some ⟨g, 0, none⟩) s.size cap] 120 (0, 0)) := hb
      rw [Lib.cell_of_heap this]; rfl
    have c0 : w.cell? ⟨b, 1, none⟩ = some (.slice (some ⟨g, 0, none⟩) s.size cap) := c1
    have hgd : w.drew.heap[g]? = some (.cells cur 5 (0, 0)) := hg
    obtain rfl : row = some g := hrow.symm
    by_cases hs0 : s.size = 0
    · have hs : s = ByteArray.empty := by
        have : s.data = #[] := Array.eq_empty_of_size_eq_zero hs0
        cases s; cases this; rfl
      subst hs
      have hUS := fun w p => Lib.run_unsafeString_none (P := Tryz.prog) w 154 3 9 p
      by_cases hcap : cap = 0
      · subst hcap
        have hSD : (Builtin.unsafeSliceData_ #[111] 154 #[.slice (some ⟨g, 0, none⟩) 0 0]).run Tryz.prog w.drew = .ok (.pointer (some ⟨w.drew.heap.size, 0, none⟩)) (w.drew.alloc (.view ⟨g, 0, none⟩ 5)) :=
          Lib.run_unsafeSliceData_zero w.drew _ _ 5 u_p8 ⟨g, 0, none⟩ 0 (5, cur.size) (by simp [World.shape?, hgd])
        have c2 : (w.drew.alloc (.view ⟨g, 0, none⟩ 5)).cell? ⟨b, 1, none⟩ = some (.slice (some ⟨g, 0, none⟩) 0 0) := by
          have : (w.drew.alloc (.view ⟨g, 0, none⟩ 5)).heap[b]? = _ := (Lib.alloc_old w.drew _ b hlt).trans hb
          rw [Lib.cell_of_heap this]; rfl
        have c3 : (w.alloc (.view ⟨g, 0, none⟩ 5)).drew.cell? ⟨b, 1, none⟩ = some (.slice (some ⟨g, 0, none⟩) 0 0) := c2
        go_enter Tryz.func95, Tryz.ntmps95
        go_wp2
        go_region
        all_goals (go_wp2; go_ret; exact ⟨rfl, ⟨rfl, rfl, rfl, by simp, fun k hk _ _ => Lib.alloc_old w.drew _ k hk⟩⟩)
      · have hSD : (Builtin.unsafeSliceData_ #[111] 154 #[.slice (some ⟨g, 0, none⟩) 0 cap]).run Tryz.prog w.drew = .ok (.pointer (some ⟨g, 0, none⟩)) w.drew :=
          Lib.run_unsafeSliceData_row _ _ _ _ _ _ hcap
        go_enter Tryz.func95, Tryz.ntmps95
        go_wp2
        go_region
        all_goals (go_wp2; go_ret; exact ⟨rfl, ⟨rfl, rfl, rfl, Nat.le_refl _, fun _ _ _ _ => rfl⟩⟩)
    · have hSD : (Builtin.unsafeSliceData_ #[111] 154 #[.slice (some ⟨g, 0, none⟩) s.size cap]).run Tryz.prog w.drew = .ok (.pointer (some ⟨g, 0, none⟩)) w.drew :=
        Lib.run_unsafeSliceData_row _ _ _ _ _ _ (by omega)
      have hlen : s.data.toList.length = s.size := by rw [Array.length_toList]; rfl
      have hUS : (Builtin.unsafeString_ #[154, 3] 9 #[.pointer (some ⟨g, 0, none⟩), .int .i64 s.size]).run Tryz.prog w.drew = .ok (.string s) (w.drew.freeze ⟨g, 0, none⟩ s.size) := by
        have h := Lib.run_unsafeString_row (P := Tryz.prog) w.drew 154 3 9 5 u_p8 byte_cells g cur.size (by simp [World.shape?, hgd]) s.data.toList (fun e => hs0 (by rw [← hlen, e]; rfl)) (by rw [hlen]; omega) (by rw [hlen]; unfold maxLen at hcm; omega) ?_
        · rw [hlen] at h
          simpa using h
        · intro j x hx
          have := hown.cells (g := g) rfl j (.int .u8 x.toNat) (by simp only [Lib.strCells, List.getElem?_map, hx]; rfl)
          exact this
      have hfr : BFr w (w.drew.freeze ⟨g, 0, none⟩ s.size) b (some g) := by
        unfold World.freeze
        rw [if_neg hs0]
        refine ⟨rfl, rfl, rfl, by simp, fun k _ _ hk => ?_⟩
        simp only [Array.getElem?_modify]
        rw [if_neg (fun e => hk (by rw [e]))]; rfl
      go_enter Tryz.func95, Tryz.ntmps95
      go_wp2
      go_region
      all_goals (go_wp2; go_ret; exact ⟨rfl, hfr⟩)
end Go.Proofs.YtlbmojbkmcpnaaaGreatDoor

