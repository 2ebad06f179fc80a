/- Forgetting. -/
import Derived.Test.YtbnabpmfdnfigaaRxS
namespace Go.Rx
open Go.RowKit

theorem Weak.same {t t' : List V} {d : Nat} {l g : Store} (h : T2 t t') : Weak ⟨t, d, l, g⟩ ⟨t', d, l, g⟩ := fun _ _ gh _ _ hr => ⟨gh, Rel.same h hr⟩

theorem T2_nil : T2 [] [] = True := rfl
theorem T2_same {a : V} {t t' : List V} : T2 (a :: t) (a :: t') = T2 t t' := by simp [T2]
theorem T2_bad {a : V} {t t' : List V} : T2 (a :: t) (.x (.one .bad) :: t') = T2 t t' := by simp [T2]

/-! ### rows -/
theorem getD_map {α : Type} [Inhabited α] (f : α → List C) (xs : List α) (i : Nat) (h : i < xs.length) : (xs.map f).getD i [] = f (xs.getD i default) := by
  simp [List.getD_eq_getElem?_getD, h]

theorem enterSt_eq (fn : Func) (args : List X) : enterSt fn args = ⟨args.map .x ++ List.replicate (fn.ntmps - args.length) (.x (.one .bad)), 0, [], []⟩ := rfl
theorem o_eq (t : List V) (d : Nat) (l g : Store) : St.o ⟨t, d, l, g⟩ = l ++ g := rfl

section
variable {P : Program} {t ty : TypeId} {cs : Array Bool}
theorem bl_sh (sz : Nat) (R : List (List C)) : builtinV P .len #[t] ty cs [one (.sh sz R)] = (tyElem P t).map fun _ => int R.length := by
  simp only [builtinV, plains, plain, lenA]
  simp only [List.size_toArray, List.length_cons, List.length_nil, Nat.zero_add, Nat.zero_lt_one, getElem?_pos, List.getElem_toArray, List.getElem_cons_zero, Option.bind_some]
  cases tyElem P t <;> rfl
theorem bl_rs (r : Root) (p : Path) (sz off len : Nat) : builtinV P .len #[t] ty cs [one (.rs r p sz off len)] = (tyElem P t).map fun _ => int len := by
  simp only [builtinV, plains, plain, lenA]
  simp only [List.size_toArray, List.length_cons, List.length_nil, Nat.zero_add, Nat.zero_lt_one, getElem?_pos, List.getElem_toArray, List.getElem_cons_zero, Option.bind_some]
  cases tyElem P t <;> rfl
def builtinV' := @builtinV
theorem bl_str (s : ByteArray) : builtinV P .len #[t] ty cs [one (.v (.string s))] = match P.underlying t with
    | some .string => some (int s.size)
    | _ => builtinV' P .len #[t] ty cs [one (.v (.string s))] := by
  split
  · rename_i h
    simp [builtinV, plains, plain, builtin, Builtin.len_, underlying, program, h, pureIn, goInt, ofVal, bind, pure, Sem.bind]
  · rfl
theorem bl_nil : builtinV P .len #[t] ty cs [one (.v (.slice none 0 0))] = match tyElem P t with
    | some _ => some (int 0)
    | _ => builtinV' P .len #[t] ty cs [one (.v (.slice none 0 0))] := by
  split
  · rename_i e h
    have h' := tyElem_spec h
    simp [builtinV, plains, plain, builtin, Builtin.len_, underlying, program, h', pureIn, goInt, ofVal, bind, pure, Sem.bind]
  · rfl
theorem bl_max (ats : Array TypeId) (a b : Int) : builtinV P .max ats ty cs [int a, int b] = some (int (if a < b then b else a)) := by
  simp [builtinV, plains, plain, builtin, Builtin.max_, Builtin.max2, pureIn, ofVal, bind, pure, Sem.bind]
theorem bl_min (ats : Array TypeId) (a b : Int) : builtinV P .min ats ty cs [int a, int b] = some (int (if b < a then b else a)) := by
  simp [builtinV, plains, plain, builtin, Builtin.min_, Builtin.min2, pureIn, ofVal, bind, pure, Sem.bind]
end

attribute [push_cast] bl_sh bl_rs bl_str bl_nil bl_max bl_min
attribute [push_cast] slim slimL slimO slimG enterSt_eq o_eq
attribute [push_cast] Go_seq Go_reg Go_draw Go_block Go_exit Go_ret Go_skip Go_test GoC_true GoC_false gL_box gL_alloc gL_makeSlice gL_store gL_move gL_assign gL_pick gL_nilCheck gL_binOp gL_unOp gL_convert gL_field gL_extract gL_index gL_fieldAddr gL_indexAddr gL_slice gL_load gL_build gL_buildSlice gL_built gD_box gD_alloc gD_makeSlice gD_store gD_move gD_assign gD_pick gD_nilCheck gD_binOp gD_unOp gD_convert gD_field gD_extract gD_index gD_fieldAddr gD_indexAddr gD_slice gD_load gD_build gD_buildSlice gD_built sG_none sG_some oG_none oG_some s_move s_assign s_pick s_nil s_bin s_un s_conv s_field s_extract s_index s_fieldAddr s_indexAddr s_slice s_load s_len s_min s_max s_append s_buildSlice s_build s_box s_alloc s_make s_store o_move o_assign o_pick o_nil o_bin o_un o_conv o_field o_extract o_index o_fieldAddr o_indexAddr o_slice o_load o_built put_some put_none ev_tmp ev_int ev_bool ev_string ev_slice set0 setS get0 getS getN plain_v bin_add bin_sub bin_mul bin_lss bin_leq bin_gtr bin_geq bin_eql bin_neq un_not GoM_some GoN_some GoL_nil GoD_nil Re_nil Re_sq_normal Re_sq_exit Re_sq_ret Re_bl_normal Re_bl_ret Re_bl_exit Re_lp_normal Re_lp_exit Re_lp_ret
attribute [push_cast] Option.map_some Option.bind_some Bool.false_and Bool.true_and Bool.and_true Bool.and_false Bool.not_true Bool.not_false Bool.false_eq_true Bool.true_eq_false List.map_cons List.map_nil List.length_cons List.length_nil
  List.replicate_succ List.replicate_zero List.cons_append List.nil_append List.append_nil List.getElem?_toArray List.getElem?_cons_succ List.getElem?_cons_zero List.drop_succ_cons List.drop_zero List.take_succ_cons List.take_zero List.drop_nil List.take_nil
attribute [push_cast] nilV fieldV extractV fieldAddrV indexAddrV loadV partX delocs deloc boxS allocS storeS cellsX cellOk scalar fresh newSt ptV slV getA setA updAt rowsAt setRows
  T2_nil T2_same T2_bad resXs resV expXs expX expR expC apartAll locC cellsOf retRow Option.some.injEq exists_eq_left'
end Go.Rx
