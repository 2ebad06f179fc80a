/- The program's Unframe returns what the reference's returns, for all arguments; what it returns is new memory. No condition. -/
import Derived.Test.YtbnabpmfdnfigaaLUnframe
import Derived.Test.YtbnabpmfdnfigaaRows
namespace Go.Proofs.Ytbnabpmfdnfigaa
open Go.RowKit Go.Rx
namespace FnExactUnframeRow
theorem own : ownKnob Try.prog.godebug = none := by kernel_rfl
theorem laidOut : laidOutB Try.prog = true := by kernel_rfl
set_option maxRecDepth 100000 in
theorem lifted (os : Os) (started : os.Started) (H : Type) (enc : TypeId × Value → H) :
    ReturnsInHanded {} Try.checked os 8 .any (Rows.fnExactUnframeSpec.pre6 enc Try.prog Try.f8 Rows.fnExactUnframeRow.domain false) (Rows.fnExactUnframeSpec.post enc Try.prog Try.f8 false true false false) :=
  law_lifted (C := Try.checked) os started own laidOut (by kernel_rfl) Try.func8
    (ChangeSpec.witness6 (enc := enc) (C := Try.checked) false ⟨#[], #[.string ⟨#[]⟩], []⟩ 8 (by kernel_rfl) (by kernel_rfl) (by kernel_rfl) (by kernel_rfl))
    (m := 12) (ts := [9]) (rt := 4) (by kernel_rfl) (by kernel_rfl) (by kernel_rfl) (by kernel_rfl) (by kernel_rfl) rfl
    (fun ds hd => by
      match ds, hd with
      | [d0], _ => rfl) lawUnframe
theorem over : Rows.fnExactUnframeRow.holds Try.pinned (OpenSpec.ofChange Rows.fnExactUnframeSpec) :=
  OpenClaim.holds_of_wide 8 Try.f8 rfl rfl rfl rfl rfl rfl rfl ⟨rfl, rfl, rfl, rfl, rfl⟩ rfl rfl rfl rfl rfl (by kernel_rfl) Try.func8 (by kernel_rfl)
    (of_decide_eq_true (by kernel_rfl)) (by unfold Func.isWrapper; first | (rw [if_pos (by decide +kernel)]; kernel_rfl) | (rw [if_neg (by decide +kernel)]; exact ⟨rfl, rfl⟩))
    (fun os started H enc _ => lifted os started H enc)
end FnExactUnframeRow
/-- The row. -/
theorem fnExactUnframe_holds : Rows.FnExactUnframeSaid := FnExactUnframeRow.over
#print axioms fnExactUnframe_holds
end Go.Proofs.Ytbnabpmfdnfigaa
