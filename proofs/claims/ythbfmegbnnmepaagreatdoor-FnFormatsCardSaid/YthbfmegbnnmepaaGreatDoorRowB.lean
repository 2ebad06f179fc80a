/- The row. -/
import Derived.Test.YthbfmegbnnmepaaGreatDoorRowJ
namespace Go.Proofs.YthbfmegbnnmepaaGreatDoor
open Go.RowKit Go.Rx
namespace FnFormatsRow
theorem over : Rows.fnFormatsRow.holds Tryz.pinned (OpenSpec.ofChange Rows.fnFormatsSpec) :=
  OpenClaim.holds_of_wide 3 Tryz.f3 rfl rfl rfl rfl rfl rfl rfl ⟨rfl, rfl, rfl, rfl, rfl⟩ rfl rfl rfl rfl rfl (by kernel_rfl) Tryz.func3 joined
    (of_decide_eq_true (by kernel_rfl)) (by unfold Func.isWrapper; first | (rw [if_pos (by decide +kernel)]; kernel_rfl) | (rw [if_neg (by decide +kernel)]; exact ⟨rfl, rfl⟩))
    (fun os started H enc _ => lifted os started H enc)
end FnFormatsRow
end Go.Proofs.YthbfmegbnnmepaaGreatDoor
