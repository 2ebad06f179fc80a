/- The program's OneLeader returns what the document's returns, for all arguments. -/
import Derived.Test.YtcdjpfikpliagaaV9
import Derived.Test.YtcdjpfikpliagaaRows
namespace Go.Proofs.Ytcdjpfikpliagaa
open Go.RowKit Go.Rx
namespace FnExactOneLeaderRow
theorem own : ownKnob Try.prog.godebug = none := by kernel_rfl
theorem laidOut : laidOutB Try.prog = true := by kernel_rfl
set_option maxRecDepth 100000 in
theorem lifted (os : Os) (started : os.Started) (H : Type) (enc : TypeId × Value → H) :
    ReturnsInHanded {} Try.checked os 4 .any (Rows.fnExactOneLeaderSpec.pre6 enc Try.prog Try.f4 Rows.fnExactOneLeaderRow.domain false) (Rows.fnExactOneLeaderSpec.post enc Try.prog Try.f4 false true false false) :=
  law_lifted (C := Try.checked) os started own laidOut (by kernel_rfl) Try.func4
    (ChangeSpec.witness6 (enc := enc) (C := Try.checked) false ⟨#[], #[.slice none 0 0], []⟩ 8 (by kernel_rfl) (by kernel_rfl) (by kernel_rfl) (by kernel_rfl))
    (m := 12) (ts := [29]) (rt := 4) (by kernel_rfl) (by kernel_rfl) (by kernel_rfl) (by kernel_rfl) (by kernel_rfl) rfl
    (fun ds hd => by
      match ds, hd with
      | [d0], _ => rfl) lawOneLeader
theorem over : Rows.fnExactOneLeaderRow.holds Try.pinned (OpenSpec.ofChange Rows.fnExactOneLeaderSpec) :=
  OpenClaim.holds_of_wide 4 Try.f4 rfl rfl rfl rfl rfl rfl rfl ⟨rfl, rfl, rfl, rfl, rfl⟩ rfl rfl rfl rfl rfl (by kernel_rfl) Try.func4 (by kernel_rfl)
    (of_decide_eq_true (by kernel_rfl)) (by unfold Func.isWrapper; first | (rw [if_pos (by decide +kernel)]; kernel_rfl) | (rw [if_neg (by decide +kernel)]; exact ⟨rfl, rfl⟩))
    (fun os started H enc _ => lifted os started H enc)
end FnExactOneLeaderRow
/-- The row. -/
theorem fnExactOneLeader_holds : Rows.FnExactOneLeaderSaid := FnExactOneLeaderRow.over
#print axioms fnExactOneLeader_holds
end Go.Proofs.Ytcdjpfikpliagaa
