/- The program's HappenOk returns what the reference's returns, for all arguments. -/
import Derived.Test.YtadbfhgeekpdgaaW18
import Derived.Test.YtadbfhgeekpdgaaRows
namespace Go.Proofs.Ytadbfhgeekpdgaa
open Go.RowKit Go.Rx
namespace FnExactHappenOkRow
theorem own : ownKnob Try.prog.godebug = none := by kernel_rfl
theorem laidOut : laidOutB Try.prog = true := by kernel_rfl
set_option maxRecDepth 100000 in
theorem lifted (os : Os) (started : os.Started) (H : Type) (enc : TypeId × Value → H) :
    ReturnsInHanded {} Try.checked os 5 .any (Rows.fnExactHappenOkSpec.pre6 enc Try.prog Try.f5 Rows.fnExactHappenOkRow.domain false) (Rows.fnExactHappenOkSpec.post enc Try.prog Try.f5 false true false false) :=
  law_lifted (C := Try.checked) os started own laidOut (by kernel_rfl) Try.func5
    (ChangeSpec.witness6 (enc := enc) (C := Try.checked) false ⟨#[], #[.int .i64 0, .agg #[.int .i64 0, .int .i64 0, .int .i64 0, .int .i64 0, .int .i64 0, .int .i64 0, .int .i64 0, .string ⟨#[]⟩, .string ⟨#[]⟩, .int .i64 0, .int .i64 0, .bool false, .slice none 0 0, .bool false, .int .i64 0, .slice none 0 0]], []⟩ 8 (by kernel_rfl) (by kernel_rfl) (by kernel_rfl) (by kernel_rfl))
    (m := 12) (ts := [3, 36]) (rt := 4) (by kernel_rfl) (by kernel_rfl) (by kernel_rfl) (by kernel_rfl) (by kernel_rfl) rfl
    (fun ds hd => by
      match ds, hd with
      | [d0, d1], _ => rfl) lawHappenOk
theorem over : Rows.fnExactHappenOkRow.holds Try.pinned (OpenSpec.ofChange Rows.fnExactHappenOkSpec) :=
  OpenClaim.holds_of_wide 5 Try.f5 rfl rfl rfl rfl rfl rfl rfl ⟨rfl, rfl, rfl, rfl, rfl⟩ rfl rfl rfl rfl rfl (by kernel_rfl) Try.func5 (by kernel_rfl)
    (of_decide_eq_true (by kernel_rfl)) (by unfold Func.isWrapper; first | (rw [if_pos (by decide +kernel)]; kernel_rfl) | (rw [if_neg (by decide +kernel)]; exact ⟨rfl, rfl⟩))
    (fun os started H enc _ => lifted os started H enc)
end FnExactHappenOkRow
/-- The row. -/
theorem fnExactHappenOk_holds : Rows.FnExactHappenOkSaid := FnExactHappenOkRow.over
#print axioms fnExactHappenOk_holds
end Go.Proofs.Ytadbfhgeekpdgaa
