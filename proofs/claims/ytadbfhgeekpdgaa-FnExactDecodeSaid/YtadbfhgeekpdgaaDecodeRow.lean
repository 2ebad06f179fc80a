/- The program's Decode returns what the document's returns, for all arguments. -/
import Derived.Test.YtadbfhgeekpdgaaW30
import Derived.Test.YtadbfhgeekpdgaaRows
namespace Go.Proofs.Ytadbfhgeekpdgaa
open Go.RowKit Go.Rx
namespace FnExactDecodeRow
theorem own : ownKnob Try.prog.godebug = none := by kernel_rfl
theorem laidOut : laidOutB Try.prog = true := by kernel_rfl
set_option maxRecDepth 100000 in
theorem lifted (os : Os) (started : os.Started) (H : Type) (enc : TypeId × Value → H) :
    ReturnsInHanded {} Try.checked os 7 .any (Rows.fnExactDecodeSpec.pre6 enc Try.prog Try.f7 Rows.fnExactDecodeRow.domain false) (Rows.fnExactDecodeSpec.post enc Try.prog Try.f7 false true false false) :=
  law_lifted (C := Try.checked) os started own laidOut (by kernel_rfl) Try.func7
    (ChangeSpec.witness6 (enc := enc) (C := Try.checked) false ⟨#[], #[.string ⟨#[]⟩], []⟩ 8 (by kernel_rfl) (by kernel_rfl) (by kernel_rfl) (by kernel_rfl))
    (m := 12) (ts := [9]) (rt := 4) (by kernel_rfl) (by kernel_rfl) (by kernel_rfl) (by kernel_rfl) (by kernel_rfl) rfl
    (fun ds hd => by
      match ds, hd with
      | [d0], _ => rfl) lawDecode
theorem over : Rows.fnExactDecodeRow.holds Try.pinned (OpenSpec.ofChange Rows.fnExactDecodeSpec) :=
  OpenClaim.holds_of_wide 7 Try.f7 rfl rfl rfl rfl rfl rfl rfl ⟨rfl, rfl, rfl, rfl, rfl⟩ rfl rfl rfl rfl rfl (by kernel_rfl) Try.func7 (by kernel_rfl)
    (of_decide_eq_true (by kernel_rfl)) (by unfold Func.isWrapper; first | (rw [if_pos (by decide +kernel)]; kernel_rfl) | (rw [if_neg (by decide +kernel)]; exact ⟨rfl, rfl⟩))
    (fun os started H enc _ => lifted os started H enc)
end FnExactDecodeRow
/-- The row. -/
theorem fnExactDecode_holds : Rows.FnExactDecodeSaid := FnExactDecodeRow.over
#print axioms fnExactDecode_holds
end Go.Proofs.Ytadbfhgeekpdgaa
