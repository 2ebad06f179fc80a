/- The program's ReadJournal returns what the reference's returns, for all arguments: proved, without conditions. -/
import Derived.Test.YtennhlaibefacaaJ8
import Derived.Test.YtennhlaibefacaaRows
namespace Go.Proofs.Ytennhlaibefacaa
open Go.RowKit Go.Rx
namespace FnExactReadJournalRow
theorem own : ownKnob Try.prog.godebug = none := by kernel_rfl
theorem laidOut : laidOutB Try.prog = true := by kernel_rfl
set_option maxRecDepth 100000 in
theorem lifted (os : Os) (started : os.Started) (H : Type) (enc : TypeId × Value → H) :
    ReturnsInHanded {} Try.checked os 3 .any (Rows.fnExactReadJournalSpec.pre6 enc Try.prog Try.f3 Rows.fnExactReadJournalRow.domain false) (Rows.fnExactReadJournalSpec.post enc Try.prog Try.f3 false true false false) :=
  law_lifted (C := Try.checked) os started own laidOut (by kernel_rfl) Try.func3
    (ChangeSpec.witness6 (enc := enc) (C := Try.checked) false ⟨#[], #[.int .i64 0, .string ⟨#[]⟩], []⟩ 8 (by kernel_rfl) (by kernel_rfl) (by kernel_rfl) (by kernel_rfl))
    (m := 12) (ts := [3, 9]) (rt := 4) (by kernel_rfl) (by kernel_rfl) (by kernel_rfl) (by kernel_rfl) (by kernel_rfl) rfl
    (fun ds hd => by
      match ds, hd with
      | [d0, d1], _ => rfl) (by kernel_rfl) lawReadJournal
theorem over : Rows.fnExactReadJournalRow.holds Try.pinned (OpenSpec.ofChange Rows.fnExactReadJournalSpec) :=
  OpenClaim.holds_of_wide 3 Try.f3 rfl rfl rfl rfl rfl rfl rfl ⟨rfl, rfl, rfl, rfl, rfl⟩ rfl rfl rfl rfl rfl (by kernel_rfl) Try.func3 (by kernel_rfl)
    (of_decide_eq_true (by kernel_rfl)) (by unfold Func.isWrapper; first | (rw [if_pos (by decide +kernel)]; kernel_rfl) | (rw [if_neg (by decide +kernel)]; exact ⟨rfl, rfl⟩))
    (fun os started H enc _ => lifted os started H enc)
end FnExactReadJournalRow
/-- The row. -/
theorem fnExactReadJournal_holds : Rows.FnExactReadJournalSaid := FnExactReadJournalRow.over
#print axioms fnExactReadJournal_holds
end Go.Proofs.Ytennhlaibefacaa
