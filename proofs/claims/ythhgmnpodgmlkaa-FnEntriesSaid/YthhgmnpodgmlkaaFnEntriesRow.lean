/- FnEntries: a drawn right entry comes back from its text, with its index; so does a conf; more than half of a conf is most of it: for any bytes of a draw, no condition. -/
import Derived.Test.YthhgmnpodgmlkaaU3
import Derived.Test.YthhgmnpodgmlkaaRows
namespace Go.Proofs.Ythhgmnpodgmlkaa
open Go.RowKit Go.Rx
namespace FnEntriesRow
theorem own : ownKnob Try.prog.godebug = none := by kernel_rfl
theorem laidOut : laidOutB Try.prog = true := by kernel_rfl
set_option maxRecDepth 100000 in
theorem lifted (os : Os) (started : os.Started) (H : Type) (enc : TypeId × Value → H) :
    ReturnsInHanded {} Try.checked os 3 .any (Rows.fnEntriesSpec.pre6 enc Try.prog Try.f3 Rows.fnEntriesRow.domain false) (Rows.fnEntriesSpec.post enc Try.prog Try.f3 false true false false) :=
  law_lifted (C := Try.checked) os started own laidOut (by kernel_rfl) Try.func3
    (ChangeSpec.witness6 (enc := enc) (C := Try.checked) false ⟨#[], #[.slice none 0 0], []⟩ 8 (by kernel_rfl) (by kernel_rfl) (by kernel_rfl) (by kernel_rfl))
    (m := 12) (ts := [22]) (rt := 4) (by kernel_rfl) (by kernel_rfl) (by kernel_rfl) (by kernel_rfl) (by kernel_rfl) rfl
    (fun ds hd => by
      match ds, hd with
      | [d0], _ => rfl) (by kernel_rfl) lawEntries
theorem over : Rows.fnEntriesRow.holds Try.pinned (OpenSpec.ofChange Rows.fnEntriesSpec) :=
  OpenClaim.holds_of_wide 3 Try.f3 rfl rfl rfl rfl rfl rfl rfl ⟨rfl, rfl, rfl, rfl, rfl⟩ rfl rfl rfl rfl rfl (by kernel_rfl) Try.func3 (by kernel_rfl)
    (of_decide_eq_true (by kernel_rfl)) (by unfold Func.isWrapper; first | (rw [if_pos (by decide +kernel)]; kernel_rfl) | (rw [if_neg (by decide +kernel)]; exact ⟨rfl, rfl⟩))
    (fun os started H enc _ => lifted os started H enc)
end FnEntriesRow
/-- The row. -/
theorem fnEntries_holds : Rows.FnEntriesSaid := FnEntriesRow.over
#print axioms fnEntries_holds
end Go.Proofs.Ythhgmnpodgmlkaa
