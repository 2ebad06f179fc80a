/- For all codes FnFormats returns true: a disk that is formatted comes up as a server with its conf, and nothing else. -/
import Derived.Test.YthbfmegbnnmepaaGreatDoorRowK
namespace Go.Proofs.YthbfmegbnnmepaaGreatDoor
open Go.RowKit Go.Rx
/-- The tied card. -/
theorem fnFormats_card : Rows.FnFormatsCardSaid :=
  Claim7.holds_tied_plain_at .later [] [.data, .data, .data, .data, .pinned] true (true, "0b9b0358193553ddeb481e20c9209ba2dc1546967d85d41c1a3fa66104ad43cc") false
    FnFormatsRow.over (fun _ h => by cases h) (by kernel_rfl) (fun _ h => by cases h) fnFormats_row_tie rfl ⟨rfl, rfl⟩ FnFormatsRow.kMain rfl
    (fun f fn hf hfn => by
      obtain rfl : f = 3 := Option.some.inj (FnFormatsRow.kNamed.symm.trans hf) |>.symm
      obtain rfl : fn = Tryz.f3 := (Option.some.inj (Tryz.func3.symm.trans hfn)).symm
      refine ⟨FnFormatsRow.kLooks, fun j t ht => ?_⟩
      rw [Tryz.params3] at ht
      have hall : ([22] : List TypeId).all (fun t => !Tryz.prog.wantsStandIn t) = true := FnFormatsRow.kStand
      have hm : t ∈ ([22] : List TypeId) := List.mem_of_getElem? (i := j) (by simpa using ht)
      have h2 : Tryz.prog.wantsStandIn t = false := by simpa using List.all_eq_true.1 hall t hm
      exact h2)
    FnFormatsRow.kGoes
#print axioms fnFormats_card
end Go.Proofs.YthbfmegbnnmepaaGreatDoor
