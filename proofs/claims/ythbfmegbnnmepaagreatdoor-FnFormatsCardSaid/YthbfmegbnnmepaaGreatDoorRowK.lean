/- The card's closed facts. -/
import Derived.Test.YthbfmegbnnmepaaGreatDoorRowB
namespace Go.Proofs.YthbfmegbnnmepaaGreatDoor
open Go.RowKit Go.Rx
namespace FnFormatsRow
theorem kMain : Tryz.pinned.checked.prog.mainIs = some (true, ("0b9b0358193553ddeb481e20c9209ba2dc1546967d85d41c1a3fa66104ad43cc" : String).toList) := by kernel_rfl
theorem kLooks : false = Tryz.pinned.checked.prog.looks [] := by kernel_rfl
theorem kStand : ([22] : List TypeId).all (fun t => !Tryz.prog.wantsStandIn t) = true := by kernel_rfl
theorem kNamed : Tryz.prog.funcNamed "loop.example/g00188/laws.FnFormats" = some 3 := by kernel_rfl
theorem kGoes : false = Rows.fnFormatsRow.goesBy Tryz.pinned.checked.prog := by kernel_rfl
end FnFormatsRow
end Go.Proofs.YthbfmegbnnmepaaGreatDoor
