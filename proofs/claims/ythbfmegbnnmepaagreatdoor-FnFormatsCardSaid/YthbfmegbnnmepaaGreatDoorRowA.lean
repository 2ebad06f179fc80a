/- For all codes FnFormats returns true: a disk that is formatted comes up as a server with its conf, and nothing else. -/
import Derived.Test.YthbfmegbnnmepaaGreatDoorU2
import Derived.Test.YthbfmegbnnmepaaGreatDoorRxV
import Derived.Test.YthbfmegbnnmepaaGreatDoorCards
import Derived.Test.YthbfmegbnnmepaaGreatDoorTie
namespace Go.Proofs.YthbfmegbnnmepaaGreatDoor
open Go.RowKit Go.Rx
namespace FnFormatsRow
theorem own : ownKnob Tryz.prog.godebug = none := by kernel_rfl
theorem laidOut : laidOutB Tryz.prog = true := by kernel_rfl
theorem tb (W : World) (h : laidMetH Tryz.prog Rows.fnFormatsRow.laid W) : Tb Tryz.prog (Sall W) W :=
  tb_laid (g := 0) (t := 334) (n := 20) (e := 307) (ld := Rows.fnFormatsRow.laid) (by kernel_rfl) (by kernel_rfl) (by kernel_rfl) (by kernel_rfl) (by kernel_rfl) (by kernel_rfl) (by
    first | exact .head _ | exact .tail _ (.head _) | exact .tail _ (.tail _ (.head _)) | exact .tail _ (.tail _ (.tail _ (.head _))) | exact .tail _ (.tail _ (.tail _ (.tail _ (.head _))))) W h
theorem met (os : Os) (args : Array Value) : laidMetH Tryz.prog Rows.fnFormatsRow.laid ((laidW Tryz.prog Rows.fnFormatsRow.laid os).forCall (fun _ _ => 0) ⟨#[], args, []⟩).memory :=
  show laidMet Tryz.prog Rows.fnFormatsRow.laid _ from laidMet_of_run3 10 (by kernel_rfl) (by kernel_rfl) (by kernel_rfl)
set_option maxRecDepth 100000 in
theorem lifted (os : Os) (started : os.Started) (H : Type) (enc : TypeId × Value → H) :
    ReturnsInHanded {} Tryz.checked os 3 .any (fun w args => (Rows.fnFormatsSpec.pre enc Tryz.prog Tryz.f3 Rows.fnFormatsRow.domain false w args ∧ laidMetH Tryz.prog Rows.fnFormatsRow.laid w) ∧ sizedMet enc Tryz.prog Tryz.f3 (OpenSpec.ofChange Rows.fnFormatsSpec) false w args)
      (Rows.fnFormatsSpec.post enc Tryz.prog Tryz.f3 false true false false) :=
  law_laid (C := Tryz.checked) os started own laidOut (by kernel_rfl) Tryz.func3
    (ChangeSpec.witness_at (enc := enc) (C := Tryz.checked) (os := os) (X := fun w _ => laidMetH Tryz.prog Rows.fnFormatsRow.laid w) false (laidW Tryz.prog Rows.fnFormatsRow.laid os) #[.slice none 0 0] 8 rfl (by kernel_rfl) (by kernel_rfl) (by kernel_rfl) (by kernel_rfl) (by kernel_rfl) (met os _))
    (m := 12) (ts := [22]) (rt := 4) (by kernel_rfl) (by kernel_rfl) (by kernel_rfl) (by kernel_rfl) (by kernel_rfl) rfl
    (fun ds hd => by
      match ds, hd with
      | [d0], _ => rfl) tb lawFormats
end FnFormatsRow
end Go.Proofs.YthbfmegbnnmepaaGreatDoor
