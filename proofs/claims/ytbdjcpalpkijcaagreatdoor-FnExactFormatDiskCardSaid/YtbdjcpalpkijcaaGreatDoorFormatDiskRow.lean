/- The program's FormatDisk returns what the reference's returns, for all arguments: proved; what the five listed library tables hold is tied to the program's text. -/
import Derived.Test.YtbdjcpalpkijcaaGreatDoorU2
import Derived.Test.YtbdjcpalpkijcaaGreatDoorRxV
import Derived.Test.YtbdjcpalpkijcaaGreatDoorCards
import Derived.Test.YtbdjcpalpkijcaaGreatDoorTie
namespace Go.Proofs.YtbdjcpalpkijcaaGreatDoor
open Go.RowKit Go.Rx
namespace FnExactFormatDiskRow
theorem own : ownKnob Tryz.prog.godebug = none := by kernel_rfl
theorem laidOut : laidOutB Tryz.prog = true := by kernel_rfl
theorem tb (W : World) (h : laidMetH Tryz.prog Rows.fnExactFormatDiskRow.laid W) : Tb Tryz.prog (Sall W) W :=
  tb_laid (g := 0) (t := 192) (n := 20) (e := 175) (ld := Rows.fnExactFormatDiskRow.laid) (by kernel_rfl) (by kernel_rfl) (by kernel_rfl) (by kernel_rfl) (by kernel_rfl) (by kernel_rfl) (by
    first | exact .head _ | exact .tail _ (.head _) | exact .tail _ (.tail _ (.head _)) | exact .tail _ (.tail _ (.tail _ (.head _))) | exact .tail _ (.tail _ (.tail _ (.tail _ (.head _))))) W h
theorem met (os : Os) (args : Array Value) : laidMetH Tryz.prog Rows.fnExactFormatDiskRow.laid ((laidW Tryz.prog Rows.fnExactFormatDiskRow.laid os).forCall (fun _ _ => 0) ⟨#[], args, []⟩).memory :=
  show laidMet Tryz.prog Rows.fnExactFormatDiskRow.laid _ from laidMet_of_run3 10 (by kernel_rfl) (by kernel_rfl) (by kernel_rfl)
set_option maxRecDepth 100000 in
theorem lifted (os : Os) (started : os.Started) (H : Type) (enc : TypeId × Value → H) :
    ReturnsInHanded {} Tryz.checked os 3 .any (fun w args => (Rows.fnExactFormatDiskSpec.pre enc Tryz.prog Tryz.f3 Rows.fnExactFormatDiskRow.domain false w args ∧ laidMetH Tryz.prog Rows.fnExactFormatDiskRow.laid w) ∧ sizedMet enc Tryz.prog Tryz.f3 (OpenSpec.ofChange Rows.fnExactFormatDiskSpec) false w args)
      (Rows.fnExactFormatDiskSpec.post enc Tryz.prog Tryz.f3 false true false false) :=
  law_laid (C := Tryz.checked) os started own laidOut (by kernel_rfl) Tryz.func3
    (ChangeSpec.witness_at (enc := enc) (C := Tryz.checked) (os := os) (X := fun w _ => laidMetH Tryz.prog Rows.fnExactFormatDiskRow.laid w) false (laidW Tryz.prog Rows.fnExactFormatDiskRow.laid os) #[.slice none 0 0] 8 rfl (by kernel_rfl) (by kernel_rfl) (by kernel_rfl) (by kernel_rfl) (by kernel_rfl) (met os _))
    (m := 12) (ts := [22]) (rt := 4) (by kernel_rfl) (by kernel_rfl) (by kernel_rfl) (by kernel_rfl) (by kernel_rfl) rfl
    (fun ds hd => by
      match ds, hd with
      | [d0], _ => rfl) tb lawFormatDisk
theorem over : Rows.fnExactFormatDiskRow.holds Tryz.pinned (OpenSpec.ofChange Rows.fnExactFormatDiskSpec) :=
  OpenClaim.holds_of_wide 3 Tryz.f3 rfl rfl rfl rfl rfl rfl rfl ⟨rfl, rfl, rfl, rfl, rfl⟩ rfl rfl rfl rfl rfl (by kernel_rfl) Tryz.func3 (by kernel_rfl)
    (of_decide_eq_true (by kernel_rfl)) (by unfold Func.isWrapper; first | (rw [if_pos (by decide +kernel)]; kernel_rfl) | (rw [if_neg (by decide +kernel)]; exact ⟨rfl, rfl⟩))
    (fun os started H enc _ => lifted os started H enc)
end FnExactFormatDiskRow
/-- The tied card. -/
theorem fnExactFormatDisk_card : Rows.FnExactFormatDiskCardSaid :=
  Claim7.holds_tied_plain_at .later [] [.data, .data, .data, .data, .pinned] true (true, "f9be085ab1df29c6b0580c56c838c35e9a9d22f2ad7db31a4fef344c0c0fb907") false
    FnExactFormatDiskRow.over (fun _ h => by cases h) (by kernel_rfl) (fun _ h => by cases h) fnExactFormatDisk_row_tie rfl ⟨rfl, rfl⟩ (by kernel_rfl) rfl
    (fun f fn hf hfn => by
      obtain rfl : f = 3 := Option.some.inj ((show Tryz.prog.funcNamed "loop.example/g00188/laws.FnExactFormatDisk" = some 3 by kernel_rfl).symm.trans hf) |>.symm
      obtain rfl : fn = Tryz.f3 := (Option.some.inj (Tryz.func3.symm.trans hfn)).symm
      refine ⟨by kernel_rfl, fun j t ht => ?_⟩
      rw [Tryz.params3] at ht
      have hall : ([22] : List TypeId).all (fun t => !Tryz.prog.wantsStandIn t) = true := by kernel_rfl
      have hm : t ∈ ([22] : List TypeId) := List.mem_of_getElem? (i := j) (by simpa using ht)
      have h2 : Tryz.prog.wantsStandIn t = false := by simpa using List.all_eq_true.1 hall t hm
      exact h2)
    (by kernel_rfl)
#print axioms fnExactFormatDisk_card
end Go.Proofs.YtbdjcpalpkijcaaGreatDoor
