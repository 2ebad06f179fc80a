/- The program's ShedActs returns what the reference's returns, for all arguments: proved; what the three listed library tables hold is tied to the program's text. -/
import Derived.Test.YtennhlaibefacaaDoorK12
import Derived.Test.YtennhlaibefacaaDoorRxV
import Derived.Test.YtennhlaibefacaaDoorCards
import Derived.Test.YtennhlaibefacaaDoorTie
namespace Go.Proofs.YtennhlaibefacaaDoor
open Go.RowKit Go.Rx
namespace FnExactShedActsRow
theorem own : ownKnob Tryd.prog.godebug = none := by kernel_rfl
theorem laidOut : laidOutB Tryd.prog = true := by kernel_rfl
theorem tb (W : World) (h : laidMetH Tryd.prog Rows.fnExactShedActsRow.laid W) : Tb Tryd.prog (Sall W) W :=
  tb_laid (g := 0) (t := 114) (n := 20) (e := 107) (ld := Rows.fnExactShedActsRow.laid) (by kernel_rfl) (by kernel_rfl) (by kernel_rfl) (by kernel_rfl) (by kernel_rfl) (by kernel_rfl) (by
    first | exact .head _ | exact .tail _ (.head _) | exact .tail _ (.tail _ (.head _)) | exact .tail _ (.tail _ (.tail _ (.head _))) | exact .tail _ (.tail _ (.tail _ (.tail _ (.head _))))) W h
theorem met (os : Os) (args : Array Value) : laidMetH Tryd.prog Rows.fnExactShedActsRow.laid ((laidW Tryd.prog Rows.fnExactShedActsRow.laid os).forCall (fun _ _ => 0) ⟨#[], args, []⟩).memory :=
  show laidMet Tryd.prog Rows.fnExactShedActsRow.laid _ from laidMet_of_run3 10 (by kernel_rfl) (by kernel_rfl) (by kernel_rfl)
set_option maxRecDepth 100000 in
theorem lifted (os : Os) (started : os.Started) (H : Type) (enc : TypeId × Value → H) :
    ReturnsInHanded {} Tryd.checked os 4 .any (fun w args => (Rows.fnExactShedActsSpec.pre enc Tryd.prog Tryd.f4 Rows.fnExactShedActsRow.domain false w args ∧ laidMetH Tryd.prog Rows.fnExactShedActsRow.laid w) ∧ sizedMet enc Tryd.prog Tryd.f4 (OpenSpec.ofChange Rows.fnExactShedActsSpec) false w args)
      (Rows.fnExactShedActsSpec.post enc Tryd.prog Tryd.f4 false true false false) :=
  law_laid (C := Tryd.checked) os started own laidOut (by kernel_rfl) Tryd.func4
    (ChangeSpec.witness_at (enc := enc) (C := Tryd.checked) (os := os) (X := fun w _ => laidMetH Tryd.prog Rows.fnExactShedActsRow.laid w) false (laidW Tryd.prog Rows.fnExactShedActsRow.laid os) #[.agg #[.slice none 0 0]] 8 rfl (by kernel_rfl) (by kernel_rfl) (by kernel_rfl) (by kernel_rfl) (by kernel_rfl) (met os _))
    (m := 12) (ts := [24]) (rt := 4) (by kernel_rfl) (by kernel_rfl) (by kernel_rfl) (by kernel_rfl) (by kernel_rfl) rfl
    (fun ds hd => by
      match ds, hd with
      | [d0], _ => rfl) tb lawShedActs
theorem over : Rows.fnExactShedActsRow.holds Tryd.pinned (OpenSpec.ofChange Rows.fnExactShedActsSpec) :=
  OpenClaim.holds_of_wide 4 Tryd.f4 rfl rfl rfl rfl rfl rfl rfl ⟨rfl, rfl, rfl, rfl, rfl⟩ rfl rfl rfl rfl rfl (by kernel_rfl) Tryd.func4 (by kernel_rfl)
    (of_decide_eq_true (by kernel_rfl)) (by unfold Func.isWrapper; first | (rw [if_pos (by decide +kernel)]; kernel_rfl) | (rw [if_neg (by decide +kernel)]; exact ⟨rfl, rfl⟩))
    (fun os started H enc _ => lifted os started H enc)
end FnExactShedActsRow
/-- The tied card. -/
theorem fnExactShedActs_card : Rows.FnExactShedActsCardSaid :=
  Claim7.holds_tied_plain_at .later [] [.data, .data, .data] true (true, "b3100cc1f49e3e5cd46939e74ca3e5bc6bec611c8be370ccf0721de2a50e2f01") false
    FnExactShedActsRow.over (fun _ h => by cases h) (by kernel_rfl) (fun _ h => by cases h) fnExactShedActs_row_tie rfl ⟨rfl, rfl⟩ (by kernel_rfl) rfl
    (fun f fn hf hfn => by
      obtain rfl : f = 4 := Option.some.inj ((show Tryd.prog.funcNamed "loop.example/g00188/laws.FnExactShedActs" = some 4 by kernel_rfl).symm.trans hf) |>.symm
      obtain rfl : fn = Tryd.f4 := (Option.some.inj (Tryd.func4.symm.trans hfn)).symm
      refine ⟨by kernel_rfl, fun j t ht => ?_⟩
      rw [Tryd.params4] at ht
      have hall : ([24] : List TypeId).all (fun t => !Tryd.prog.wantsStandIn t) = true := by kernel_rfl
      have hm : t ∈ ([24] : List TypeId) := List.mem_of_getElem? (i := j) (by simpa using ht)
      have h2 : Tryd.prog.wantsStandIn t = false := by simpa using List.all_eq_true.1 hall t hm
      exact h2)
    (by kernel_rfl)
#print axioms fnExactShedActs_card
end Go.Proofs.YtennhlaibefacaaDoor
