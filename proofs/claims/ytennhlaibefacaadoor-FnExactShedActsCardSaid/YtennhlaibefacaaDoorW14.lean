/- Commands: right ones. -/
import Derived.Test.YtennhlaibefacaaDoorW13

namespace Go.Proofs.YtennhlaibefacaaDoor
open Go.RowKit Go.Rx
set_option linter.unusedSimpArgs false
set_option maxRecDepth 100000

def eqB (text task : ByteArray) (num to_ : Int) (yes : Bool) : Bool := (((decide (text = ⟨#[]⟩) && decide (task = ⟨#[]⟩)) && decide (num = 0)) && decide (to_ = 0)) && !yes
def cokB (x : Cmd) : Bool := (inR x.tok 0 1000000 && inR x.seq 0 1000000) &&
  (if decide (x.op = 1) then (decide (x.tok = 0) && decide (x.seq = 0)) && restB x false false false false false
   else if decide (x.op = 2) then decide ((x.text.size : Int) ≤ 600) && restB x true false false false false
   else if decide (x.op = 3) then nameB x.text && restB x true false false false true
   else if decide (x.op = 4) then inR x.num 0 68374079 && restB x false false true false false
   else if decide (x.op = 5) then restB x false false false false false
   else if decide (x.op = 6) then inR x.num 0 1000000000 && restB x false false true false false
   else if decide (x.op = 7) then inR x.num 0 1000000000 && restB x false false true false true
   else if decide (x.op = 8) then ((nameB x.text && inR x.num 0 68374079) && inR x.to_ 0 68374079) && restB x true false true true false
   else if decide (x.op = 9) then ((nameB x.text && inR x.num 0 68374079) && nameB x.task) && restB x true true true false false
   else false)
theorem restB_eq (x : Cmd) (t a n o y : Bool) : restB x t a n o y = eqB (if t then ⟨#[]⟩ else x.text) (if a then ⟨#[]⟩ else x.task) (if n then 0 else x.num) (if o then 0 else x.to_) (if y then false else x.yes) := by
  unfold restB eqB
  cases t <;> cases a <;> cases n <;> cases o <;> cases y <;> simp

end Go.Proofs.YtennhlaibefacaaDoor

