/- FnExactUnframe, over any argument. -/
import Derived.Test.YtbnabpmfdnfigaaW7
namespace Go.Proofs.Ytbnabpmfdnfigaa
open Go.RowKit Go.Rx
theorem lawUnframe (xs : List X) (h : HasXs [.str] xs) : PureFn Try.prog 8 xs [.one (.v (.bool true))] := by
  obtain ⟨x, _, rfl, ⟨c, rfl, hc⟩, rfl⟩ := h
  simp only [HasKt] at hc
  obtain ⟨s, hs, hb⟩ := hc
  cases hs
  exact lawUnframe_ok s (Nat.le_trans hb (by decide))
end Go.Proofs.Ytbnabpmfdnfigaa
