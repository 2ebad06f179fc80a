/- The program's Once returns what the reference's returns, for all arguments, and leaves its argument as it was. No condition. -/
import Derived.Test.YtbnabpmfdnfigaaOnceF
import Derived.Test.YtbnabpmfdnfigaaRows
import Derived.Test.YtbnabpmfdnfigaaRxY
namespace Go.Proofs.Ytbnabpmfdnfigaa
open Go.RowKit Go.Rx

namespace OnceLaw
theorem repDec (r : List C) (h : HasKt (.st [.int .i64, .int .i64, .int .i64, .st [.int .i64, .int .i64, .int .i64, .str, .str, .int .i64, .int .i64, .bool], .str]) r) : ∃ x : Rep, r = x.enc ∧ x.Ok := by
  simp only [HasKt, HasKts, reachBytes] at h
  obtain ⟨_, _, rfl, ⟨a, rfl, _⟩, _, _, rfl, ⟨b, rfl, _⟩, _, _, rfl, ⟨c, rfl, _⟩, _, _, rfl,
    ⟨_, _, rfl, ⟨d, rfl, _⟩, _, _, rfl, ⟨e, rfl, _⟩, _, _, rfl, ⟨f, rfl, _⟩, _, _, rfl, ⟨g, rfl, hg⟩, _, _, rfl, ⟨i, rfl, hi⟩, _, _, rfl, ⟨j, rfl, _⟩, _, _, rfl, ⟨k, rfl, _⟩, _, _, rfl, ⟨l, rfl⟩, rfl⟩,
    _, _, rfl, ⟨m, rfl, hm⟩, rfl⟩ := h
  exact ⟨⟨a, b, c, ⟨d, e, f, g, i, j, k, l⟩, m⟩, rfl, ⟨Nat.le_trans hg (by decide), Nat.le_trans hi (by decide)⟩, Nat.le_trans hm (by decide)⟩

theorem law (xs : List X) (h : HasXs [.sl 12 120 (.st [.int .i64, .int .i64, .int .i64, .st [.int .i64, .int .i64, .int .i64, .str, .str, .int .i64, .int .i64, .bool], .str])] xs) : PureFn Try.prog 5 xs [.one (.v (.bool true))] := by
  obtain ⟨x, _, rfl, ⟨c, rfl, hc⟩, rfl⟩ := h
  simp only [HasKt.eq_4] at hc
  obtain ⟨R, hR, hb, _, hr⟩ := hc
  obtain ⟨ys, rfl, hy⟩ := rows_dec Rep.enc Rep.Ok repDec R hr
  cases hR
  simp only [List.length_map, reachBytes] at hb
  exact once_ok ys (by omega) hy

theorem own : ownKnob Try.prog.godebug = none := by kernel_rfl
theorem laidOut : laidOutB Try.prog = true := by kernel_rfl
set_option maxRecDepth 100000 in
theorem lifted (os : Os) (started : os.Started) (H : Type) (enc : TypeId × Value → H) :
    ReturnsInHanded {} Try.checked os 5 .any (Rows.fnExactOnceSpec.pre6 enc Try.prog Try.f5 Rows.fnExactOnceRow.domain false) (Rows.fnExactOnceSpec.post enc Try.prog Try.f5 false true false false) :=
  law_lifted (C := Try.checked) os started own laidOut (by kernel_rfl) Try.func5
    (ChangeSpec.witness6 (enc := enc) (C := Try.checked) false ⟨#[], #[.slice none 0 0], []⟩ 8 (by kernel_rfl) (by kernel_rfl) (by kernel_rfl) (by kernel_rfl))
    (m := 8) (ts := [29]) (rt := 4) (by kernel_rfl) (by kernel_rfl) (by kernel_rfl) (by kernel_rfl) (by kernel_rfl) rfl
    (fun ds hd => by
      match ds, hd with
      | [d], _ => rfl) law
theorem over : Rows.fnExactOnceRow.holds Try.pinned (OpenSpec.ofChange Rows.fnExactOnceSpec) :=
  OpenClaim.holds_of_wide 5 Try.f5 rfl rfl rfl rfl rfl rfl rfl ⟨rfl, rfl, rfl, rfl, rfl⟩ rfl rfl rfl rfl rfl (by kernel_rfl) Try.func5 (by kernel_rfl)
    (of_decide_eq_true (by kernel_rfl)) (by unfold Func.isWrapper; first | (rw [if_pos (by decide +kernel)]; kernel_rfl) | (rw [if_neg (by decide +kernel)]; exact ⟨rfl, rfl⟩))
    (fun os started H enc _ => lifted os started H enc)
end OnceLaw
/-- The row. -/
theorem fnExactOnce_holds : Rows.FnExactOnceSaid := OnceLaw.over
#print axioms fnExactOnce_holds
end Go.Proofs.Ytbnabpmfdnfigaa
