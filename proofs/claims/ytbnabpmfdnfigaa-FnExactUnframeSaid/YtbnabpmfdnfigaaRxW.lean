/- Forgetting roots. -/
import Derived.Test.YtbnabpmfdnfigaaRxV
namespace Go.Rx
open Go.RowKit

theorem Weak.drop {t t' : List V} {d : Nat} {l l' g : Store} (h : T2 t t') (hs : SubS l l') (hd : dropOk d l' t' = true) : Weak ⟨t, d, l, g⟩ ⟨t', d, l', g⟩ := fun _ _ gh _ _ hr => ⟨gh, Rel.drop h (SubS_get hs) hd hr⟩

theorem getD_zero' {α : Type} (a : α) (l : List α) (d : α) : (a :: l).getD 0 d = a := rfl
theorem getD_succ' {α : Type} (a : α) (l : List α) (i : Nat) (d : α) : (a :: l).getD (i + 1) d = l.getD i d := rfl
theorem setRange_eq (row : List C) (off : Nat) (cs : List C) : setRange row off cs = row.take off ++ cs ++ row.drop (off + cs.length) := rfl
attribute [push_cast] setRange_eq List.all_cons List.all_nil Option.isNone_none Option.isNone_some Prod.mk.injEq and_true true_and and_false false_and true_or or_true false_or or_false not_true_eq_false not_false_eq_true noOwns below refRoot nrR nr
  List.set_cons_zero List.set_cons_succ List.getD_cons_zero List.getD_cons_succ Nat.zero_le Nat.le_refl decide_true decide_false SubS dropOk refOkV refOkX refOkC refOkO cellOk
end Go.Rx
