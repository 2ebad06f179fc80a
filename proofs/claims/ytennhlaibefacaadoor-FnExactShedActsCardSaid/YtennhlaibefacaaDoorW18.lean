/- HappenOk: what its functions return, by their code; its law. -/
import Derived.Test.YtennhlaibefacaaDoorW17
namespace Go.Proofs.YtennhlaibefacaaDoor
open Go.RowKit Go.Rx
set_option linter.unusedSimpArgs false
set_option maxRecDepth 100000

/-! ### lists of numbers -/
theorem ints_take (l : List Int) : List.take l.length (vR (ints l)) = vR (ints l) := List.take_of_length_le (by rw [vR_length, ints_length]; exact Nat.le_refl _)
def intZ (n : Nat) : List (List Value) := List.replicate n [.int .i64 0]
theorem intZ_vR (n : Nat) : List.replicate n [C.v (.int .i64 0)] = vR (intZ n) := by simp [vR, intZ]
theorem intZ_length (n : Nat) : (intZ n).length = n := by simp [intZ]
theorem intZ_getD {n i : Nat} (h : i < n) : ((intZ n).getD i []).map C.v = [.v (.int .i64 0)] := by
  simp [intZ, List.getD_eq_getElem?_getD, List.getElem?_replicate, h]
def intF (l : List Int) (i : Nat) : List Value := [.int .i64 (at_ l i)]
theorem intF_all (l : List Int) : (List.range l.length).map (intF l) = ints l := by
  apply List.ext_getElem
  · simp [ints]
  · intro i h1 h2
    simp at h1
    simp [ints, intF, at_, List.getD_eq_getElem?_getD, List.getElem?_eq_getElem h1]
theorem eqIntS_ok (l : List Int) (hl : l.length ≤ 1048576) : PureFn Tryd.prog 27 [.one (.sh 1 (vR (ints l))), .one (.sh 1 (vR (ints l)))] [bo true] := by
  refine PureFn_of_Go Tryd.func27 rfl (by decide) mo (by decide +kernel) ?_
  simp only [Tryd.ntmps27, Tryd.results27, push_cast, seval, ints_length]
  refine Go_loop (α := {i : Nat // i ≤ l.length})
    (fun i => ⟨tp 26 [(0, .x (.one (.sh 1 (vR (ints l))))), (1, .x (.one (.sh 1 (vR (ints l))))), (5, int i.1)], 0, [], []⟩) (fun i => l.length - i.1) ⟨0, by omega⟩ ?_ ?_
  · exact Weak.same (by simp only [push_cast, seval, Int.ofNat_zero])
  · rintro ⟨i, hi⟩ X hX
    by_cases hlt : (i : Int) < (l.length : Int)
    · have hi' : i < l.length := by omega
      have ws := wsucc hi' (by omega)
      have hg := ints_getD l hi'
      obtain ⟨i', hi1⟩ : ∃ i', i' = i + 1 := ⟨_, rfl⟩
      rw [← hi1] at ws
      simp only [push_cast, seval, ints_length, hlt, hi', hg, ws, vR_getD]
      refine ⟨_, ?_, hX ⟨i', by omega⟩ (by simp only; omega)⟩
      exact Weak.same (by simp only [push_cast, seval])
    · simp only [Tryd.ntmps27, Tryd.results27, push_cast, seval, ints_length, hlt]
/-! ### what happens -/
theorem ints_dec (R : List (List C)) (h : ∀ r ∈ R, HasKt (.int .i64) r) : ∃ l : List Int, R = vR (ints l) := by
  obtain ⟨xs, rfl, _⟩ := rows_dec (fun n : Int => [C.v (.int .i64 n)]) (fun _ => True) (K := .int .i64) (fun r hr => by
    simp only [HasKt] at hr
    obtain ⟨n, rfl, _⟩ := hr
    exact ⟨n, rfl, trivial⟩) R h
  exact ⟨xs, by simp [vR, ints]⟩
structure Hap where
  kind : Int
  node : Int
  at_ : Int
  limit : Int
  c : Cmd
  conf : List Int
  cut : Bool
  whole : Int
  left : List Int
def Hap.enc (f : List (List C) → C) (x : Hap) : List C := [.v (.int .i64 x.kind), .v (.int .i64 x.node), .v (.int .i64 x.at_), .v (.int .i64 x.limit),
  .v (.int .i64 x.c.op), .v (.int .i64 x.c.tok), .v (.int .i64 x.c.seq), .v (.string x.c.text), .v (.string x.c.task), .v (.int .i64 x.c.num), .v (.int .i64 x.c.to_), .v (.bool x.c.yes),
  f (vR (ints x.conf)), .v (.bool x.cut), .v (.int .i64 x.whole), f (vR (ints x.left))]
def Hap.Ok (x : Hap) : Prop := x.c.Ok ∧ x.conf.length ≤ 140737488355328 ∧ x.left.length ≤ 140737488355328

def cwB (l : List Int) (n : Int) : Bool := confB l && decide (Go.Proofs.YtennhlaibefacaaDoor.at_ l (l.length - 1) ≤ n)
theorem confB_pos {l : List Int} (h : confB l = true) : 0 < l.length := by
  simp only [confB, Bool.and_eq_true, decide_eq_true_eq] at h; omega
def hoB (n : Int) (x : Hap) : Bool := ((((inR n 1 4 && inR x.kind 1 9) && inR x.node 1 n) && !decide (x.at_ < 0)) && !decide ((30 : Int) < (x.left.length : Int))) &&
  (if decide (x.kind = 1) || decide (x.kind = 9) then inR x.limit 1 20 else if decide (x.kind = 5) then cokB x.c else if decide (x.kind = 6) then cwB x.conf n else true)
theorem Hap.dec (r : List C) (h : HasKt (.st [.int .i64, .int .i64, .int .i64, .int .i64, .st [.int .i64, .int .i64, .int .i64, .str, .str, .int .i64, .int .i64, .bool], .sl 1 8 (.int .i64), .bool, .int .i64, .sl 1 8 (.int .i64)]) r) : ∃ x : Hap, r = x.enc (.sh 1) ∧ x.Ok := by
  simp only [HasKt, HasKts, reachBytes] at h
  obtain ⟨_, _, rfl, ⟨a, rfl, _⟩, _, _, rfl, ⟨b, rfl, _⟩, _, _, rfl, ⟨c, rfl, _⟩, _, _, rfl, ⟨c2, rfl, _⟩, _, _, rfl,
    ⟨_, _, rfl, ⟨d, rfl, _⟩, _, _, rfl, ⟨e, rfl, _⟩, _, _, rfl, ⟨f, rfl, _⟩, _, _, rfl, ⟨g, rfl, hg⟩, _, _, rfl, ⟨i, rfl, hi⟩, _, _, rfl, ⟨j, rfl, _⟩, _, _, rfl, ⟨k, rfl, _⟩, _, _, rfl, ⟨l, rfl⟩, rfl⟩,
    _, _, rfl, ⟨R1, rfl, hR1, _, hr1⟩, _, _, rfl, ⟨n, rfl⟩, _, _, rfl, ⟨o, rfl, _⟩, _, _, rfl, ⟨R2, rfl, hR2, _, hr2⟩, rfl⟩ := h
  obtain ⟨xs, rfl⟩ := ints_dec R1 hr1
  obtain ⟨ys, rfl⟩ := ints_dec R2 hr2
  rw [vR_length, ints_length] at hR1 hR2
  exact ⟨⟨a, b, c, c2, ⟨d, e, f, g, i, j, k, l⟩, xs, n, o, ys⟩, rfl, ⟨Nat.le_trans hg (by decide), Nat.le_trans hi (by decide)⟩, by simp only; omega, by simp only; omega⟩
end Go.Proofs.YtennhlaibefacaaDoor

