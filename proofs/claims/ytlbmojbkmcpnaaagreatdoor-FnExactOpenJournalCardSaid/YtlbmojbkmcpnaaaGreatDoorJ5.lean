/- Journals: what a record tells; the program's reader. -/
import Derived.Test.YtlbmojbkmcpnaaaGreatDoorJ4
namespace Go.Proofs.YtlbmojbkmcpnaaaGreatDoor
open Go.RowKit Go.Rx
set_option linter.unusedSimpArgs false
set_option maxRecDepth 100000

theorem logB_nil (start sterm : Int) : logB ⟨start, sterm, []⟩ = (inR start 0 1000000 && inR sterm 0 100000) := by
  unfold logB
  cases c1 : inR start 0 1000000 with
  | false => rfl
  | true =>
    have := inR_spec.1 c1
    have h : start + (([] : List Ent).length : Int) ≤ 1000000 := by simp; omega
    simp [riseB, h]
    intro _
    exact this.2
theorem logOkS_nil (start sterm : Int) : PureFn Tryz.prog 63 [.agg [.v (.int .i64 start), .v (.int .i64 sterm), .v (.slice none 0 0)]] [bo (logB ⟨start, sterm, []⟩)] := by
  refine PureFn_of_Go Tryz.func63 rfl (by decide) mo (by decide +kernel) ?_
  have k1 := l01In_ok start 0 1000000
  have k2 := l01In_ok sterm 0 100000
  rw [show (decide ((0 : Int) ≤ start) && decide (start ≤ 1000000)) = inR start 0 1000000 from rfl] at k1
  rw [show (decide ((0 : Int) ≤ sterm) && decide (sterm ≤ 100000)) = inR sterm 0 100000 from rfl] at k2
  rw [logB_nil]
  simp only [Tryz.ntmps63, Tryz.results63, push_cast, seval]
  refine GoL_call rfl rfl k1 rfl rfl ?_
  cases c1 : inR start 0 1000000 with
  | false => simp only [Tryz.ntmps63, Tryz.results63, push_cast, seval]
  | true =>
    have hst := inR_spec.1 c1
    simp only [Tryz.ntmps63, Tryz.results63, push_cast, seval]
    refine GoL_call rfl rfl k2 rfl rfl ?_
    cases c2 : inR sterm 0 100000 with
    | false => simp only [Tryz.ntmps63, Tryz.results63, push_cast, seval]
    | true =>
      have hw : IntKind.i64.wrap start = start := w64 (by omega) (by omega)
      have c4 : ¬ (1000000 : Int) < start := by omega
      simp only [Tryz.ntmps63, Tryz.results63, push_cast, seval, Int.add_zero, hw, c4]
      refine Go_loop (α := Unit) (fun _ => ⟨tp 62 [(1, .x (.one (.pt (0, 64) [] 3 0 0))), (2, .x (bo false)), (4, int 0)], 0, [((0, 64), ⟨.box, 3, [[.v (.int .i64 start), .v (.int .i64 sterm), .v (.slice none 0 0)]]⟩)], []⟩) (fun _ => 0) () ?_ ?_
      · exact Weak.same (by simp only [push_cast, seval, Int.ofNat_zero])
      · rintro _ X hX
        simp only [Tryz.ntmps63, Tryz.results63, push_cast, seval]
theorem logOkI_nil (start sterm : Int) : PureFn Tryz.prog 87 [.agg [.v (.int .i64 start), .v (.int .i64 sterm), .v (.slice none 0 0)]] [bo (logB ⟨start, sterm, []⟩)] := by
  refine PureFn_of_Go Tryz.func87 rfl (by decide) mo (by decide +kernel) ?_
  have k1 := isIndex_ok start
  have k2 := isTerm_ok sterm
  rw [logB_nil]
  simp only [Tryz.ntmps87, Tryz.results87, push_cast, seval]
  refine GoL_call rfl rfl k1 rfl rfl ?_
  cases c1 : inR start 0 1000000 with
  | false => simp only [Tryz.ntmps87, Tryz.results87, push_cast, seval]
  | true =>
    have hst := inR_spec.1 c1
    simp only [Tryz.ntmps87, Tryz.results87, push_cast, seval]
    refine GoL_call rfl rfl k2 rfl rfl ?_
    cases c2 : inR sterm 0 100000 with
    | false => simp only [Tryz.ntmps87, Tryz.results87, push_cast, seval]
    | true =>
      have hw : IntKind.i64.wrap start = start := w64 (by omega) (by omega)
      have c4 : ¬ (1000000 : Int) < start := by omega
      simp only [Tryz.ntmps87, Tryz.results87, push_cast, seval, Int.add_zero, hw, c4]
      refine Go_loop (α := Unit) (fun _ => ⟨tp 52 [(1, .x (.one (.pt (0, 64) [] 3 0 0))), (2, .x (bo false)), (34, .x (.one (.v (.slice none 0 0)))), (35, int 0), (36, int 0)], 0, [((0, 64), ⟨.box, 3, [[.v (.int .i64 start), .v (.int .i64 sterm), .v (.slice none 0 0)]]⟩)], []⟩) (fun _ => 0) () ?_ ?_
      · exact Weak.same (by simp only [push_cast, seval, Int.ofNat_zero])
      · rintro _ X hX
        simp only [Tryz.ntmps87, Tryz.results87, push_cast, seval]
theorem journalOk_nil (n start sterm : Int) : PureFn Tryz.prog 51 [.agg [.v (.int .i64 n), .v (.int .i64 0), .v (.int .i64 0), .v (.int .i64 start), .v (.int .i64 sterm), .v (.slice none 0 0)]] [bo (inR n 0 999 && logB ⟨start, sterm, []⟩)] := by
  refine PureFn_of_Go Tryz.func51 rfl (by decide) mo (by decide +kernel) ?_
  have k1 := inRange_ok n 0 999
  rw [show (decide ((0 : Int) ≤ n) && decide (n ≤ 999)) = inR n 0 999 from rfl] at k1
  have k2 := isTerm_ok 0
  have k3 := inRange_ok 0 0 4
  have k4 := logOkI_nil start sterm
  simp only [Tryz.ntmps51, Tryz.results51, push_cast, seval]
  refine GoL_call rfl rfl k1 rfl rfl ?_
  cases c1 : inR n 0 999 with
  | false => simp only [Tryz.ntmps51, Tryz.results51, push_cast, seval]
  | true =>
    simp only [Tryz.ntmps51, Tryz.results51, push_cast, seval]
    refine GoL_call rfl rfl k2 rfl rfl ?_
    rw [show inR 0 0 100000 = true from rfl]
    simp only [Tryz.ntmps51, Tryz.results51, push_cast, seval]
    refine GoL_call rfl rfl k3 rfl rfl ?_
    rw [show (decide ((0 : Int) ≤ 0) && decide ((0 : Int) ≤ 4)) = true from rfl]
    simp only [Tryz.ntmps51, Tryz.results51, push_cast, seval]
    refine GoL_call rfl rfl k4 rfl rfl ?_
    simp only [Tryz.ntmps51, Tryz.results51, push_cast, seval]

/-! ### records -/
structure Jn where
  number : Int
  term : Int
  vote : Int
  log : Lg
def mkH : ByteArray := ⟨#[72]⟩
def mkB' : ByteArray := ⟨#[66]⟩
def entOf (s : ByteArray) : Ent := ⟨eN2 s, eK s, eD s⟩
def moreO (j : Jn) (s : ByteArray) : Option Jn :=
  if pairB s mkH then (if inR (eN1 s) 0 100000 && inR (eN2 s) 0 4 then some ⟨j.number, eN1 s, eN2 s, j.log⟩ else none)
  else if eOk s then (if putB j.log (eN1 s) (entOf s) then some ⟨j.number, j.term, j.vote, putL j.log (eN1 s) (entOf s)⟩ else none) else none
def tellL : Jn → Nat → List (ByteArray × Nat) → Jn × Nat
  | j, e, [] => (j, e)
  | j, e, (t, x) :: r => match moreO j t with
    | some j' => tellL j' x r
    | none => (j, e)
def rjO (n : Int) (s : ByteArray) : Option (Jn × Nat) :=
  if inR n 0 999 then match frs s with
    | [] => none
    | (t, x) :: r => if pairB t mkB' && logB ⟨eN1 t, eN2 t, []⟩ then some (tellL ⟨n, 0, 0, ⟨eN1 t, eN2 t, []⟩⟩ x r) else none
  else none
def jnC (j : Jn) (f : C) : List C := [.v (.int .i64 j.number), .v (.int .i64 j.term), .v (.int .i64 j.vote), .v (.int .i64 j.log.start), .v (.int .i64 j.log.sterm), f]
def jnZ : Jn := ⟨0, 0, 0, ⟨0, 0, []⟩⟩
def rjX : Option (Jn × Nat) → List X
  | none => [.agg (jnC jnZ (.own 3 (vR (ents jnZ.log.es)))), i64 0, bo false]
  | some (j, e) => [.agg (jnC j (.own 3 (vR (ents j.log.es)))), i64 e, bo true]
theorem rjX_form (o : Option (Jn × Nat)) : ∃ j e b, rjX o = [.agg (jnC j (.own 3 (vR (ents j.log.es)))), i64 e, bo b] := by
  cases o with
  | none => exact ⟨_, 0, _, rfl⟩
  | some p => exact ⟨_, p.2, _, rfl⟩
theorem eD_size (s : ByteArray) : (eD s).size ≤ s.size := by unfold eD; rw [ByteArray.size_extract]; omega
theorem fine_more {j j' : Jn} {s : ByteArray} (h : fineE j.log.es) (hs : s.size ≤ 140737488355328) (hm : moreO j s = some j') : fineE j'.log.es := by
  unfold moreO at hm
  split at hm
  · split at hm
    · cases hm; exact h
    · cases hm
  · split at hm
    · split at hm
      · rename_i hp
        cases hm
        have hp2 := hp
        simp only [putB, Bool.and_eq_true] at hp2
        exact fine_put h _ _ (Nat.le_trans (eD_size s) hs) (logB_spec hp2.1.1).2.2.1
      · cases hm
    · cases hm
end Go.Proofs.YtlbmojbkmcpnaaaGreatDoor

