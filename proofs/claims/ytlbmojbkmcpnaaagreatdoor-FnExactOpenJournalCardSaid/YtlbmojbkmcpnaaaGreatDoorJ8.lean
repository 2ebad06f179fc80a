/- ReadJournal: the law. -/
import Derived.Test.YtlbmojbkmcpnaaaGreatDoorJ7
namespace Go.Proofs.YtlbmojbkmcpnaaaGreatDoor
open Go.RowKit Go.Rx
set_option linter.unusedSimpArgs false
set_option maxRecDepth 100000

theorem eqLog_ok (l : Lg) (h : l.es.length ≤ 1048576) : PureFn Tryz.prog 37 [.agg (lgC l (.sh 3 (vR (ents l.es)))), .agg (lgC l (.sh 3 (vR (ents l.es))))] [bo true] := by
  refine PureFn_of_Go Tryz.func37 rfl (by decide) mo (by decide +kernel) ?_
  simp only [Tryz.ntmps37, Tryz.results37, push_cast, seval, lgC]
  refine GoL_call rfl rfl (eqEntryS_ok l.es h) rfl rfl ?_
  simp only [Tryz.ntmps37, Tryz.results37, push_cast, seval]
theorem eqJournal_ok (j : Jn) (h : j.log.es.length ≤ 1048576) : PureFn Tryz.prog 9 [.agg (jnC j (.sh 3 (vR (ents j.log.es)))), .agg (jnC j (.sh 3 (vR (ents j.log.es))))] [bo true] := by
  refine PureFn_of_Go Tryz.func9 rfl (by decide) mo (by decide +kernel) ?_
  have k := eqLog_ok j.log h
  simp only [Tryz.ntmps9, Tryz.results9, push_cast, seval, jnC]
  refine GoL_call rfl rfl k rfl rfl ?_
  simp only [Tryz.ntmps9, Tryz.results9, push_cast, seval]
theorem markLog_ok (start sterm : Int) (l : List Ent) (hl : l.length ≤ 1048576) (k : Nat) (hk : 0 < k) (hk2 : k ≤ 1073741824) (e : Nat) (he : e = k + 3 * l.length) :
    IoFn2 Tryz.prog 41 .sl 3 (ents l) [.agg [.v (.int .i64 start), .v (.int .i64 sterm), .rs ioR [] 3 0 l.length], i64 k] (ents (marksE k l.length)) [i64 e] := by
  have hlen : (ents (marksE k l.length)).length = (ents l).length := by rw [ents_length, ents_length, marksE_length]
  refine IoFn2_of_Go Tryz.func41 rfl (by decide) mo (by decide +kernel) (ioOk_sl entV (fun _ => rfl) l) (ioOk_sl entV (fun _ => rfl) (marksE k l.length)) hlen ?_
  have km := markEntryS_ok l hl k hk hk2 e he
  simp only [Tryz.ntmps41, Tryz.results41, push_cast, seval]
  refine GoL_io (0, 1) .sl 3 (ents l) rfl rfl (by rw [ents_length]; rfl) rfl (.inr rfl) rfl km rfl rfl ?_
  simp only [Tryz.ntmps41, Tryz.results41, push_cast, seval]
theorem markJournal_ok (n t v start sterm : Int) (l : List Ent) (hl : l.length ≤ 1048576) (k : Nat) (hk : 0 < k) (hk2 : k ≤ 1073741824) (e : Nat) (he : e = k + 3 * l.length) :
    IoFn2 Tryz.prog 13 .sl 3 (ents l) [.agg [.v (.int .i64 n), .v (.int .i64 t), .v (.int .i64 v), .v (.int .i64 start), .v (.int .i64 sterm), .rs ioR [] 3 0 l.length], i64 k] (ents (marksE k l.length)) [i64 e] := by
  have hlen : (ents (marksE k l.length)).length = (ents l).length := by rw [ents_length, ents_length, marksE_length]
  refine IoFn2_of_Go Tryz.func13 rfl (by decide) mo (by decide +kernel) (ioOk_sl entV (fun _ => rfl) l) (ioOk_sl entV (fun _ => rfl) (marksE k l.length)) hlen ?_
  have km := markLog_ok start sterm l hl k hk hk2 e he
  simp only [Tryz.ntmps13, Tryz.results13, push_cast, seval]
  refine GoL_io2 (0, 1) .sl 3 (ents l) rfl rfl (.inr rfl) rfl km rfl rfl ?_
  simp only [Tryz.ntmps13, Tryz.results13, push_cast, seval]
theorem heldLog_ok (start sterm : Int) (k n : Nat) (hn : n ≤ 1048576) (hk : 0 < k) (hk2 : k ≤ 1073741824) (e : Nat) (he : e = k + 3 * n) :
    PureFn Tryz.prog 43 [.agg [.v (.int .i64 start), .v (.int .i64 sterm), .sh 3 (vR (ents (marksE k n)))], i64 k] [i64 e] := by
  refine PureFn_of_Go Tryz.func43 rfl (by decide) mo (by decide +kernel) ?_
  have k1 := heldEntryS_ok k n hn hk hk2 e he
  have h0 : ¬ ((e : Int) < 0) := by omega
  simp only [Tryz.ntmps43, Tryz.results43, push_cast, seval]
  refine GoL_call rfl rfl k1 rfl rfl ?_
  simp only [Tryz.ntmps43, Tryz.results43, push_cast, seval, h0]
theorem heldJournal_ok (m t v start sterm : Int) (k n : Nat) (hn : n ≤ 1048576) (hk : 0 < k) (hk2 : k ≤ 1073741824) (e : Nat) (he : e = k + 3 * n) :
    PureFn Tryz.prog 15 [.agg [.v (.int .i64 m), .v (.int .i64 t), .v (.int .i64 v), .v (.int .i64 start), .v (.int .i64 sterm), .sh 3 (vR (ents (marksE k n)))], i64 k] [i64 e] := by
  refine PureFn_of_Go Tryz.func15 rfl (by decide) mo (by decide +kernel) ?_
  have k1 := heldLog_ok start sterm k n hn hk hk2 e he
  have h0 : ¬ ((e : Int) < 0) := by omega
  simp only [Tryz.ntmps15, Tryz.results15, push_cast, seval]
  refine GoL_call rfl rfl k1 rfl rfl ?_
  simp only [Tryz.ntmps15, Tryz.results15, push_cast, seval, h0]
theorem tellL_fine (S : Nat) (hS : S ≤ 140737488355328) : ∀ (r : List (ByteArray × Nat)) (j : Jn) (e : Nat), fineE j.log.es → (∀ p ∈ r, p.1.size ≤ S) → fineE (tellL j e r).1.log.es
  | [], j, e, h, _ => h
  | (t, x) :: r, j, e, h, hs => by
    rw [tellL]
    cases hm : moreO j t with
    | none => exact h
    | some j' => exact tellL_fine S hS r j' x (fine_more h (Nat.le_trans (hs (t, x) (List.mem_cons_self ..)) hS) hm) fun p hp => hs p (List.mem_cons_of_mem _ hp)
theorem rjX_fine (n : Int) (s : ByteArray) (hs : s.size ≤ 140737488355328) : ∃ j e b, rjX (rjO n s) = [.agg (jnC j (.own 3 (vR (ents j.log.es)))), i64 e, bo b] ∧ fineE j.log.es := by
  have hz : fineE jnZ.log.es := ⟨Nat.zero_le _, fun e he => by cases he⟩
  have hF := frs_sizes (s := s)
  unfold rjO
  split
  · split
    · exact ⟨_, 0, _, rfl, hz⟩
    · rename_i t x r hr
      rw [hr] at hF
      split
      · exact ⟨_, _, _, rfl, tellL_fine s.size hs r _ _ ⟨Nat.zero_le _, fun e he => by cases he⟩ fun p hp => hF p (List.mem_cons_of_mem _ hp)⟩
      · exact ⟨_, 0, _, rfl, hz⟩
  · exact ⟨_, 0, _, rfl, hz⟩
end Go.Proofs.YtlbmojbkmcpnaaaGreatDoor

