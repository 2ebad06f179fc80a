/- ReadJournal: the law. -/
import Derived.Test.YtennhlaibefacaaJ7
namespace Go.Proofs.Ytennhlaibefacaa
open Go.RowKit Go.Rx
set_option linter.unusedSimpArgs false
set_option maxRecDepth 100000

theorem eqLog_ok (l : Lg) (h : l.es.length ≤ 1048576) : PureFn Try.prog 44 [.agg (lgC l (.sh 3 (vR (ents l.es)))), .agg (lgC l (.sh 3 (vR (ents l.es))))] [bo true] := by
  refine PureFn_of_Go Try.func44 rfl (by decide) mo (by decide +kernel) ?_
  simp only [Try.ntmps44, Try.results44, push_cast, seval, lgC]
  refine GoL_call rfl rfl (eqEntryS_ok l.es h) rfl rfl ?_
  simp only [Try.ntmps44, Try.results44, push_cast, seval]
theorem eqJournal_ok (j : Jn) (h : j.log.es.length ≤ 1048576) : PureFn Try.prog 8 [.agg (jnC j (.sh 3 (vR (ents j.log.es)))), .agg (jnC j (.sh 3 (vR (ents j.log.es))))] [bo true] := by
  refine PureFn_of_Go Try.func8 rfl (by decide) mo (by decide +kernel) ?_
  have k := eqLog_ok j.log h
  simp only [Try.ntmps8, Try.results8, push_cast, seval, jnC]
  refine GoL_call rfl rfl k rfl rfl ?_
  simp only [Try.ntmps8, Try.results8, push_cast, seval]
theorem markLog_ok (start sterm : Int) (l : List Ent) (hl : l.length ≤ 1048576) (k : Nat) (hk : 0 < k) (hk2 : k ≤ 1073741824) (e : Nat) (he : e = k + 3 * l.length) :
    IoFn2 Try.prog 45 .sl 3 (ents l) [.agg [.v (.int .i64 start), .v (.int .i64 sterm), .rs ioR [] 3 0 l.length], i64 k] (ents (marksE k l.length)) [i64 e] := by
  have hlen : (ents (marksE k l.length)).length = (ents l).length := by rw [ents_length, ents_length, marksE_length]
  refine IoFn2_of_Go Try.func45 rfl (by decide) mo (by decide +kernel) (ioOk_sl entV (fun _ => rfl) l) (ioOk_sl entV (fun _ => rfl) (marksE k l.length)) hlen ?_
  have km := markEntryS_ok l hl k hk hk2 e he
  simp only [Try.ntmps45, Try.results45, push_cast, seval]
  refine GoL_io (0, 1) .sl 3 (ents l) rfl rfl (by rw [ents_length]; rfl) rfl (.inr rfl) rfl km rfl rfl ?_
  simp only [Try.ntmps45, Try.results45, push_cast, seval]
theorem markJournal_ok (n t v start sterm : Int) (l : List Ent) (hl : l.length ≤ 1048576) (k : Nat) (hk : 0 < k) (hk2 : k ≤ 1073741824) (e : Nat) (he : e = k + 3 * l.length) :
    IoFn2 Try.prog 9 .sl 3 (ents l) [.agg [.v (.int .i64 n), .v (.int .i64 t), .v (.int .i64 v), .v (.int .i64 start), .v (.int .i64 sterm), .rs ioR [] 3 0 l.length], i64 k] (ents (marksE k l.length)) [i64 e] := by
  have hlen : (ents (marksE k l.length)).length = (ents l).length := by rw [ents_length, ents_length, marksE_length]
  refine IoFn2_of_Go Try.func9 rfl (by decide) mo (by decide +kernel) (ioOk_sl entV (fun _ => rfl) l) (ioOk_sl entV (fun _ => rfl) (marksE k l.length)) hlen ?_
  have km := markLog_ok start sterm l hl k hk hk2 e he
  simp only [Try.ntmps9, Try.results9, push_cast, seval]
  refine GoL_io2 (0, 1) .sl 3 (ents l) rfl rfl (.inr rfl) rfl km rfl rfl ?_
  simp only [Try.ntmps9, Try.results9, push_cast, seval]
theorem heldLog_ok (start sterm : Int) (k n : Nat) (hn : n ≤ 1048576) (hk : 0 < k) (hk2 : k ≤ 1073741824) (e : Nat) (he : e = k + 3 * n) :
    PureFn Try.prog 46 [.agg [.v (.int .i64 start), .v (.int .i64 sterm), .sh 3 (vR (ents (marksE k n)))], i64 k] [i64 e] := by
  refine PureFn_of_Go Try.func46 rfl (by decide) mo (by decide +kernel) ?_
  have k1 := heldEntryS_ok k n hn hk hk2 e he
  have h0 : ¬ ((e : Int) < 0) := by omega
  simp only [Try.ntmps46, Try.results46, push_cast, seval]
  refine GoL_call rfl rfl k1 rfl rfl ?_
  simp only [Try.ntmps46, Try.results46, push_cast, seval, h0]
theorem heldJournal_ok (m t v start sterm : Int) (k n : Nat) (hn : n ≤ 1048576) (hk : 0 < k) (hk2 : k ≤ 1073741824) (e : Nat) (he : e = k + 3 * n) :
    PureFn Try.prog 10 [.agg [.v (.int .i64 m), .v (.int .i64 t), .v (.int .i64 v), .v (.int .i64 start), .v (.int .i64 sterm), .sh 3 (vR (ents (marksE k n)))], i64 k] [i64 e] := by
  refine PureFn_of_Go Try.func10 rfl (by decide) mo (by decide +kernel) ?_
  have k1 := heldLog_ok start sterm k n hn hk hk2 e he
  have h0 : ¬ ((e : Int) < 0) := by omega
  simp only [Try.ntmps10, Try.results10, push_cast, seval]
  refine GoL_call rfl rfl k1 rfl rfl ?_
  simp only [Try.ntmps10, Try.results10, push_cast, seval, h0]
theorem tellL_fine (S : Nat) (hS : S ≤ 140737488355328) : ∀ (r : List (ByteArray × Nat)) (j : Jn) (e : Nat), fineE j.log.es → (∀ p ∈ r, p.1.size ≤ S) → fineE (tellL j e r).1.log.es
  | [], j, e, h, _ => h
  | (t, x) :: r, j, e, h, hs => by
    rw [tellL]
    cases hm : moreO j t with
    | none => exact h
    | some j' => exact tellL_fine S hS r j' x (fine_more h (Nat.le_trans (hs (t, x) (List.mem_cons_self ..)) hS) hm) fun p hp => hs p (List.mem_cons_of_mem _ hp)
theorem rjX_fine (n : Int) (s : ByteArray) (hs : s.size ≤ 140737488355328) : ∃ j e b, rjX (rjO n s) = [.agg (jnC j (.own 3 (vR (ents j.log.es)))), i64 e, bo b] ∧ fineE j.log.es := by
  have hz : fineE jnZ.log.es := ⟨Nat.zero_le _, fun e he => by cases he⟩
  have hF := frs_sizes (s := s)
  unfold rjO
  split
  · split
    · exact ⟨_, 0, _, rfl, hz⟩
    · rename_i t x r hr
      rw [hr] at hF
      split
      · exact ⟨_, _, _, rfl, tellL_fine s.size hs r _ _ ⟨Nat.zero_le _, fun e he => by cases he⟩ fun p hp => hF p (List.mem_cons_of_mem _ hp)⟩
      · exact ⟨_, 0, _, rfl, hz⟩
  · exact ⟨_, 0, _, rfl, hz⟩
theorem lawReadJournal_ok (n : Int) (s : ByteArray) (hs : s.size ≤ 140737488355328) : PureFn Try.prog 3 [i64 n, st s] [bo true] := by
  refine PureFn_of_Go Try.func3 rfl (by decide) mo (by decide +kernel) ?_
  have k1 := readJournalS_ok n s hs
  have k2 := readJournalI_ok n s hs
  by_cases c0 : (1048576 : Int) < (s.size : Int)
  · simp only [Try.ntmps3, Try.results3, push_cast, seval, c0]
  obtain ⟨j, x, b, hR, hf⟩ := rjX_fine n s hs
  rw [hR] at k1 k2
  have kq := eqJournal_ok j hf.1
  obtain ⟨e, he⟩ : ∃ e, e = 1 + 3 * j.log.es.length := ⟨_, rfl⟩
  have km := markJournal_ok j.number j.term j.vote j.log.start j.log.sterm j.log.es hf.1 1 (by decide) (by decide) e he
  have kh := heldJournal_ok j.number j.term j.vote j.log.start j.log.sterm 1 j.log.es.length hf.1 (by decide) (by decide) e he
  rw [show ((1 : Nat) : Int) = 1 from rfl] at km kh
  have h0 : ¬ ((e : Int) < 0) := by omega
  have ht := ents_take (marksE 1 j.log.es.length)
  rw [marksE_length] at ht
  simp only [jnC] at k1 k2 kq
  simp only [Try.ntmps3, Try.results3, push_cast, seval, c0]
  refine GoL_call rfl rfl k1 (by simp only [push_cast, seval]) rfl ?_
  simp only [Try.ntmps3, Try.results3, push_cast, seval, ents_length]
  refine GoL_call rfl rfl k2 (by simp only [push_cast, seval]) rfl ?_
  simp only [Try.ntmps3, Try.results3, push_cast, seval, ents_length]
  refine GoL_call rfl (by simp only [push_cast, seval, ents_take]) kq rfl rfl ?_
  simp only [Try.ntmps3, Try.results3, push_cast, seval]
  refine GoL_io2 (0, 1861) .sl 3 (ents j.log.es) rfl rfl (.inr rfl) rfl km rfl rfl ?_
  simp only [Try.ntmps3, Try.results3, push_cast, seval, ents_length]
  refine GoL_call rfl (by simp only [push_cast, seval, ht]) kh rfl rfl ?_
  simp only [Try.ntmps3, Try.results3, push_cast, seval, ents_length, h0]
  refine GoL_call rfl rfl k2 (by simp only [push_cast, seval]) rfl ?_
  simp only [Try.ntmps3, Try.results3, push_cast, seval, ents_length]
  refine GoL_call rfl (by simp only [push_cast, seval, ents_take]) kq rfl rfl ?_
  simp only [Try.ntmps3, Try.results3, push_cast, seval]
  refine GoL_call rfl (by simp only [push_cast, seval, ht]) kh rfl rfl ?_
  simp only [Try.ntmps3, Try.results3, push_cast, seval, ents_length, h0]
theorem lawReadJournal (xs : List X) (h : HasXs [.int .i64, .str] xs) : PureFn Try.prog 3 xs [.one (.v (.bool true))] := by
  obtain ⟨x, _, rfl, ⟨c, rfl, hc⟩, y, _, rfl, ⟨c2, rfl, hc2⟩, rfl⟩ := h
  simp only [HasKt] at hc hc2
  obtain ⟨n, hn, _⟩ := hc
  cases hn
  obtain ⟨s, hs, hb⟩ := hc2
  cases hs
  exact lawReadJournal_ok n s (Nat.le_trans hb (by decide))
end Go.Proofs.Ytennhlaibefacaa

