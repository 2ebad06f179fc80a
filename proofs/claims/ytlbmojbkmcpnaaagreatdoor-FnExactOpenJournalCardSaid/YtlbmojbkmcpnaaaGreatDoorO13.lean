/- OpenJournal: the law. -/
import Derived.Test.YtlbmojbkmcpnaaaGreatDoorD3
namespace Go.Proofs.YtlbmojbkmcpnaaaGreatDoor
open Go.RowKit Go.Rx
set_option linter.unusedSimpArgs false
set_option maxRecDepth 100000

theorem ojX_fine (l : List Fil) (h : filSm l) : ∃ j A b, ojX (ojO l) = [.agg (jnC j (.own 3 (vR (ents j.log.es)))), .one (.own 4 (vR (acds A))), bo b] ∧ fineE j.log.es ∧ A.length ≤ 64 := by
  have hz : fineE jnZ.log.es := ⟨Nat.zero_le _, fun e he => by cases he⟩
  unfold ojO
  split
  · rename_i hd
    have h30 := (dk_spec hd).1
    have hA := jshI_len l (bstT l l.length).toNat
    split
    · exact ⟨jnZ, [], false, rfl, hz, Nat.zero_le _⟩
    · rename_i j e hr
      have hf := (rjO_spec (faR_small h _) hr).2.2
      split
      · exact ⟨j, _, true, rfl, hf, by omega⟩
      · split
        · refine ⟨nextJ j, _, true, rfl, hf, ?_⟩
          rw [List.length_append]
          have : (wrA (nextJ j) (jnm (bstT l l.length))).length = 4 := rfl
          omega
        · exact ⟨jnZ, [], false, rfl, hz, Nat.zero_le _⟩
  · exact ⟨jnZ, [], false, rfl, hz, Nat.zero_le _⟩
set_option maxHeartbeats 1000000 in
theorem lawOpenJournal_ok (l : List Fil) (hl : filSm l) : PureFn Tryz.prog 3 [.agg [.sh 3 (vR (fils l))]] [bo true] := by
  refine PureFn_of_Go Tryz.func3 rfl (by decide) mo (by decide +kernel) ?_
  obtain ⟨r, a1, a2, a3, k0⟩ := szDisk_ok l hl 1048576 (by decide) (by decide)
  by_cases c0 : r < 0
  · simp only [Tryz.ntmps3, Tryz.results3, push_cast, seval, fils_length]
    refine GoL_call rfl (by simp only [push_cast, seval, fils_length, fils_take]) k0 rfl rfl ?_
    simp only [Tryz.ntmps3, Tryz.results3, push_cast, seval, c0]
  have hlen := a3 (by omega)
  have k1 := toDisk_ok l hlen
  have kS := openJournalS_ok l hl
  have kI := openJournalI_ok l hl
  have kE := eqDisk_ok l hlen
  obtain ⟨e1, he1⟩ : ∃ e1, e1 = 1 + 3 * l.length := ⟨_, rfl⟩
  have kM := markDisk_ok l hlen 1 (by decide) (by decide) e1 he1
  rw [show ((1 : Nat) : Int) = 1 from rfl] at kM
  have h1 : ¬ ((e1 : Int) < 0) := by omega
  obtain ⟨j, A, b, hX, hf, hc⟩ := ojX_fine l hl
  rw [hX] at kS kI
  have kj := eqJournal_ok j hf.1
  have kq := eqActS_ok A (by omega)
  obtain ⟨e, he⟩ : ∃ e, e = 1 + 3 * j.log.es.length := ⟨_, rfl⟩
  obtain ⟨e2, he2⟩ : ∃ e2, e2 = e + 4 * A.length := ⟨_, rfl⟩
  have hb1 := hf.1
  have kmj := markJournal_ok j.number j.term j.vote j.log.start j.log.sterm j.log.es hf.1 1 (by decide) (by decide) e he
  have khj := heldJournal_ok j.number j.term j.vote j.log.start j.log.sterm 1 j.log.es.length hf.1 (by decide) (by decide) e he
  have kma := markActS_ok A (by omega) e (by omega) (by omega) e2 he2
  have kha := heldActS_ok e A.length (by omega) (by omega) (by omega) e2 he2
  rw [show ((1 : Nat) : Int) = 1 from rfl] at kmj khj
  have h0 : ¬ ((e : Int) < 0) := by omega
  have h2 : ¬ ((e2 : Int) < 0) := by omega
  have ht := acds_take (marksAct e A.length)
  rw [marksAct_length] at ht
  have htj := ents_take (marksE 1 j.log.es.length)
  rw [marksE_length] at htj
  simp only [jnC] at kS kI kj
  simp only [Tryz.ntmps3, Tryz.results3, push_cast, seval, fils_length]
  refine GoL_call rfl (by simp only [push_cast, seval, fils_length, fils_take]) k0 rfl rfl ?_
  simp only [Tryz.ntmps3, Tryz.results3, push_cast, seval, c0, fils_length]
  refine GoL_call rfl (by simp only [push_cast, seval, fils_length, fils_take]) k1 (by simp only [push_cast, seval]) rfl ?_
  simp only [Tryz.ntmps3, Tryz.results3, push_cast, seval, fils_length]
  refine GoL_call rfl (by simp only [push_cast, seval, fils_length, fils_take]) kS (by simp only [push_cast, seval]) rfl ?_
  simp only [Tryz.ntmps3, Tryz.results3, push_cast, seval, fils_length, acds_length, ents_length]
  refine GoL_call rfl (by simp only [push_cast, seval, fils_length, fils_take]) k1 (by simp only [push_cast, seval]) rfl ?_
  simp only [Tryz.ntmps3, Tryz.results3, push_cast, seval, fils_length]
  refine GoL_call rfl (by simp only [push_cast, seval, fils_length, fils_take]) kI (by simp only [push_cast, seval]) rfl ?_
  simp only [Tryz.ntmps3, Tryz.results3, push_cast, seval, acds_length, ents_length]
  refine GoL_call rfl (by simp only [push_cast, seval, ents_take]) kj rfl rfl ?_
  simp only [Tryz.ntmps3, Tryz.results3, push_cast, seval, acds_length]
  refine GoL_call rfl (by simp only [push_cast, seval, acds_take]) kq rfl rfl ?_
  simp only [Tryz.ntmps3, Tryz.results3, push_cast, seval, fils_length]
  refine GoD_call rfl (by simp only [push_cast, seval, fils_length, fils_take]) k1 (by simp only [push_cast, seval]) rfl ?_
  simp only [Tryz.ntmps3, Tryz.results3, push_cast, seval, fils_length]
  refine GoD_call rfl (by simp only [push_cast, seval, fils_length, fils_take]) kE rfl rfl ?_
  simp only [Tryz.ntmps3, Tryz.results3, push_cast, seval, fils_length]
  refine GoL_io2 (0, 1920) .sl 3 (fils l) rfl rfl (.inr rfl) rfl kM rfl rfl ?_
  simp only [Tryz.ntmps3, Tryz.results3, push_cast, seval, fils_length, acds_length, ents_length, h1]
  refine GoL_call rfl (by simp only [push_cast, seval, ents_take]) kj rfl rfl ?_
  simp only [Tryz.ntmps3, Tryz.results3, push_cast, seval]
  refine GoL_call rfl (by simp only [push_cast, seval, acds_take]) kq rfl rfl ?_
  simp only [Tryz.ntmps3, Tryz.results3, push_cast, seval, ents_length]
  refine GoL_io2 (0, 2117) .sl 3 (ents j.log.es) rfl rfl (.inr rfl) rfl kmj rfl rfl ?_
  simp only [Tryz.ntmps3, Tryz.results3, push_cast, seval, acds_length, ents_length]
  refine GoL_io (0, 2118) .sl 4 (acds A) rfl rfl (by rw [acds_length]; rfl) rfl (.inr rfl) rfl kma rfl rfl ?_
  simp only [Tryz.ntmps3, Tryz.results3, push_cast, seval, acds_length, ents_length]
  refine GoL_call rfl (by simp only [push_cast, seval, htj]) khj rfl rfl ?_
  simp only [Tryz.ntmps3, Tryz.results3, push_cast, seval, acds_length, h0]
  refine GoL_call rfl (by simp only [push_cast, seval, ht]) kha rfl rfl ?_
  simp only [Tryz.ntmps3, Tryz.results3, push_cast, seval, acds_length, h2, fils_length]
  refine GoL_call rfl (by simp only [push_cast, seval, fils_length, fils_take]) k1 (by simp only [push_cast, seval]) rfl ?_
  simp only [Tryz.ntmps3, Tryz.results3, push_cast, seval, fils_length]
  refine GoL_call rfl (by simp only [push_cast, seval, fils_length, fils_take]) kI (by simp only [push_cast, seval]) rfl ?_
  simp only [Tryz.ntmps3, Tryz.results3, push_cast, seval, acds_length, ents_length]
  refine GoL_call rfl (by simp only [push_cast, seval, ents_take]) kj rfl rfl ?_
  simp only [Tryz.ntmps3, Tryz.results3, push_cast, seval, acds_length]
  refine GoL_call rfl (by simp only [push_cast, seval, acds_take]) kq rfl rfl ?_
  simp only [Tryz.ntmps3, Tryz.results3, push_cast, seval]
  refine GoL_call rfl (by simp only [push_cast, seval, htj]) khj rfl rfl ?_
  simp only [Tryz.ntmps3, Tryz.results3, push_cast, seval, acds_length, h0]
  refine GoL_call rfl (by simp only [push_cast, seval, ht]) kha rfl rfl ?_
  simp only [Tryz.ntmps3, Tryz.results3, push_cast, seval, acds_length, h2]
theorem lawOpenJournal (xs : List X) (h : HasXs [.st [.sl 3 40 (.st [.str, .str, .int .i64])]] xs) : PureFn Tryz.prog 3 xs [.one (.v (.bool true))] := by
  obtain ⟨x, _, rfl, hx, rfl⟩ := h
  obtain ⟨l, rfl, hl⟩ := disk_arg hx
  exact lawOpenJournal_ok l hl
end Go.Proofs.YtlbmojbkmcpnaaaGreatDoor

