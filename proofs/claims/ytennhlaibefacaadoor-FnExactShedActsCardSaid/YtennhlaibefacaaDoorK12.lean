/- ShedActs: the law. -/
import Derived.Test.YtennhlaibefacaaDoorK11
namespace Go.Proofs.YtennhlaibefacaaDoor
open Go.RowKit Go.Rx
set_option linter.unusedSimpArgs false
set_option maxRecDepth 100000

set_option maxHeartbeats 1000000 in
theorem lawShedActs_ok (l : List Fil) (hl : filSm l) : PureFn Tryd.prog 4 [.agg [.sh 3 (vR (fils l))]] [bo true] := by
  refine PureFn_of_Go Tryd.func4 rfl (by decide) mo (by decide +kernel) ?_
  obtain ⟨r, a1, a2, a3, k0⟩ := szDisk_ok l hl 1048576 (by decide) (by decide)
  by_cases c0 : r < 0
  · simp only [Tryd.ntmps4, Tryd.results4, push_cast, seval, fils_length]
    refine GoL_call rfl (by simp only [push_cast, seval, fils_length, fils_take]) k0 rfl rfl ?_
    simp only [Tryd.ntmps4, Tryd.results4, push_cast, seval, c0]
  have hlen := a3 (by omega)
  have k1 := toDisk_ok l hlen
  have kS := shedS_ok l hl
  have kI := shedI_ok l hl
  have kE := eqDisk_ok l hlen
  obtain ⟨e1, he1⟩ : ∃ e1, e1 = 1 + 3 * l.length := ⟨_, rfl⟩
  have kM := markDisk_ok l hlen 1 (by decide) (by decide) e1 he1
  rw [show ((1 : Nat) : Int) = 1 from rfl] at kM
  have h1 : ¬ ((e1 : Int) < 0) := by omega
  have hc := shO_len l
  generalize shO l = A at kS kI hc
  have kq := eqActS_ok A (by omega)
  obtain ⟨e, he⟩ : ∃ e, e = 1 + 4 * A.length := ⟨_, rfl⟩
  have km := markActS_ok A (by omega) 1 (by decide) (by decide) e he
  have kh := heldActS_ok 1 A.length (by omega) (by decide) (by decide) e he
  rw [show ((1 : Nat) : Int) = 1 from rfl] at kh km
  have h0 : ¬ ((e : Int) < 0) := by omega
  have ht := acds_take (marksAct 1 A.length)
  rw [marksAct_length] at ht
  simp only [Tryd.ntmps4, Tryd.results4, push_cast, seval, fils_length]
  refine GoL_call rfl (by simp only [push_cast, seval, fils_length, fils_take]) k0 rfl rfl ?_
  simp only [Tryd.ntmps4, Tryd.results4, push_cast, seval, c0, fils_length]
  refine GoL_call rfl (by simp only [push_cast, seval, fils_length, fils_take]) k1 (by simp only [push_cast, seval]) rfl ?_
  simp only [Tryd.ntmps4, Tryd.results4, push_cast, seval, fils_length]
  refine GoL_call rfl (by simp only [push_cast, seval, fils_length, fils_take]) kS (by simp only [push_cast, seval]) rfl ?_
  simp only [Tryd.ntmps4, Tryd.results4, push_cast, seval, fils_length, acds_length]
  refine GoL_call rfl (by simp only [push_cast, seval, fils_length, fils_take]) k1 (by simp only [push_cast, seval]) rfl ?_
  simp only [Tryd.ntmps4, Tryd.results4, push_cast, seval, fils_length]
  refine GoL_call rfl (by simp only [push_cast, seval, fils_length, fils_take]) kI (by simp only [push_cast, seval]) rfl ?_
  simp only [Tryd.ntmps4, Tryd.results4, push_cast, seval, acds_length]
  refine GoL_call rfl (by simp only [push_cast, seval, acds_take]) kq rfl rfl ?_
  simp only [Tryd.ntmps4, Tryd.results4, push_cast, seval, fils_length]
  refine GoD_call rfl (by simp only [push_cast, seval, fils_length, fils_take]) k1 (by simp only [push_cast, seval]) rfl ?_
  simp only [Tryd.ntmps4, Tryd.results4, push_cast, seval, fils_length]
  refine GoD_call rfl (by simp only [push_cast, seval, fils_length, fils_take]) kE rfl rfl ?_
  simp only [Tryd.ntmps4, Tryd.results4, push_cast, seval, fils_length]
  refine GoL_io2 (0, 1280) .sl 3 (fils l) rfl rfl (.inr rfl) rfl kM rfl rfl ?_
  simp only [Tryd.ntmps4, Tryd.results4, push_cast, seval, fils_length, acds_length, h1]
  refine GoL_call rfl (by simp only [push_cast, seval, acds_take]) kq rfl rfl ?_
  simp only [Tryd.ntmps4, Tryd.results4, push_cast, seval]
  refine GoL_io (0, 1408) .sl 4 (acds A) rfl rfl (by rw [acds_length]; rfl) rfl (.inr rfl) rfl km rfl rfl ?_
  simp only [Tryd.ntmps4, Tryd.results4, push_cast, seval, acds_length]
  refine GoL_call rfl (by simp only [push_cast, seval, ht]) kh rfl rfl ?_
  simp only [Tryd.ntmps4, Tryd.results4, push_cast, seval, acds_length, h0, fils_length]
  refine GoL_call rfl (by simp only [push_cast, seval, fils_length, fils_take]) k1 (by simp only [push_cast, seval]) rfl ?_
  simp only [Tryd.ntmps4, Tryd.results4, push_cast, seval, fils_length]
  refine GoL_call rfl (by simp only [push_cast, seval, fils_length, fils_take]) kI (by simp only [push_cast, seval]) rfl ?_
  simp only [Tryd.ntmps4, Tryd.results4, push_cast, seval, acds_length]
  refine GoL_call rfl (by simp only [push_cast, seval, acds_take]) kq rfl rfl ?_
  simp only [Tryd.ntmps4, Tryd.results4, push_cast, seval]
  refine GoL_call rfl (by simp only [push_cast, seval, ht]) kh rfl rfl ?_
  simp only [Tryd.ntmps4, Tryd.results4, push_cast, seval, acds_length, h0]
theorem lawShedActs (xs : List X) (h : HasXs [.st [.sl 3 40 (.st [.str, .str, .int .i64])]] xs) : PureFn Tryd.prog 4 xs [.one (.v (.bool true))] := by
  obtain ⟨x, _, rfl, hx, rfl⟩ := h
  obtain ⟨l, rfl, hl⟩ := disk_arg hx
  exact lawShedActs_ok l hl
end Go.Proofs.YtennhlaibefacaaDoor

