/- Disks as a law's arguments. -/
import Derived.Test.YtlbmojbkmcpnaaaGreatDoorO12
namespace Go.Proofs.YtlbmojbkmcpnaaaGreatDoor
open Go.RowKit Go.Rx
set_option linter.unusedSimpArgs false
set_option maxRecDepth 100000

theorem szDisk_ok (l : List Fil) (hl : filSm l) (n : Int) (h0 : -1 ≤ n) (h1 : n ≤ 1048576) :
    ∃ r, -1 ≤ r ∧ r ≤ n ∧ (0 ≤ r → l.length ≤ 1048576) ∧ PureFn Tryz.prog 5 [.agg [.sh 3 (vR (fils l))], i64 n] [i64 r] := by
  obtain ⟨r, a1, a2, a3, k⟩ := szFileS_ok l hl n h0 h1
  refine ⟨r, a1, a2, a3, ?_⟩
  refine PureFn_of_Go Tryz.func5 rfl (by decide) mo (by decide +kernel) ?_
  simp only [Tryz.ntmps5, Tryz.results5, push_cast, seval, fils_length]
  refine GoL_call rfl (by simp only [push_cast, seval, fils_length, fils_take]) k rfl rfl ?_
  by_cases c : r < 0
  · obtain rfl : r = -1 := by omega
    simp only [Tryz.ntmps5, Tryz.results5, push_cast, seval]
  · simp only [Tryz.ntmps5, Tryz.results5, push_cast, seval, c]
theorem toDisk_ok (l : List Fil) (hl : l.length ≤ 1048576) : PureFn Tryz.prog 7 [.agg [.sh 3 (vR (fils l))]] [.agg [.own 3 (vR (fils l))]] := by
  refine PureFn_of_Go Tryz.func7 rfl (by decide) mo (by decide +kernel) ?_
  have k := toFileS_ok l hl
  simp only [Tryz.ntmps7, Tryz.results7, push_cast, seval, fils_length]
  refine GoL_call rfl (by simp only [push_cast, seval, fils_length, fils_take]) k (by simp only [push_cast, seval]) rfl ?_
  simp only [Tryz.ntmps7, Tryz.results7, push_cast, seval, fils_length, fils_take]
theorem eqDisk_ok (l : List Fil) (hl : l.length ≤ 1048576) : PureFn Tryz.prog 11 [.agg [.sh 3 (vR (fils l))], .agg [.sh 3 (vR (fils l))]] [bo true] := by
  refine PureFn_of_Go Tryz.func11 rfl (by decide) mo (by decide +kernel) ?_
  simp only [Tryz.ntmps11, Tryz.results11, push_cast, seval, fils_length]
  refine GoL_call rfl (by simp only [push_cast, seval, fils_length, fils_take]) (eqFileS_ok l hl) rfl rfl ?_
  simp only [Tryz.ntmps11, Tryz.results11, push_cast, seval]
theorem markDisk_ok (l : List Fil) (hl : l.length ≤ 1048576) (k : Nat) (hk : 0 < k) (hk2 : k ≤ 1073741824) (e : Nat) (he : e = k + 3 * l.length) :
    IoFn2 Tryz.prog 12 .sl 3 (fils l) [.agg [.rs ioR [] 3 0 l.length], i64 k] (fils (marksFile k l.length)) [i64 e] := by
  have hlen : (fils (marksFile k l.length)).length = (fils l).length := by rw [fils_length, fils_length, marksFile_length]
  refine IoFn2_of_Go Tryz.func12 rfl (by decide) mo (by decide +kernel) (ioOk_sl filV (fun _ => rfl) l) (ioOk_sl filV (fun _ => rfl) (marksFile k l.length)) hlen ?_
  have km := markFileS_ok l hl k hk hk2 e he
  simp only [Tryz.ntmps12, Tryz.results12, push_cast, seval]
  refine GoL_io (0, 1) .sl 3 (fils l) rfl rfl (by rw [fils_length]; rfl) rfl (.inr rfl) rfl km rfl rfl ?_
  simp only [Tryz.ntmps12, Tryz.results12, push_cast, seval]
theorem fils_dec (R : List (List C)) (h : ∀ r ∈ R, HasKt (.st [.str, .str, .int .i64]) r) : ∃ l : List Fil, R = vR (fils l) ∧ ∀ a ∈ l, a.small := by
  obtain ⟨xs, rfl, hx⟩ := rows_dec filC Fil.small (K := .st [.str, .str, .int .i64]) (fun r hr => by
    simp only [HasKt, HasKts] at hr
    obtain ⟨_, _, rfl, ⟨a, rfl, ha⟩, _, _, rfl, ⟨b, rfl, hb⟩, _, _, rfl, ⟨c, rfl, _⟩, rfl⟩ := hr
    exact ⟨⟨a, b, c⟩, rfl, Nat.le_trans ha (by decide), Nat.le_trans hb (by decide)⟩) R h
  exact ⟨xs, by simp [vR, fils, filV, filC], hx⟩
theorem disk_arg {x : X} (h : HasX (.st [.sl 3 40 (.st [.str, .str, .int .i64])]) x) : ∃ l, x = .agg [.sh 3 (vR (fils l))] ∧ filSm l := by
  simp only [HasX, HasKts, HasKt, reachBytes] at h
  obtain ⟨cs, rfl, _, _, rfl, ⟨R, rfl, h1, _, h2⟩, rfl⟩ := h
  obtain ⟨l, rfl, h3⟩ := fils_dec R (fun r hr => by simp only [HasKt, HasKts]; exact h2 r hr)
  rw [vR_length, fils_length] at h1
  exact ⟨l, rfl, by omega, h3⟩
end Go.Proofs.YtlbmojbkmcpnaaaGreatDoor

