/- NewestSnap: the law. -/
import Derived.Test.YtennhlaibefacaaDoorK7
namespace Go.Proofs.YtennhlaibefacaaDoor
open Go.RowKit Go.Rx
set_option linter.unusedSimpArgs false
set_option maxRecDepth 100000

theorem szDisk_ok (l : List Fil) (hl : filSm l) (n : Int) (h0 : -1 ≤ n) (h1 : n ≤ 1048576) :
    ∃ r, -1 ≤ r ∧ r ≤ n ∧ (0 ≤ r → l.length ≤ 1048576) ∧ PureFn Tryd.prog 5 [.agg [.sh 3 (vR (fils l))], i64 n] [i64 r] := by
  obtain ⟨r, a1, a2, a3, k⟩ := szFileS_ok l hl n h0 h1
  refine ⟨r, a1, a2, a3, ?_⟩
  refine PureFn_of_Go Tryd.func5 rfl (by decide) mo (by decide +kernel) ?_
  simp only [Tryd.ntmps5, Tryd.results5, push_cast, seval, fils_length]
  refine GoL_call rfl (by simp only [push_cast, seval, fils_length, fils_take]) k rfl rfl ?_
  by_cases c : r < 0
  · obtain rfl : r = -1 := by omega
    simp only [Tryd.ntmps5, Tryd.results5, push_cast, seval]
  · simp only [Tryd.ntmps5, Tryd.results5, push_cast, seval, c]
theorem toDisk_ok (l : List Fil) (hl : l.length ≤ 1048576) : PureFn Tryd.prog 7 [.agg [.sh 3 (vR (fils l))]] [.agg [.own 3 (vR (fils l))]] := by
  refine PureFn_of_Go Tryd.func7 rfl (by decide) mo (by decide +kernel) ?_
  have k := toFileS_ok l hl
  simp only [Tryd.ntmps7, Tryd.results7, push_cast, seval, fils_length]
  refine GoL_call rfl (by simp only [push_cast, seval, fils_length, fils_take]) k (by simp only [push_cast, seval]) rfl ?_
  simp only [Tryd.ntmps7, Tryd.results7, push_cast, seval, fils_length, fils_take]
theorem eqDisk_ok (l : List Fil) (hl : l.length ≤ 1048576) : PureFn Tryd.prog 10 [.agg [.sh 3 (vR (fils l))], .agg [.sh 3 (vR (fils l))]] [bo true] := by
  refine PureFn_of_Go Tryd.func10 rfl (by decide) mo (by decide +kernel) ?_
  simp only [Tryd.ntmps10, Tryd.results10, push_cast, seval, fils_length]
  refine GoL_call rfl (by simp only [push_cast, seval, fils_length, fils_take]) (eqFileS_ok l hl) rfl rfl ?_
  simp only [Tryd.ntmps10, Tryd.results10, push_cast, seval]
theorem markDisk_ok (l : List Fil) (hl : l.length ≤ 1048576) (k : Nat) (hk : 0 < k) (hk2 : k ≤ 1073741824) (e : Nat) (he : e = k + 3 * l.length) :
    IoFn2 Tryd.prog 11 .sl 3 (fils l) [.agg [.rs ioR [] 3 0 l.length], i64 k] (fils (marksFile k l.length)) [i64 e] := by
  have hlen : (fils (marksFile k l.length)).length = (fils l).length := by rw [fils_length, fils_length, marksFile_length]
  refine IoFn2_of_Go Tryd.func11 rfl (by decide) mo (by decide +kernel) (ioOk_sl filV (fun _ => rfl) l) (ioOk_sl filV (fun _ => rfl) (marksFile k l.length)) hlen ?_
  have km := markFileS_ok l hl k hk hk2 e he
  simp only [Tryd.ntmps11, Tryd.results11, push_cast, seval]
  refine GoL_io (0, 1) .sl 3 (fils l) rfl rfl (by rw [fils_length]; rfl) rfl (.inr rfl) rfl km rfl rfl ?_
  simp only [Tryd.ntmps11, Tryd.results11, push_cast, seval]
theorem fils_dec (R : List (List C)) (h : ∀ r ∈ R, HasKt (.st [.str, .str, .int .i64]) r) : ∃ l : List Fil, R = vR (fils l) ∧ ∀ a ∈ l, a.small := by
  obtain ⟨xs, rfl, hx⟩ := rows_dec filC Fil.small (K := .st [.str, .str, .int .i64]) (fun r hr => by
    simp only [HasKt, HasKts] at hr
    obtain ⟨_, _, rfl, ⟨a, rfl, ha⟩, _, _, rfl, ⟨b, rfl, hb⟩, _, _, rfl, ⟨c, rfl, _⟩, rfl⟩ := hr
    exact ⟨⟨a, b, c⟩, rfl, Nat.le_trans ha (by decide), Nat.le_trans hb (by decide)⟩) R h
  exact ⟨xs, by simp [vR, fils, filV, filC], hx⟩
theorem nsS_conf {l : List Fil} : (nsS (nsO l)).conf.length ≤ 4 := by
  have h0 : (nsS none).conf.length ≤ 4 := Nat.zero_le _
  unfold nsO
  split
  · have : ∀ i, (nsS (nsTo l i)).conf.length ≤ 4 := by
      intro i
      induction i with
      | zero => exact h0
      | succ i ih =>
        rw [nsTo]
        unfold stepN
        split
        · rename_i hg
          have hs : (snOf (fAt l i)).conf.length ≤ 4 := by
            have := (good_name hg).2.1
            simp only [sOk, Bool.and_eq_true] at this
            exact confB_len (sOk_conf this.1.2).1
          split
          · exact hs
          · split
            · exact hs
            · rename_i x hx _; rw [hx] at ih; exact ih
        · exact ih
    exact this _
  · exact h0

set_option maxHeartbeats 1000000 in
theorem lawNewestSnap_ok (l : List Fil) (hl : filSm l) : PureFn Tryd.prog 3 [.agg [.sh 3 (vR (fils l))]] [bo true] := by
  refine PureFn_of_Go Tryd.func3 rfl (by decide) mo (by decide +kernel) ?_
  obtain ⟨r, a1, a2, a3, k0⟩ := szDisk_ok l hl 1048576 (by decide) (by decide)
  by_cases c0 : r < 0
  · simp only [Tryd.ntmps3, Tryd.results3, push_cast, seval, fils_length]
    refine GoL_call rfl (by simp only [push_cast, seval, fils_length, fils_take]) k0 rfl rfl ?_
    simp only [Tryd.ntmps3, Tryd.results3, push_cast, seval, c0]
  have hlen := a3 (by omega)
  have k1 := toDisk_ok l hlen
  have kS := newestS_ok l hl
  have kI := newestI_ok l hl
  have kE := eqDisk_ok l hlen
  obtain ⟨e1, he1⟩ : ∃ e1, e1 = 1 + 3 * l.length := ⟨_, rfl⟩
  have kM := markDisk_ok l hlen 1 (by decide) (by decide) e1 he1
  rw [show ((1 : Nat) : Int) = 1 from rfl] at kM
  have h1 : ¬ ((e1 : Int) < 0) := by omega
  have hc := nsS_conf (l := l)
  unfold nsX at kS kI
  obtain ⟨b, hb⟩ : ∃ b, b = (nsO l).isSome := ⟨_, rfl⟩
  rw [← hb] at kS kI
  generalize nsS (nsO l) = x at kS kI hc
  have kq := eqSnap_ok x (by omega)
  obtain ⟨e, he⟩ : ∃ e, e = 1 + x.conf.length := ⟨_, rfl⟩
  have km := markSnap_ok x.idx x.term x.body x.conf (by omega) 1 (by decide) e he
  have kh := heldSnap_ok x.idx x.term x.body 1 x.conf.length (by omega) (by decide) e he
  rw [show ((1 : Nat) : Int) = 1 from rfl] at kh
  have h0 : ¬ ((e : Int) < 0) := by omega
  have ht := ints_take (iotaL 1 x.conf.length)
  rw [iotaL_length] at ht
  simp only [Snp.enc] at kS kI kq
  simp only [Tryd.ntmps3, Tryd.results3, push_cast, seval, fils_length]
  refine GoL_call rfl (by simp only [push_cast, seval, fils_length, fils_take]) k0 rfl rfl ?_
  simp only [Tryd.ntmps3, Tryd.results3, push_cast, seval, c0, fils_length]
  refine GoL_call rfl (by simp only [push_cast, seval, fils_length, fils_take]) k1 (by simp only [push_cast, seval]) rfl ?_
  simp only [Tryd.ntmps3, Tryd.results3, push_cast, seval, fils_length]
  refine GoL_call rfl (by simp only [push_cast, seval, fils_length, fils_take]) kS (by simp only [push_cast, seval]) rfl ?_
  simp only [Tryd.ntmps3, Tryd.results3, push_cast, seval, fils_length, ints_length]
  refine GoL_call rfl (by simp only [push_cast, seval, fils_length, fils_take]) k1 (by simp only [push_cast, seval]) rfl ?_
  simp only [Tryd.ntmps3, Tryd.results3, push_cast, seval, fils_length]
  refine GoL_call rfl (by simp only [push_cast, seval, fils_length, fils_take]) kI (by simp only [push_cast, seval]) rfl ?_
  simp only [Tryd.ntmps3, Tryd.results3, push_cast, seval, ints_length]
  refine GoL_call rfl (by simp only [push_cast, seval, ints_take]) kq rfl rfl ?_
  simp only [Tryd.ntmps3, Tryd.results3, push_cast, seval, fils_length]
  refine GoD_call rfl (by simp only [push_cast, seval, fils_length, fils_take]) k1 (by simp only [push_cast, seval]) rfl ?_
  simp only [Tryd.ntmps3, Tryd.results3, push_cast, seval, fils_length]
  refine GoD_call rfl (by simp only [push_cast, seval, fils_length, fils_take]) kE rfl rfl ?_
  simp only [Tryd.ntmps3, Tryd.results3, push_cast, seval, fils_length]
  refine GoL_io2 (0, 1664) .sl 3 (fils l) rfl rfl (.inr rfl) rfl kM rfl rfl ?_
  simp only [Tryd.ntmps3, Tryd.results3, push_cast, seval, fils_length, ints_length, h1]
  refine GoL_call rfl (by simp only [push_cast, seval, ints_take]) kq rfl rfl ?_
  simp only [Tryd.ntmps3, Tryd.results3, push_cast, seval]
  refine GoL_io2 (0, 1858) .sl 1 (ints x.conf) rfl rfl (.inr rfl) rfl km rfl rfl ?_
  simp only [Tryd.ntmps3, Tryd.results3, push_cast, seval, ints_length]
  refine GoL_call rfl (by simp only [push_cast, seval, ht]) kh rfl rfl ?_
  simp only [Tryd.ntmps3, Tryd.results3, push_cast, seval, ints_length, h0, fils_length]
  refine GoL_call rfl (by simp only [push_cast, seval, fils_length, fils_take]) k1 (by simp only [push_cast, seval]) rfl ?_
  simp only [Tryd.ntmps3, Tryd.results3, push_cast, seval, fils_length]
  refine GoL_call rfl (by simp only [push_cast, seval, fils_length, fils_take]) kI (by simp only [push_cast, seval]) rfl ?_
  simp only [Tryd.ntmps3, Tryd.results3, push_cast, seval, ints_length]
  refine GoL_call rfl (by simp only [push_cast, seval, ints_take]) kq rfl rfl ?_
  simp only [Tryd.ntmps3, Tryd.results3, push_cast, seval]
  refine GoL_call rfl (by simp only [push_cast, seval, ht]) kh rfl rfl ?_
  simp only [Tryd.ntmps3, Tryd.results3, push_cast, seval, ints_length, h0]
theorem disk_arg {x : X} (h : HasX (.st [.sl 3 40 (.st [.str, .str, .int .i64])]) x) : ∃ l, x = .agg [.sh 3 (vR (fils l))] ∧ filSm l := by
  simp only [HasX, HasKts, HasKt, reachBytes] at h
  obtain ⟨cs, rfl, _, _, rfl, ⟨R, rfl, h1, _, h2⟩, rfl⟩ := h
  obtain ⟨l, rfl, h3⟩ := fils_dec R (fun r hr => by simp only [HasKt, HasKts]; exact h2 r hr)
  rw [vR_length, fils_length] at h1
  exact ⟨l, rfl, by omega, h3⟩
theorem lawNewestSnap (xs : List X) (h : HasXs [.st [.sl 3 40 (.st [.str, .str, .int .i64])]] xs) : PureFn Tryd.prog 3 xs [.one (.v (.bool true))] := by
  obtain ⟨x, _, rfl, hx, rfl⟩ := h
  obtain ⟨l, rfl, hl⟩ := disk_arg hx
  exact lawNewestSnap_ok l hl
end Go.Proofs.YtennhlaibefacaaDoor

