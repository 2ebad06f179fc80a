/- Frames of entries: what both ways rest on. -/
import Derived.Test.YtlbmojbkmcpnaaaGreatDoorB1
namespace Go.Proofs.YtlbmojbkmcpnaaaGreatDoor
open Go.RowKit Go.Rx
set_option linter.unusedSimpArgs false
set_option maxRecDepth 100000

theorem frame_ok (t : ByteArray) (ht : t.size ≤ 4000000000) : PureFn Tryz.prog 91 [st t] [st (frameB t)] := by
  refine PureFn_of_Go Tryz.func91 rfl (by decide) mo (by decide +kernel) ?_
  simp only [Tryz.ntmps91, Tryz.results91, push_cast, seval]
  refine GoL_call rfl rfl (varText_ok t.size (by omega)) rfl rfl ?_
  simp only [Tryz.ntmps91, Tryz.results91, push_cast, seval]
  refine GoL_call rfl rfl (sumText_ok t (by omega)) rfl rfl ?_
  have h1 := varB_size t.size
  have h2 := four_size (sumN t)
  have h3 : (varB t.size).size + (four (sumN t)).size ≤ 9223372036854775807 := by omega
  have h4 : (varB t.size ++ four (sumN t)).size + t.size ≤ 9223372036854775807 := by rw [ByteArray.size_append]; omega
  simp only [Tryz.ntmps91, Tryz.results91, push_cast, seval, h3, h4, frameB]
/-! ### octets -/
def oct8 (n : Int) : UInt8 := UInt8.ofNat (n % 256).toNat
theorem oct8_wrap (n : Int) : IntKind.u8.wrap n = ((oct8 n).toNat : Int) := by
  rw [IntKind.wrap_u8]; unfold oct8; simp; omega
theorem oct8_nat (b : UInt8) : oct8 (b.toNat : Int) = b := by
  apply UInt8.toNat_inj.1
  have := u8_lt b
  unfold oct8; simp; omega
def octB (l : List Int) : ByteArray := ⟨(l.map oct8).toArray⟩
theorem octB_list (l : List Int) : (octB l).data.toList = l.map oct8 := by simp [octB]
theorem octB_size (l : List Int) : (octB l).size = l.length := by simp [octB, ByteArray.size]
theorem octB_nats (s : ByteArray) : octB (natsL s) = s := by
  apply bytes_ext
  rw [octB_list, natsL, List.map_map]
  have : (oct8 ∘ fun b : UInt8 => (b.toNat : Int)) = id := funext fun b => oct8_nat b
  rw [this, List.map_id]
theorem oct_take (l : List Int) {i : Nat} (h : i < l.length) : (l.map oct8).take (i + 1) = (l.map oct8).take i ++ [oct8 (at_ l i)] := by
  rw [List.take_add_one, List.getElem?_map, List.getElem?_eq_getElem h]
  simp [at_, List.getD_eq_getElem?_getD, List.getElem?_eq_getElem h]
theorem octets_ok (l : List Int) (hl : l.length ≤ 1000000) : PureFn Tryz.prog 120 [.one (.sh 1 (vR (ints l)))] [st (octB l)] := by
  refine PureFn_of_Go Tryz.func120 rfl (by decide) mo (by decide +kernel) ?_
  obtain ⟨F, hF⟩ : ∃ F, F = l.map oct8 := ⟨_, rfl⟩
  have hFl : F.length = l.length := by rw [hF, List.length_map]
  have hfin : (⟨F.toArray⟩ : ByteArray) = octB l := by rw [hF]; rfl
  simp only [Tryz.ntmps120, Tryz.results120, push_cast, seval, ints_length]
  refine Go_loop (α := {i : Nat // i ≤ l.length})
    (fun i => ⟨tp 20 [(0, .x (.one (.sh 1 (vR (ints l))))), (3, .x (.one (.rs (0, 1024) [] 1 0 i.1))), (6, .x (.one (.sh 1 (vR (ints l))))), (7, int l.length), (8, int i.1)], 0, [((0, 1024), ⟨.sl, 1, byR (F.take i.1)⟩)], []⟩) (fun i => l.length - i.1) ⟨0, by omega⟩ ?_ ?_
  · refine Weak.trans (Weak.nilRoot (0, 1024) 1 3 rfl rfl rfl) ?_
    simp only [push_cast, seval, List.take_zero, byR_nil]
    exact Weak.same (by simp only [push_cast, seval, Int.ofNat_zero])
  · rintro ⟨i, hi⟩ X hX
    have hll : (byR (F.take i)).length = i := by rw [byR_length, List.length_take, hFl]; omega
    by_cases hlt : (i : Int) < (l.length : Int)
    · have hi' : i < l.length := by omega
      have ws := wsucc hi' (by omega)
      have hg := ints_getD l hi'
      rw [show l.getD i default = at_ l i from rfl] at hg
      have hw := oct8_wrap (at_ l i)
      have a0 : i + 1 ≤ 4294967296 := by omega
      have a1 := max_len a0
      have a2 := room_le (b := 1) a0 (by decide)
      have s1 := byR_snoc (F.take i) (oct8 (at_ l i))
      have e1 : F.take i ++ [oct8 (at_ l i)] = F.take (i + 1) := by rw [hF, oct_take l hi']
      rw [e1] at s1
      obtain ⟨y, hy⟩ : ∃ y, y = oct8 (at_ l i) := ⟨_, rfl⟩
      rw [← hy] at hw s1
      obtain ⟨x, hx⟩ : ∃ x, x = at_ l i := ⟨_, rfl⟩
      rw [← hx] at hg hw
      obtain ⟨i', hi1⟩ : ∃ i', i' = i + 1 := ⟨_, rfl⟩
      rw [← hi1] at ws s1
      simp only [push_cast, seval, ints_length, hlt, hi', vR_getD, hg, hw, hll, a1, a2, s1, ws]
      refine ⟨_, ?_, hX ⟨i', by omega⟩ (by simp only; omega)⟩
      exact Weak.drop (by simp only [push_cast, seval, hi1]) (by simp only [push_cast, seval, hi1]) (by simp only [push_cast, seval, hi1])
    · have hie : i = l.length := by omega
      have hft : F.take i = F := List.take_of_length_le (by rw [hFl, hie]; exact Nat.le_refl _)
      rw [hft] at hll
      have ht := byR_take F
      rw [byR_length] at hll
      rw [hll] at ht
      simp only [hft]
      simp only [Tryz.ntmps120, Tryz.results120, push_cast, seval, hlt, hll, ht, byR_length, hfin]

/-! ### an entry's text, by the program -/
theorem entryTextI_ok (index term kind : Nat) (hi : index ≤ 1000000000) (ht : term ≤ 1000000000) (data : ByteArray) (hd : data.size ≤ 140737488355328) : PureFn Tryz.prog 94 [i64 index, .agg (entC term kind data)] [st (etB index term kind data)] := by
  refine PureFn_of_Go Tryz.func94 rfl (by decide) mo (by decide +kernel) ?_
  have h1 := varB_size index
  have h2 := varB_size term
  have r1 : (⟨#[69]⟩ : ByteArray).size + (varB index).size ≤ 9223372036854775807 := by have e1 : (⟨#[69]⟩ : ByteArray).size = 1 := rfl; omega
  have r2 : (⟨#[69]⟩ ++ varB index).size + (varB term).size ≤ 9223372036854775807 := by have e1 : (⟨#[69]⟩ : ByteArray).size = 1 := rfl; rw [ByteArray.size_append]; omega
  have hk : PureFn Tryz.prog 120 [.one (.sh 1 [[.v (.int .i64 (kind : Int))]])] [st (octB [(kind : Int)])] := octets_ok [(kind : Int)] (by simp)
  have e2 : (octB [(kind : Int)]).size = 1 := octB_size _
  have hoct : octB [(kind : Int)] = ⟨[UInt8.ofNat kind].toArray⟩ := by
    unfold octB oct8
    have : UInt8.ofNat (((kind : Int) % 256).toNat) = UInt8.ofNat kind := by
      apply UInt8.toNat_inj.1
      simp
      omega
    simp [this]
  have r3 : ((⟨#[69]⟩ ++ varB index) ++ varB term).size + (octB [(kind : Int)]).size ≤ 9223372036854775807 := by have e1 : (⟨#[69]⟩ : ByteArray).size = 1 := rfl; rw [ByteArray.size_append, ByteArray.size_append]; omega
  have r4 : (((⟨#[69]⟩ ++ varB index) ++ varB term) ++ octB [(kind : Int)]).size + data.size ≤ 9223372036854775807 := by have e1 : (⟨#[69]⟩ : ByteArray).size = 1 := rfl; rw [ByteArray.size_append, ByteArray.size_append, ByteArray.size_append]; omega
  unfold etB
  rw [← hoct]
  generalize hq : octB [(kind : Int)] = q at *
  simp only [Tryz.ntmps94, Tryz.results94, push_cast, seval, entC]
  refine GoD_call rfl rfl (varText_ok index (by omega)) rfl rfl ?_
  simp only [Tryz.ntmps94, Tryz.results94, push_cast, seval, r1]
  refine GoD_call rfl rfl (varText_ok term (by omega)) rfl rfl ?_
  simp only [Tryz.ntmps94, Tryz.results94, push_cast, seval, r1, r2]
  refine GoD_call rfl rfl hk rfl rfl ?_
  simp only [Tryz.ntmps94, Tryz.results94, push_cast, seval, r1, r2, r3, r4]
end Go.Proofs.YtlbmojbkmcpnaaaGreatDoor

