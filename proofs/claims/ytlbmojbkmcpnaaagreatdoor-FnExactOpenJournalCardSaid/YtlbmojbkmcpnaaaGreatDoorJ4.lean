/- Logs: one more entry. -/
import Derived.Test.YtlbmojbkmcpnaaaGreatDoorJ3
namespace Go.Proofs.YtlbmojbkmcpnaaaGreatDoor
open Go.RowKit Go.Rx
set_option linter.unusedSimpArgs false
set_option maxRecDepth 100000

def putL (l : Lg) (index : Int) (e : Ent) : Lg := ⟨l.start, l.sterm, l.es.take (index - l.start - 1).toNat ++ [e]⟩
def putB (l : Lg) (index : Int) (e : Ent) : Bool := (logB l && inR index (l.start + 1) (l.start + (l.es.length : Int) + 1)) && logB (putL l index e)
def lgZ : List C := [.v (.int .i64 0), .v (.int .i64 0), .v (.slice none 0 0)]
def putX (l : Lg) (index : Int) (e : Ent) : List X := if putB l index e then [.agg (lgC (putL l index e) (.own 3 (vR (ents (putL l index e).es)))), bo true] else [.agg lgZ, bo false]
theorem logB_spec {l : Lg} (h : logB l = true) : 0 ≤ l.start ∧ l.start ≤ 1000000 ∧ l.es.length ≤ 60 ∧ l.start + (l.es.length : Int) ≤ 1000000 := by
  simp only [logB, Bool.and_eq_true, decide_eq_true_eq, inR_spec] at h
  omega
theorem lastI_ok (l : Lg) (h : l.es.length ≤ 1048576) (h1 : 0 ≤ l.start) (h2 : l.start ≤ 1000000) : PureFn Tryz.prog 129 [.one (.ps (lgC l (.sh 3 (vR (ents l.es)))))] [i64 (l.start + l.es.length)] := by
  refine PureFn_of_Go Tryz.func129 rfl (by decide) mo (by decide +kernel) ?_
  have hw : IntKind.i64.wrap (l.start + (l.es.length : Int)) = l.start + (l.es.length : Int) := w64 (by omega) (by omega)
  simp only [Tryz.ntmps129, Tryz.results129, push_cast, seval, lgC, ents_length, hw]
theorem lastS_ok (l : Lg) (h : l.es.length ≤ 1048576) (h1 : 0 ≤ l.start) (h2 : l.start ≤ 1000000) : PureFn Tryz.prog 122 [.agg (lgC l (.sh 3 (vR (ents l.es))))] [i64 (l.start + l.es.length)] := by
  refine PureFn_of_Go Tryz.func122 rfl (by decide) mo (by decide +kernel) ?_
  have hw : IntKind.i64.wrap (l.start + (l.es.length : Int)) = l.start + (l.es.length : Int) := w64 (by omega) (by omega)
  simp only [Tryz.ntmps122, Tryz.results122, push_cast, seval, lgC, ents_length, hw]
theorem fine_put {l : Lg} (h : fineE l.es) (index : Int) (e : Ent) (he : e.data.size ≤ 140737488355328) (h60 : l.es.length ≤ 60) : fineE (putL l index e).es := by
  obtain ⟨h1, h2⟩ := h
  refine ⟨?_, fun x hx => ?_⟩
  · show (l.es.take _ ++ [e]).length ≤ _
    rw [List.length_append, List.length_take]
    simp only [List.length_cons, List.length_nil]; omega
  · have hx' : x ∈ l.es.take (index - l.start - 1).toNat ++ [e] := hx
    rw [List.mem_append] at hx'
    rcases hx' with hx' | hx'
    · exact h2 x (List.mem_of_mem_take hx')
    · rw [List.mem_singleton.1 hx']; exact he
set_option maxHeartbeats 1000000 in
theorem logPutI_ok (l : Lg) (h : fineE l.es) (index : Int) (e : Ent) (he : e.data.size ≤ 140737488355328) :
    PureFn Tryz.prog 111 [.agg (lgC l (.sh 3 (vR (ents l.es)))), i64 index, .agg (entC e.term e.kind e.data)] (putX l index e) := by
  refine PureFn_of_Go Tryz.func111 rfl (by decide) mo (by decide +kernel) ?_
  have k1 := logOkI_ok l h
  simp only [Tryz.ntmps111, Tryz.results111, push_cast, seval, lgC, entC]
  refine GoD_call rfl rfl k1 rfl rfl ?_
  cases c1 : logB l with
  | false =>
    rw [show putX l index e = [.agg lgZ, bo false] by simp [putX, putB, c1]]
    simp only [Tryz.ntmps111, Tryz.results111, push_cast, seval, lgZ]
  | true =>
    obtain ⟨a1, a2, a3, a4⟩ := logB_spec c1
    have k2 := lastI_ok l (by omega) a1 a2
    have w1 : IntKind.i64.wrap (l.start + 1) = l.start + 1 := w64 (by omega) (by omega)
    have w2 : IntKind.i64.wrap (l.start + (l.es.length : Int) + 1) = l.start + (l.es.length : Int) + 1 := w64 (by omega) (by omega)
    have k3 := inRange_ok index (l.start + 1) (l.start + (l.es.length : Int) + 1)
    rw [show (decide (l.start + 1 ≤ index) && decide (index ≤ l.start + (l.es.length : Int) + 1)) = inR index (l.start + 1) (l.start + (l.es.length : Int) + 1) from rfl] at k3
    simp only [Tryz.ntmps111, Tryz.results111, push_cast, seval, w1]
    refine GoD_call rfl (by simp only [push_cast, seval, lgC, toSh]) k2 rfl rfl ?_
    simp only [Tryz.ntmps111, Tryz.results111, push_cast, seval, w2]
    refine GoD_call rfl rfl k3 rfl rfl ?_
    cases c2 : inR index (l.start + 1) (l.start + (l.es.length : Int) + 1) with
    | false =>
      rw [show putX l index e = [.agg lgZ, bo false] by simp [putX, putB, c1, c2]]
      simp only [Tryz.ntmps111, Tryz.results111, push_cast, seval, lgZ]
    | true =>
      have b := inR_spec.1 c2
      have k4 := copyLog_ok l h
      simp only [lgC] at k4
      simp only [Tryz.ntmps111, Tryz.results111, push_cast, seval]
      refine GoL_call rfl rfl k4 (by simp only [push_cast, seval]) rfl ?_
      obtain ⟨m, hm⟩ : ∃ m, m = (index - l.start - 1).toNat := ⟨_, rfl⟩
      have w3 : IntKind.i64.wrap (index - l.start) = index - l.start := w64 (by omega) (by omega)
      have w4 : IntKind.i64.wrap (index - l.start - 1) = (m : Int) := wN (by omega) (by omega)
      have hml : m ≤ l.es.length := by omega
      have a0 : m + 1 ≤ 4294967296 := by omega
      have r1 := max_len a0
      have r2 := room_le (b := 32) a0 (by decide)
      have hput : putL l index e = ⟨l.start, l.sterm, l.es.take m ++ [e]⟩ := by rw [putL, ← hm]
      have hfin := fine_put h index e he a3
      have k5 := logOkI_ok (putL l index e) hfin
      have hpl : (l.es.take m ++ [e]).length = m + 1 := by rw [List.length_append, List.length_take]; simp only [List.length_cons, List.length_nil]; omega
      have hR : (vR (ents l.es)).take m ++ [[C.v (.int .i64 e.term), .v (.int .i64 e.kind), .v (.string e.data)]] = vR (ents (l.es.take m ++ [e])) := by
        simp [vR, ents, entV]
      have htk := ents_take (l.es.take m ++ [e])
      have hel := ents_length (l.es.take m ++ [e])
      rw [hpl] at htk hel
      rw [hput] at k5
      simp only [lgC] at k5
      have hm0 : m - 0 = m := Nat.sub_zero m
      by_cases hme : m = l.es.length
      · subst hme
        rw [List.take_of_length_le (by rw [vR_length, ents_length]; exact Nat.le_refl _), List.take_of_length_le (Nat.le_refl _)] at hR
        rw [List.take_of_length_le (Nat.le_refl _)] at hput hpl htk k5 hel
        simp only [Tryz.ntmps111, Tryz.results111, push_cast, seval, w3, w4, ents_length, hml, Nat.zero_le, hm0, r1, r2, hR]
        refine GoL_call rfl (by simp only [push_cast, seval, htk]) k5 rfl rfl ?_
        cases c3 : logB ⟨l.start, l.sterm, l.es ++ [e]⟩ with
        | false =>
          rw [show putX l index e = [.agg lgZ, bo false] by simp [putX, putB, c1, c2, hput, c3]]
          simp only [Tryz.ntmps111, Tryz.results111, push_cast, seval, lgZ]
        | true =>
          rw [show putX l index e = [.agg (lgC ⟨l.start, l.sterm, l.es ++ [e]⟩ (.own 3 (vR (ents (l.es ++ [e]))))), bo true] by simp [putX, putB, c1, c2, hput, c3]]
          simp only [Tryz.ntmps111, Tryz.results111, push_cast, seval, lgC, htk, hel]
      · have hlt : m < l.es.length := by omega
        simp only [Tryz.ntmps111, Tryz.results111, push_cast, seval, w3, w4, ents_length, hml, Nat.zero_le, hm0, hme]
        rw [show @appendS' = @appendS from rfl, append_cut (e := 84) (zs := [.int .i64 0, .int .i64 0, .string ⟨#[]⟩]) (s := 3) (bytes := 32) (szx := 3) (sz2 := 3) (X := [[.v (.int .i64 e.term), .v (.int .i64 e.kind), .v (.string e.data)]]) (R := vR (ents l.es)) (h0 := by simp only [push_cast, seval]) (h1 := by simp only [push_cast, seval]) (h2 := by simp only [push_cast, seval]) (h3 := by simp only [push_cast, seval]) (h4 := by simp only [push_cast, seval]) (h5 := by simp only [push_cast, seval]) (hc := ?_)]
        · simp only [Tryz.ntmps111, Tryz.results111, push_cast, seval, hR]
          refine GoL_call rfl (by simp only [push_cast, seval, htk]) k5 rfl rfl ?_
          cases c3 : logB ⟨l.start, l.sterm, l.es.take m ++ [e]⟩ with
          | false =>
            rw [show putX l index e = [.agg lgZ, bo false] by simp [putX, putB, c1, c2, hput, c3]]
            simp only [Tryz.ntmps111, Tryz.results111, push_cast, seval, lgZ]
          | true =>
            rw [show putX l index e = [.agg (lgC ⟨l.start, l.sterm, l.es.take m ++ [e]⟩ (.own 3 (vR (ents (l.es.take m ++ [e]))))), bo true] by simp [putX, putB, c1, c2, hput, c3]]
            simp only [Tryz.ntmps111, Tryz.results111, push_cast, seval, lgC, htk, hel]
        · simp only [push_cast, seval, ents_length, hml, ents_flat, r1, r2]
set_option maxHeartbeats 1000000 in
theorem logPutS_ok (l : Lg) (h : fineE l.es) (index : Int) (e : Ent) (he : e.data.size ≤ 140737488355328) :
    PureFn Tryz.prog 102 [.agg (lgC l (.sh 3 (vR (ents l.es)))), i64 index, .agg (entC e.term e.kind e.data)] (putX l index e) := by
  refine PureFn_of_Go Tryz.func102 rfl (by decide) mo (by decide +kernel) ?_
  have k1 := logOkS_ok l h
  simp only [Tryz.ntmps102, Tryz.results102, push_cast, seval, lgC, entC]
  refine GoD_call rfl rfl k1 rfl rfl ?_
  cases c1 : logB l with
  | false =>
    rw [show putX l index e = [.agg lgZ, bo false] by simp [putX, putB, c1]]
    simp only [Tryz.ntmps102, Tryz.results102, push_cast, seval, lgZ]
  | true =>
    obtain ⟨a1, a2, a3, a4⟩ := logB_spec c1
    have k2 := lastS_ok l (by omega) a1 a2
    have w1 : IntKind.i64.wrap (l.start + 1) = l.start + 1 := w64 (by omega) (by omega)
    have w2 : IntKind.i64.wrap (l.start + (l.es.length : Int) + 1) = l.start + (l.es.length : Int) + 1 := w64 (by omega) (by omega)
    have k3 := l01In_ok index (l.start + 1) (l.start + (l.es.length : Int) + 1)
    rw [show (decide (l.start + 1 ≤ index) && decide (index ≤ l.start + (l.es.length : Int) + 1)) = inR index (l.start + 1) (l.start + (l.es.length : Int) + 1) from rfl] at k3
    simp only [lgC] at k2
    simp only [Tryz.ntmps102, Tryz.results102, push_cast, seval, w1]
    refine GoD_call rfl (by simp only [push_cast, seval, lgC, toSh]) k2 rfl rfl ?_
    simp only [Tryz.ntmps102, Tryz.results102, push_cast, seval, w2]
    refine GoD_call rfl rfl k3 rfl rfl ?_
    cases c2 : inR index (l.start + 1) (l.start + (l.es.length : Int) + 1) with
    | false =>
      rw [show putX l index e = [.agg lgZ, bo false] by simp [putX, putB, c1, c2]]
      simp only [Tryz.ntmps102, Tryz.results102, push_cast, seval, lgZ]
    | true =>
      have b := inR_spec.1 c2
      obtain ⟨m, hm⟩ : ∃ m, m = (index - l.start - 1).toNat := ⟨_, rfl⟩
      have w3 : IntKind.i64.wrap (index - l.start) = index - l.start := w64 (by omega) (by omega)
      have w4 : IntKind.i64.wrap (index - l.start - 1) = (m : Int) := wN (by omega) (by omega)
      have hml : m ≤ l.es.length := by omega
      have a0 : m + 1 ≤ 4294967296 := by omega
      have r1 := max_len a0
      have r2 := room_le (b := 32) a0 (by decide)
      have a00 : 0 + m ≤ 4294967296 := by omega
      have r3 := max_len a00
      have r4 := room_le (b := 32) a00 (by decide)
      have hput : putL l index e = ⟨l.start, l.sterm, l.es.take m ++ [e]⟩ := by rw [putL, ← hm]
      have hfin := fine_put h index e he a3
      have k5 := logOkS_ok (putL l index e) hfin
      have hpl : (l.es.take m ++ [e]).length = m + 1 := by rw [List.length_append, List.length_take]; simp only [List.length_cons, List.length_nil]; omega
      have hR : (vR (ents l.es)).take m ++ [[C.v (.int .i64 e.term), .v (.int .i64 e.kind), .v (.string e.data)]] = vR (ents (l.es.take m ++ [e])) := by
        simp [vR, ents, entV]
      have htk := ents_take (l.es.take m ++ [e])
      have hel := ents_length (l.es.take m ++ [e])
      rw [hpl] at htk hel
      rw [hput] at k5
      simp only [lgC] at k5
      have hm0 : m - 0 = m := Nat.sub_zero m
      have hml2 : ((vR (ents l.es)).take m).length = m := by rw [List.length_take, vR_length, ents_length]; omega
      have hfl : flatRows ((vR (ents l.es)).take m) = true := flatRows_take (ents_flat l.es) m
      simp only [Tryz.ntmps102, Tryz.results102, push_cast, seval, w3, w4, ents_length, hml, Nat.zero_le, hm0]
      refine GoK_append (e := 84) (zs := [.int .i64 0, .int .i64 0, .string ⟨#[]⟩]) (s := 3) (bytes := 32) (len := 0) (R := []) (X := (vR (ents l.es)).take m) (by simp) (by simp only [push_cast, seval]) (by simp only [push_cast, seval]) (by simp only [push_cast, seval]) (by simp only [push_cast, seval]) rfl (by decide) rfl rfl rfl (by simp only [push_cast, seval]) hfl (by rw [hml2]; exact r3) (by rw [hml2]; exact r4) rfl (by simp only [push_cast, seval]) ?_
      rw [hml2, List.nil_append, Nat.zero_add]
      simp only [Tryz.ntmps102, Tryz.results102, push_cast, seval]
      refine GoK_append (e := 84) (zs := [.int .i64 0, .int .i64 0, .string ⟨#[]⟩]) (s := 3) (bytes := 32) (len := m) (R := (vR (ents l.es)).take m) (X := [[.v (.int .i64 e.term), .v (.int .i64 e.kind), .v (.string e.data)]]) (by simp) (by simp only [push_cast, seval]) (by simp only [push_cast, seval]) (by simp only [push_cast, seval]) (by simp only [push_cast, seval]) rfl (by decide) rfl rfl hml2 (by simp only [push_cast, seval]) rfl r1 r2 rfl (by simp only [push_cast, seval]) ?_
      rw [hR]
      simp only [Tryz.ntmps102, Tryz.results102, push_cast, seval]
      refine GoL_call rfl (by simp only [push_cast, seval, htk]) k5 rfl rfl ?_
      cases c3 : logB ⟨l.start, l.sterm, l.es.take m ++ [e]⟩ with
      | false =>
        rw [show putX l index e = [.agg lgZ, bo false] by simp [putX, putB, c1, c2, hput, c3]]
        simp only [Tryz.ntmps102, Tryz.results102, push_cast, seval, lgZ]
      | true =>
        rw [show putX l index e = [.agg (lgC ⟨l.start, l.sterm, l.es.take m ++ [e]⟩ (.own 3 (vR (ents (l.es.take m ++ [e]))))), bo true] by simp [putX, putB, c1, c2, hput, c3]]
        simp only [Tryz.ntmps102, Tryz.results102, push_cast, seval, lgC, htk, hel]
end Go.Proofs.YtlbmojbkmcpnaaaGreatDoor

