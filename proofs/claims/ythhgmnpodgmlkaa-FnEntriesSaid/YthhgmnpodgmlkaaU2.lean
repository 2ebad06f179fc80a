/- Texts E9 E10 E11 E12 E13 E14 E15 E16 E17 E18 F3 E19 E20 E21 E22 E23 E24 E25, merged. -/
import Derived.Test.YthhgmnpodgmlkaaU1
namespace Go.Proofs.Ythhgmnpodgmlkaa
open Go.RowKit Go.Rx
set_option linter.unusedSimpArgs false
set_option maxRecDepth 100000
theorem ints_snoc (l : List Int) (x : Int) : vR (ints l) ++ [[C.v (.int .i64 x)]] = vR (ints (l ++ [x])) := by simp [vR, ints]
def freeB (l : List Tsk) (o : List Int) (t : Tsk) : Nat → Bool
  | 0 => true
  | k + 1 => freeB l o t k && memI o (atN l (afA t k))
def canB (l : List Tsk) (o : List Int) (i : Nat) : Bool := !memI o (i : Int) && freeB l o (l.getD i default) (l.getD i default).af.length
def pickO (l : List Tsk) (o : List Int) : List Int := match (List.range l.length).find? (canB l o) with
  | some i => o ++ [(i : Int)]
  | none => o
def ordA (l : List Tsk) : Nat → List Int
  | 0 => []
  | r + 1 => pickO l (ordA l r)
theorem pickO_len (l : List Tsk) (o : List Int) : (pickO l o).length ≤ o.length + 1 := by
  unfold pickO; split
  · rw [List.length_append]; exact Nat.le_refl _
  · omega
theorem ordA_len (l : List Tsk) : ∀ r, (ordA l r).length ≤ r
  | 0 => Nat.le_refl _
  | r + 1 => by have := ordA_len l r; have := pickO_len l (ordA l r); unfold ordA; omega
theorem pickO_hit {l : List Tsk} {o : List Int} {i : Nat} (hi : i < l.length) (hall : ∀ j, j < i → canB l o j = false) (h : canB l o i = true) : pickO l o = o ++ [(i : Int)] := by
  have : (List.range l.length).find? (canB l o) = some i := by
    rw [List.find?_range_eq_some]
    exact ⟨h, List.mem_range.2 hi, fun j hj => by rw [hall j hj]; rfl⟩
  rw [pickO, this]
theorem pickO_none {l : List Tsk} {o : List Int} (hall : ∀ j, j < l.length → canB l o j = false) : pickO l o = o := by
  have : (List.range l.length).find? (canB l o) = none := by
    rw [List.find?_eq_none]
    intro j hj
    rw [hall j (List.mem_range.1 hj)]; exact Bool.false_ne_true
  rw [pickO, this]
structure SmTs (l : List Tsk) : Prop where
  len : l.length ≤ 1048576
  af : ∀ i, i < l.length → (l.getD i default).af.length ≤ 1048576
set_option maxHeartbeats 2000000 in
theorem l12Order_ok (l : List Tsk) (hs : SmTs l) : PureFn Try.prog 167 [.one (.sh 5 (tkR shS l))] [.one (.own 1 (vR (ints (ordA l l.length))))] := by
  refine PureFn_of_GoW Try.func167 rfl (by decide) mo (by decide +kernel) ?_
  have hl := hs.len
  simp only [Try.ntmps167, Try.results167, push_cast, seval, tkR_length]
  refine Go_loop (α := {r : Nat // r ≤ l.length}) (fun r => ⟨tp 57 [(0, .x (.one (.sh 5 (tkR shS l)))), (3, .x (.one (.rs (0, 3392) [] 1 0 (ordA l r.1).length))), (4, int r.1)], 0, [((0, 3392), ⟨.sl, 1, vR (ints (ordA l r.1))⟩)], []⟩)
    (fun r => l.length - r.1) ⟨0, Nat.zero_le _⟩ ?_ ?_
  · refine Weak.trans (Weak.rename' (0, 512) (0, 3392) (Nat.le_refl _) (Nat.le_refl _) (by decide) rfl) ?_
    rw [show vR (ints (ordA l (⟨0, Nat.zero_le _⟩ : {r : Nat // r ≤ l.length}).1)) = [] from rfl]
    simp only [push_cast, seval, ren_vR', ordA]
    exact Weak.same (by simp only [push_cast, seval, Int.ofNat_zero])
  · rintro ⟨r, hr⟩ X hX
    simp only
    by_cases hlt : (r : Int) < (l.length : Int)
    · have hr' : r < l.length := by omega
      obtain ⟨r', hr1⟩ : ∃ r', r' = r + 1 := ⟨_, rfl⟩
      have wr : IntKind.i64.wrap ((r : Int) + 1) = (r' : Int) := wN (by omega) (by omega)
      have hlen := ordA_len l r
      have hstep : ordA l r' = pickO l (ordA l r) := by rw [hr1, ordA]
      obtain ⟨o, ho⟩ : ∃ o, o = ordA l r := ⟨_, rfl⟩
      rw [← ho] at hstep hlen ⊢
      have hol := ints_length o
      simp only [push_cast, seval, tkR_length, hlt]
      refine Go_loop (α := {p : Nat × List Int // p.1 ≤ l.length + 1 ∧ ((p.2 = o ∧ p.1 ≤ l.length ∧ ∀ j, j < p.1 → canB l o j = false) ∨ (p.2 = pickO l o ∧ p.1 = l.length + 1))}) (fun p => ⟨tp 57 [(0, .x (.one (.sh 5 (tkR shS l)))), (3, .x (.one (.rs (0, 3392) [] 1 0 p.1.2.length))), (4, int r), (5, int p.1.1)], 0, [((0, 3392), ⟨.sl, 1, vR (ints p.1.2)⟩)], []⟩)
        (fun p => l.length + 1 - p.1.1) ⟨(0, o), by omega, .inl ⟨rfl, by omega, fun j h => absurd h (Nat.not_lt_zero _)⟩⟩ ?_ ?_
      · exact Weak.same (by simp only [push_cast, seval, Int.ofNat_zero])
      · rintro ⟨⟨i, q⟩, hi, hq⟩ Y hY
        simp only at hi hq ⊢
        by_cases hit : (i : Int) < (l.length : Int)
        · have hi' : i < l.length := by omega
          obtain ⟨rfl, _, hall⟩ : q = o ∧ i ≤ l.length ∧ ∀ j, j < i → canB l o j = false := by
            rcases hq with h | ⟨_, h⟩
            · exact h
            · omega
          obtain ⟨i', hi1⟩ : ∃ i', i' = i + 1 := ⟨_, rfl⟩
          have wi : IntKind.i64.wrap ((i : Int) + 1) = (i' : Int) := wN (by omega) (by omega)
          have next : canB l q i = false → ∀ j, j < i' → canB l q j = false := fun h j hj => by
            by_cases e : j = i
            · subst e; exact h
            · exact hall j (by omega)
          have kI := l10In_ok q (by omega) (i : Int)
          simp only [push_cast, seval, tkR_length, hit]
          refine GoL_call rfl (by simp only [push_cast, seval, ← hol, vR_take, vR_ts]) kI rfl rfl ?_
          cases c1 : memI q (i : Int) with
          | true =>
            simp only [push_cast, seval, wi]
            refine ⟨_, ?_, hY ⟨(i', q), by omega, .inl ⟨rfl, by omega, next (by rw [canB, c1]; rfl)⟩⟩ (by simp only; omega)⟩
            exact Weak.same (by simp only [push_cast, seval])
          | false =>
            have hg := tkR_getD shS l hi'
            rw [tkC_eq] at hg
            have haf := hs.af i hi'
            have hcan : canB l q i = freeB l q (l.getD i default) (l.getD i default).af.length := by rw [canB, c1]; rfl
            have hhit := fun h => pickO_hit (l := l) (o := q) hi' hall h
            rw [hcan] at hhit next
            generalize l.getD i default = x at hg haf hhit next
            simp only [push_cast, seval]
            refine Go_loop (α := {k : Nat // k ≤ x.af.length}) (fun k => ⟨tp 57 [(0, .x (.one (.sh 5 (tkR shS l)))), (3, .x (.one (.rs (0, 3392) [] 1 0 q.length))), (4, int r), (5, int i), (6, .x (bo (freeB l q x k.1))), (7, int k.1)], 0, [((0, 3392), ⟨.sl, 1, vR (ints q)⟩)], []⟩)
              (fun k => x.af.length - k.1) ⟨0, Nat.zero_le _⟩ ?_ ?_
            · exact Weak.same (by simp only [push_cast, seval, Int.ofNat_zero, freeB])
            · rintro ⟨k, hk⟩ Z hZ
              simp only
              by_cases hkt : (k : Int) < (x.af.length : Int)
              · have hk' : k < x.af.length := by omega
                obtain ⟨k', hk1⟩ : ∃ k', k' = k + 1 := ⟨_, rfl⟩
                have wk : IntKind.i64.wrap ((k : Int) + 1) = (k' : Int) := wN (by omega) (by omega)
                have hgk := strs_getD x.af hk'
                rw [show x.af.getD k default = afA x k from rfl] at hgk
                have hfs : freeB l q x k' = (freeB l q x k && memI q (atN l (afA x k))) := by rw [hk1, freeB]
                have kA := l12At_ok l (by omega) (afA x k)
                have kM := l10In_ok q (by omega) (atN l (afA x k))
                obtain ⟨y, hy⟩ : ∃ y, y = afA x k := ⟨_, rfl⟩
                rw [← hy] at hgk hfs kA kM
                cases c2 : freeB l q x k with
                | false =>
                  rw [c2, Bool.false_and] at hfs
                  simp only [push_cast, seval, tkR_length, hit, hi', hg, shS, strs_length, hkt, wk]
                  refine ⟨_, ?_, hZ ⟨k', by omega⟩ (by simp only; omega)⟩
                  exact Weak.same (by simp only [push_cast, seval, hfs])
                | true =>
                  rw [c2, Bool.true_and] at hfs
                  simp only [push_cast, seval, tkR_length, hit, hi', hg, shS, strs_length, hkt, hk', vR_getD, hgk]
                  refine GoL_call rfl (by simp only [push_cast, seval, shS]) kA rfl rfl ?_
                  simp only [push_cast, seval]
                  refine GoL_call rfl (by simp only [push_cast, seval, ← hol, vR_take, vR_ts]) kM rfl rfl ?_
                  simp only [push_cast, seval, wk]
                  refine ⟨_, ?_, hZ ⟨k', by omega⟩ (by simp only; omega)⟩
                  exact Weak.same (by simp only [push_cast, seval, hfs])
              · have e : k = x.af.length := by omega
                subst e
                cases c2 : freeB l q x x.af.length with
                | false =>
                  simp only [push_cast, seval, tkR_length, hit, hi', hg, shS, strs_length, hkt, wi]
                  refine ⟨_, ?_, hY ⟨(i', q), by omega, .inl ⟨rfl, by omega, next c2⟩⟩ (by simp only; omega)⟩
                  exact Weak.same (by simp only [push_cast, seval])
                | true =>
                  have hp := hhit c2
                  have hsn := ints_snoc q (i : Int)
                  have a0 : q.length + 1 ≤ 4294967296 := by omega
                  have a1 := max_len a0
                  have a2 := room_le (b := 8) a0 (by decide)
                  have wl : IntKind.i64.wrap ((l.length : Int) + 1) = ((l.length + 1 : Nat) : Int) := wN (by omega) (by omega)
                  simp only [push_cast, seval, tkR_length, hit, hi', hg, shS, strs_length, hkt, hol, hsn, a1, a2, wl]
                  refine ⟨_, ?_, hY ⟨(l.length + 1, q ++ [(i : Int)]), by simp only; omega, .inr ⟨hp.symm, rfl⟩⟩ (by simp only; omega)⟩
                  simp only [List.length_append, List.length_cons, List.length_nil, Nat.zero_add]
                  exact Weak.drop (by simp only [push_cast, seval]) (by simp only [push_cast, seval]) (by simp only [push_cast, seval])
        · have hqe : q = pickO l o := by
            rcases hq with ⟨h1, h2, h3⟩ | ⟨h, _⟩
            · rw [h1, pickO_none fun j hj => h3 j (by omega)]
            · exact h
          simp only [push_cast, seval, tkR_length, hit, wr]
          refine ⟨_, ?_, hX ⟨r', by omega⟩ (by simp only; omega)⟩
          simp only [hstep, ← hqe]
          exact Weak.same (by simp only [push_cast, seval])
    · have e : r = l.length := by omega
      subst e
      have hol := ints_length (ordA l l.length)
      simp only [Try.ntmps167, Try.results167, push_cast, seval, tkR_length, hlt]
      refine ⟨_, Weak.refl _, ?_⟩
      simp only [Try.ntmps167, Try.results167, push_cast, seval, hol]
end Go.Proofs.Ythhgmnpodgmlkaa
namespace Go.Proofs.Ythhgmnpodgmlkaa
open Go.RowKit Go.Rx
set_option linter.unusedSimpArgs false
set_option maxRecDepth 100000
theorem ints_takeE (l : List Int) : (vR (ints l)).take l.length = vR (ints l) := List.take_of_length_le (by simp [vR, ints])
theorem l10List_nil (a b : Int) : PureFn Try.prog 175 [.one nilS, i64 a, i64 b] [bo false] := by
  refine PureFn_of_Go Try.func175 rfl (by decide) mo (by decide +kernel) ?_
  simp only [Try.ntmps175, Try.results175, push_cast, seval, nilS]
  refine Go_loop (α := Unit) (fun _ => ⟨tp 41 [(0, .x (.one nilS)), (1, .x (i64 a)), (2, .x (i64 b)), (7, int 0)], 0, [], []⟩) (fun _ => 0) () ?_ ?_
  · exact Weak.same (by simp only [push_cast, seval, nilS])
  · rintro ⟨⟩ X hX
    simp only [Try.ntmps175, Try.results175, push_cast, seval, nilS]
theorem cronOk_nil : PureFn Try.prog 170 [.agg [nilS, nilS, nilS, nilS, nilS]] [bo false] := by
  refine PureFn_of_Go Try.func170 rfl (by decide) mo (by decide +kernel) ?_
  have k1 := l10List_nil 0 59
  unfold nilS at k1 ⊢
  simp only [Try.ntmps170, Try.results170, push_cast, seval]
  refine GoL_call rfl rfl k1 rfl rfl ?_
  simp only [Try.ntmps170, Try.results170, push_cast, seval]
theorem cronText_nil : PureFn Try.prog 161 [.agg [nilS, nilS, nilS, nilS, nilS]] [st ⟨#[]⟩, bo false] := by
  refine PureFn_of_Go Try.func161 rfl (by decide) mo (by decide +kernel) ?_
  have k0 := cronOk_nil
  unfold nilS at k0 ⊢
  simp only [Try.ntmps161, Try.results161, push_cast, seval]
  refine GoL_call rfl rfl k0 rfl rfl ?_
  simp only [Try.ntmps161, Try.results161, push_cast, seval]
structure Dg where
  nm : ByteArray
  cron : ByteArray
  fr : Int
  to : Int
  cu : Bool
  ts : List Tsk
def shTk (l : List Tsk) : C := .sh 5 (tkR shS l)
def dgC (g : List Tsk → C) (d : Dg) : List C := [.v (.string d.nm), .v (.string d.cron), .v (.int .i64 d.fr), .v (.int .i64 d.to), .v (.bool d.cu), g d.ts]
structure SmD (d : Dg) : Prop where
  nm : d.nm.size ≤ 1048576
  cron : d.cron.size ≤ 1048576
  ts : SmTs d.ts
  nms : ∀ i, i < d.ts.length → (d.ts.getD i default).nm.size ≤ 1048576
def tsksP (l : List Tsk) : Prop := ∀ i, i < l.length → tskB l i = true
instance (l : List Tsk) : Decidable (tsksP l) := by unfold tsksP; infer_instance
def dgN (d : Dg) : Bool := nameB d.nm
def dgK (d : Dg) : Bool := decide (ctT (crP (ptL d.cron)) = d.cron)
def dgR (d : Dg) : Bool := inR d.to 0 68374079
def dgQ (d : Dg) : Bool := inR d.fr 0 d.to
def dgL (d : Dg) : Bool := inR (d.ts.length : Int) 1 4
def dgO (d : Dg) : Bool := decide ((ordA d.ts d.ts.length).length = d.ts.length)
def dagB (d : Dg) : Bool := dgN d && (crB d.cron && (dgK d && (dgR d && (dgQ d && (dgL d && (decide (tsksP d.ts) && dgO d))))))
theorem smC_crP (p : List ByteArray) : SmC (crP p) := by
  refine ⟨?_, ?_, ?_, ?_, ?_⟩ <;> refine Nat.le_trans (fldL_len _ _ _) (by decide)
set_option maxHeartbeats 2000000 in
theorem dagOk_ok (d : Dg) (hs : SmD d) : PureFn Try.prog 154 [.agg (dgC shTk d)] [bo (dagB d)] := by
  refine PureFn_of_Go Try.func154 rfl (by decide) mo (by decide +kernel) ?_
  obtain ⟨r, hr⟩ : ∃ r, r = dagB d := ⟨_, rfl⟩
  rw [← hr]
  unfold dagB at hr
  have hcr := hs.cron
  have hnm := hs.nm
  have hln := hs.ts.len
  have k1 := parseCron_ok d.cron (by omega)
  have k2 := nameS_ok d.nm (by omega)
  have k3 := l01In_ok d.to 0 68374079
  rw [show (decide ((0 : Int) ≤ d.to) && decide (d.to ≤ 68374079)) = dgR d from rfl] at k3
  have k4 := l01In_ok d.fr 0 d.to
  rw [show (decide ((0 : Int) ≤ d.fr) && decide (d.fr ≤ d.to)) = dgQ d from rfl] at k4
  have k5 := l01In_ok (d.ts.length : Int) 1 4
  rw [show (decide ((1 : Int) ≤ (d.ts.length : Int)) && decide ((d.ts.length : Int) ≤ 4)) = dgL d from rfl] at k5
  rw [show nameB d.nm = dgN d from rfl] at k2
  have hcl : ∀ p, SmC (crP p) := smC_crP
  unfold crX at k1
  simp only [Try.ntmps154, Try.results154, push_cast, seval, dgC, shTk]
  cases hB : crB d.cron with
  | false =>
    have hf : r = false := by rw [hr, hB]; simp only [Bool.false_and, Bool.and_false]
    subst hf
    have k6 := cronText_nil
    unfold nilS at k6
    rw [hB, if_neg Bool.false_ne_true] at k1
    unfold nilS at k1
    refine GoL_call rfl rfl k1 rfl rfl ?_
    simp only [Try.ntmps154, Try.results154, push_cast, seval]
    refine GoL_call rfl rfl k6 rfl rfl ?_
    simp only [Try.ntmps154, Try.results154, push_cast, seval]
    refine GoL_call rfl rfl k2 rfl rfl ?_
    cases dgN d with
    | false => simp only [Try.ntmps154, Try.results154, push_cast, seval]
    | true => simp only [Try.ntmps154, Try.results154, push_cast, seval]
  | true =>
    have hc := hcl (ptL d.cron)
    have hK : dgK d = decide (ctT (crP (ptL d.cron)) = d.cron) := rfl
    generalize crP (ptL d.cron) = c at hc hK k1
    have k6 := cronText_ok c hc
    rw [show crC shI c = [shI c.m, shI c.h, shI c.d, shI c.mo, shI c.w] from rfl] at k6
    unfold shI at k6
    have h1 := ints_length c.m
    have h2 := ints_length c.h
    have h3 := ints_length c.d
    have h4 := ints_length c.mo
    have h5 := ints_length c.w
    rw [hB, if_pos rfl, show crC ownI c = [ownI c.m, ownI c.h, ownI c.d, ownI c.mo, ownI c.w] from rfl] at k1
    unfold ownI at k1
    refine GoL_call rfl rfl k1 (by simp only [push_cast, seval, vR_po]) rfl ?_
    simp only [Try.ntmps154, Try.results154, push_cast, seval, h1, h2, h3, h4, h5]
    refine GoL_call rfl (by simp only [push_cast, seval, ints_takeE, vR_ts]) k6 rfl rfl ?_
    simp only [Try.ntmps154, Try.results154, push_cast, seval]
    refine GoL_call rfl rfl k2 rfl rfl ?_
    have hr1 : r = (dgN d && (dgK d && (dgR d && (dgQ d && (dgL d && (decide (tsksP d.ts) && dgO d)))))) := by rw [hr, hB, Bool.true_and]
    clear hr
    cases c1 : dgN d with
    | false =>
      have hf : r = false := by rw [hr1, c1]; rfl
      subst hf
      simp only [Try.ntmps154, Try.results154, push_cast, seval]
    | true =>
    cases c2 : decide (ctT c = d.cron) with
    | false =>
      have hf : r = false := by rw [hr1, c1, hK, c2]; rfl
      subst hf
      simp only [Try.ntmps154, Try.results154, push_cast, seval, c2]
    | true =>
    simp only [Try.ntmps154, Try.results154, push_cast, seval, c2]
    refine GoL_call rfl rfl k3 rfl rfl ?_
    cases c3 : dgR d with
    | false =>
      have hf : r = false := by rw [hr1, c1, hK, c2, c3]; rfl
      subst hf
      simp only [Try.ntmps154, Try.results154, push_cast, seval]
    | true =>
    simp only [Try.ntmps154, Try.results154, push_cast, seval]
    refine GoL_call rfl rfl k4 rfl rfl ?_
    cases c4 : dgQ d with
    | false =>
      have hf : r = false := by rw [hr1, c1, hK, c2, c3, c4]; rfl
      subst hf
      simp only [Try.ntmps154, Try.results154, push_cast, seval]
    | true =>
    simp only [Try.ntmps154, Try.results154, push_cast, seval, tkR_length]
    refine GoL_call rfl rfl k5 rfl rfl ?_
    cases c5 : dgL d with
    | false =>
      have hf : r = false := by rw [hr1, c1, hK, c2, c3, c4, c5]; rfl
      subst hf
      simp only [Try.ntmps154, Try.results154, push_cast, seval]
    | true =>
    have hr2 : r = (decide (tsksP d.ts) && dgO d) := by rw [hr1, c1, hK, c2, c3, c4, c5]; rfl
    clear hr1 k1 k2 k3 k4 k5 k6
    simp only [Try.ntmps154, Try.results154, push_cast, seval]
    refine Go_loop (α := {i : Nat // i ≤ d.ts.length ∧ ∀ j, j < i → tskB d.ts j = true}) (fun i => ⟨tp 74 [(1, .x (.one (.pt (0, 64) [] 6 0 0))), (7, int i.1)], 0,
        [((0, 64), ⟨.box, 6, [[.v (.string d.nm), .v (.string d.cron), .v (.int .i64 d.fr), .v (.int .i64 d.to), .v (.bool d.cu), .sh 5 (tkR shS d.ts)]]⟩)], []⟩)
      (fun i => d.ts.length - i.1) ⟨0, Nat.zero_le _, fun j h => absurd h (Nat.not_lt_zero _)⟩ ?_ ?_
    · exact Weak.drop (by simp only [push_cast, seval, Int.ofNat_zero]) (by simp only [push_cast, seval, Int.ofNat_zero]) (by simp only [push_cast, seval, Int.ofNat_zero])
    · rintro ⟨i, hi, hall⟩ X hX
      by_cases hlt : (i : Int) < (d.ts.length : Int)
      · have hi' : i < d.ts.length := by omega
        obtain ⟨i', hi1⟩ : ∃ i', i' = i + 1 := ⟨_, rfl⟩
        have wi : IntKind.i64.wrap ((i : Int) + 1) = (i' : Int) := wN (by omega) (by omega)
        have kT := l12Task_ok d.ts (by omega) i hi' ⟨by have := hs.nms i hi'; omega, by have := hs.ts.af i hi'; omega⟩
        simp only [push_cast, seval, tkR_length, hlt]
        refine GoL_call rfl rfl kT rfl rfl ?_
        cases c6 : tskB d.ts i with
        | false =>
          have hf : r = false := by
            rw [hr2, decide_eq_false, Bool.false_and]
            intro h
            rw [h i hi'] at c6; cases c6
          subst hf
          simp only [Try.ntmps154, Try.results154, push_cast, seval]
        | true =>
          simp only [push_cast, seval, wi]
          refine ⟨_, ?_, hX ⟨i', by omega, fun j hj => ?_⟩ (by simp only; omega)⟩
          · exact Weak.same (by simp only [push_cast, seval])
          · by_cases e : j = i
            · subst e; exact c6
            · exact hall j (by omega)
      · have hr3 : r = dgO d := by
          rw [hr2, decide_eq_true (show tsksP d.ts from fun j hj => hall j (by omega)), Bool.true_and]
        have kO := l12Order_ok d.ts hs.ts
        have hol := ints_length (ordA d.ts d.ts.length)
        have hd : dgO d = decide (((ordA d.ts d.ts.length).length : Int) = (d.ts.length : Int)) := by
          rw [dgO]; exact decide_eq_decide.2 (by omega)
        rw [hr3, hd]
        clear hr3 hd hr2
        generalize ordA d.ts d.ts.length = o at kO hol
        simp only [Try.ntmps154, Try.results154, push_cast, seval, hlt, tkR_length]
        refine GoD_call rfl rfl kO (by simp only [push_cast, seval, vR_po]) rfl ?_
        simp only [Try.ntmps154, Try.results154, push_cast, seval, hol, tkR_length]
end Go.Proofs.Ythhgmnpodgmlkaa
namespace Go.Proofs.Ythhgmnpodgmlkaa
open Go.RowKit Go.Rx
set_option linter.unusedSimpArgs false
set_option maxRecDepth 100000
def jsA (l : List ByteArray) : Nat → ByteArray
  | 0 => ⟨#[]⟩
  | i + 1 => (if 0 < i then jsA l i ++ ⟨#[44]⟩ else jsA l i) ++ l.getD i default
theorem jsA_size {l : List ByteArray} (h : ∀ i, i < l.length → (l.getD i default).size ≤ 1048576) : ∀ i, i ≤ l.length → (jsA l i).size ≤ 1048577 * i
  | 0, _ => Nat.le_refl _
  | i + 1, hi => by
    have h1 := jsA_size h i (by omega)
    have h2 := h i (by omega)
    unfold jsA
    rw [ByteArray.size_append]
    split
    · rw [ByteArray.size_append]; simp only [show (⟨#[44]⟩ : ByteArray).size = 1 from rfl]; omega
    · omega
theorem l12Join_ok (l : List ByteArray) (hl : l.length ≤ 1048576) (h : ∀ i, i < l.length → (l.getD i default).size ≤ 1048576) : PureFn Try.prog 168 [.one (.sh 1 (vR (strs l)))] [st (jsA l l.length)] := by
  refine PureFn_of_Go Try.func168 rfl (by decide) mo (by decide +kernel) ?_
  simp only [Try.ntmps168, Try.results168, push_cast, seval, strs_length]
  refine Go_loop (α := {i : Nat // i ≤ l.length}) (fun i => ⟨tp 22 [(0, .x (.one (.sh 1 (vR (strs l))))), (3, .x (st (jsA l i.1))), (4, int i.1)], 0, [], []⟩) (fun i => l.length - i.1) ⟨0, Nat.zero_le _⟩ ?_ ?_
  · exact Weak.same (by simp only [push_cast, seval, Int.ofNat_zero, jsA])
  · rintro ⟨i, hi⟩ X hX
    simp only
    by_cases hlt : (i : Int) < (l.length : Int)
    · have hi' : i < l.length := by omega
      have ws := wsucc hi' (by omega)
      have hg := strs_getD l hi'
      have hx1 := h i hi'
      obtain ⟨i', hi1⟩ : ∃ i', i' = i + 1 := ⟨_, rfl⟩
      rw [← hi1] at ws
      have hsz := jsA_size h i hi
      have hj : jsA l i' = (if 0 < i then jsA l i ++ ⟨#[44]⟩ else jsA l i) ++ l.getD i default := by rw [hi1, jsA]
      generalize l.getD i default = x at hg hx1 hj
      by_cases c0 : 0 < i
      · have c0i : (0 : Int) < (i : Int) := by omega
        rw [if_pos c0] at hj
        have z1 : (jsA l i).size + (⟨#[44]⟩ : ByteArray).size ≤ 9223372036854775807 := by rw [show (⟨#[44]⟩ : ByteArray).size = 1 from rfl]; omega
        have z2 : (jsA l i ++ (⟨#[44]⟩ : ByteArray)).size + x.size ≤ 9223372036854775807 := by rw [ByteArray.size_append, show (⟨#[44]⟩ : ByteArray).size = 1 from rfl]; omega
        obtain ⟨q, hq⟩ : ∃ q, q = jsA l i ++ (⟨#[44]⟩ : ByteArray) := ⟨_, rfl⟩
        rw [← hq] at hj z2
        simp only [Try.ntmps168, Try.results168, push_cast, seval, strs_length, hlt, c0i, z1, hi', vR_getD, hg, ← hq, z2, ws]
        refine ⟨_, ?_, hX ⟨i', by omega⟩ (by simp only; omega)⟩
        exact Weak.same (by simp only [push_cast, seval, hj])
      · have c0i : ¬ (0 : Int) < (i : Int) := by omega
        rw [if_neg c0] at hj
        have z2 : (jsA l i).size + x.size ≤ 9223372036854775807 := by omega
        simp only [Try.ntmps168, Try.results168, push_cast, seval, strs_length, hlt, c0i, hi', vR_getD, hg, z2, ws]
        refine ⟨_, ?_, hX ⟨i', by omega⟩ (by simp only; omega)⟩
        exact Weak.same (by simp only [push_cast, seval, hj])
    · have e : i = l.length := by omega
      subst e
      simp only [Try.ntmps168, Try.results168, push_cast, seval, hlt, strs_length]
def sTask : ByteArray := ⟨#[116, 97, 115, 107, 32]⟩
def sPast : ByteArray := ⟨#[32, 112, 97, 115, 116]⟩
def sFree : ByteArray := ⟨#[32, 102, 114, 101, 101]⟩
def sNl : ByteArray := ⟨#[10]⟩
def tl1 (_ : Tsk) (s : ByteArray) : ByteArray := s ++ sTask
def tl2 (x : Tsk) (s : ByteArray) : ByteArray := (tl1 x s ++ x.nm) ++ spB
def tl3 (x : Tsk) (s : ByteArray) : ByteArray := (tl2 x s ++ x.pool) ++ spB
def tl4 (x : Tsk) (s : ByteArray) : ByteArray := tl3 x s ++ decB x.re.toNat
def tl5 (x : Tsk) (s : ByteArray) : ByteArray := if x.past then tl4 x s ++ sPast else tl4 x s ++ sFree
def tl6 (x : Tsk) (s : ByteArray) : ByteArray := if (0 : Int) < (x.af.length : Int) then (tl5 x s ++ spB) ++ jsA x.af x.af.length else tl5 x s
def tlB (x : Tsk) (s : ByteArray) : ByteArray := tl6 x s ++ sNl
structure TkS (x : Tsk) : Prop where
  nm : x.nm.size ≤ 1048576
  pool : x.pool.size ≤ 1048576
  re0 : 0 ≤ x.re
  re3 : x.re ≤ 3
  len : x.af.length ≤ 1048576
  af : ∀ k, k < x.af.length → (x.af.getD k default).size ≤ 1048576
theorem TkS.j {x : Tsk} (h : TkS x) : (jsA x.af x.af.length).size ≤ 1200000000000 := by
  have := jsA_size h.af x.af.length (Nat.le_refl _)
  have := h.len
  omega
theorem tl1_size (x : Tsk) (s : ByteArray) : (tl1 x s).size = s.size + 5 := by unfold tl1; rw [ByteArray.size_append]; rfl
theorem tl2_size {x : Tsk} (h : TkS x) (s : ByteArray) : (tl2 x s).size ≤ s.size + 1048582 := by unfold tl2; rw [ByteArray.size_append, ByteArray.size_append, tl1_size, spB_size]; have := h.nm; omega
theorem tl3_size {x : Tsk} (h : TkS x) (s : ByteArray) : (tl3 x s).size ≤ s.size + 2097159 := by unfold tl3; rw [ByteArray.size_append, ByteArray.size_append, spB_size]; have := tl2_size h s; have := h.pool; omega
theorem tl4_size {x : Tsk} (h : TkS x) (s : ByteArray) : (tl4 x s).size ≤ s.size + 2097169 := by unfold tl4; rw [ByteArray.size_append]; have := tl3_size h s; have := decB_size x.re.toNat (by have := h.re3; omega); omega
theorem tl5_size {x : Tsk} (h : TkS x) (s : ByteArray) : (tl5 x s).size ≤ s.size + 2097174 := by
  have := tl4_size h s
  unfold tl5; split
  · rw [ByteArray.size_append, show sPast.size = 5 from rfl]; omega
  · rw [ByteArray.size_append, show sFree.size = 5 from rfl]; omega
theorem tl6_size {x : Tsk} (h : TkS x) (s : ByteArray) : (tl6 x s).size ≤ s.size + 1300000000000 := by
  have := tl5_size h s
  have := h.j
  unfold tl6; split
  · rw [ByteArray.size_append, ByteArray.size_append, spB_size]; omega
  · omega
theorem tlB_size {x : Tsk} (h : TkS x) (s : ByteArray) : (tlB x s).size ≤ s.size + 1300000000001 := by unfold tlB; rw [ByteArray.size_append, show sNl.size = 1 from rfl]; have := tl6_size h s; omega
theorem e_tl1 (x : Tsk) (s : ByteArray) : s ++ sTask = tl1 x s := rfl
def sDag : ByteArray := ⟨#[100, 97, 103, 32]⟩
def sCron : ByteArray := ⟨#[10, 99, 114, 111, 110, 32]⟩
def sFrom : ByteArray := ⟨#[10, 102, 114, 111, 109, 32]⟩
def sTo : ByteArray := ⟨#[10, 116, 111, 32]⟩
def sCatch : ByteArray := ⟨#[99, 97, 116, 99, 104, 117, 112, 10]⟩
def sLatest : ByteArray := ⟨#[108, 97, 116, 101, 115, 116, 10]⟩
def dh1 (d : Dg) : ByteArray := (sDag ++ d.nm) ++ sCron
def dh2 (d : Dg) : ByteArray := (dh1 d ++ d.cron) ++ sFrom
def dh3 (d : Dg) : ByteArray := (dh2 d ++ decB d.fr.toNat) ++ sTo
def dh4 (d : Dg) : ByteArray := (dh3 d ++ decB d.to.toNat) ++ sNl
def dhB (d : Dg) : ByteArray := if d.cu then dh4 d ++ sCatch else dh4 d ++ sLatest
def dtA (d : Dg) : Nat → ByteArray
  | 0 => dhB d
  | i + 1 => tlB (d.ts.getD i default) (dtA d i)
def dtB (d : Dg) : ByteArray := dtA d d.ts.length
structure DgS (d : Dg) : Prop where
  nm : d.nm.size ≤ 1048576
  cron : d.cron.size ≤ 1048576
  fr0 : 0 ≤ d.fr
  to0 : 0 ≤ d.to
  fr1 : d.fr ≤ 68374079
  to1 : d.to ≤ 68374079
  len : d.ts.length ≤ 4
  ts : ∀ i, i < d.ts.length → TkS (d.ts.getD i default)
theorem dh1_size {d : Dg} (h : DgS d) : (dh1 d).size ≤ 1048586 := by unfold dh1; rw [ByteArray.size_append, ByteArray.size_append, show sDag.size = 4 from rfl, show sCron.size = 6 from rfl]; have := h.nm; omega
theorem dh2_size {d : Dg} (h : DgS d) : (dh2 d).size ≤ 2097168 := by unfold dh2; rw [ByteArray.size_append, ByteArray.size_append, show sFrom.size = 6 from rfl]; have := dh1_size h; have := h.cron; omega
theorem dh3_size {d : Dg} (h : DgS d) : (dh3 d).size ≤ 2097182 := by unfold dh3; rw [ByteArray.size_append, ByteArray.size_append, show sTo.size = 4 from rfl]; have := dh2_size h; have := decB_size d.fr.toNat (by have := h.fr1; omega); omega
theorem dh4_size {d : Dg} (h : DgS d) : (dh4 d).size ≤ 2097193 := by unfold dh4; rw [ByteArray.size_append, ByteArray.size_append, show sNl.size = 1 from rfl]; have := dh3_size h; have := decB_size d.to.toNat (by have := h.to1; omega); omega
theorem dhB_size {d : Dg} (h : DgS d) : (dhB d).size ≤ 2097201 := by
  have := dh4_size h
  unfold dhB; split
  · rw [ByteArray.size_append, show sCatch.size = 8 from rfl]; omega
  · rw [ByteArray.size_append, show sLatest.size = 7 from rfl]; omega
theorem dtA_size {d : Dg} (h : DgS d) : ∀ i, i ≤ d.ts.length → (dtA d i).size ≤ 2097201 + 1300000000001 * i
  | 0, _ => by
    have := dhB_size h
    rw [show dtA d 0 = dhB d from rfl]; omega
  | i + 1, hi => by
    have h1 := dtA_size h i (by omega)
    have h2 := tlB_size (h.ts i (by omega)) (dtA d i)
    rw [show dtA d (i + 1) = tlB (d.ts.getD i default) (dtA d i) from rfl]
    generalize (tlB (d.ts.getD i default) (dtA d i)).size = a at h2 ⊢
    generalize (dtA d i).size = b at h1 h2
    rw [Nat.mul_succ]
    generalize 1300000000001 * i = m at h1 ⊢
    exact Nat.le_trans h2 (by rw [← Nat.add_assoc]; exact Nat.add_le_add_right h1 _)
theorem e_tl2 (x : Tsk) (s : ByteArray) : (tl1 x s ++ x.nm) ++ spB = tl2 x s := rfl
theorem e_tl3 (x : Tsk) (s : ByteArray) : (tl2 x s ++ x.pool) ++ spB = tl3 x s := rfl
theorem e_tl4 (x : Tsk) (s : ByteArray) : tl3 x s ++ decB x.re.toNat = tl4 x s := rfl
theorem e_tlB (x : Tsk) (s : ByteArray) : tl6 x s ++ sNl = tlB x s := rfl
theorem e_dh1 (d : Dg) : (sDag ++ d.nm) ++ sCron = dh1 d := rfl
theorem e_dh2 (d : Dg) : (dh1 d ++ d.cron) ++ sFrom = dh2 d := rfl
theorem e_dh3 (d : Dg) : (dh2 d ++ decB d.fr.toNat) ++ sTo = dh3 d := rfl
theorem e_dh4 (d : Dg) : (dh3 d ++ decB d.to.toNat) ++ sNl = dh4 d := rfl
theorem atN_mem {l : List Tsk} {s : ByteArray} (h : decide (atN l s < 0) = false) : ∃ j, j < l.length ∧ nmA l j = s := by
  by_cases h' : ∃ j, j < l.length ∧ nmA l j = s
  · exact h'
  · have : atN l s = -1 := atN_none fun j hj => decide_eq_false fun e => h' ⟨j, hj, e⟩
    rw [this] at h; cases h
theorem pool_small {s : ByteArray} (h : decide (poolN s = 0) = false) : s.size ≤ 4 := by
  unfold poolN at h
  split at h
  · rename_i e; rw [e]; decide
  · split at h
    · rename_i e; rw [e]; decide
    · split at h
      · rename_i e; rw [e]; decide
      · cases h
theorem tsk_small {d : Dg} (hs : SmD d) (h : tsksP d.ts) (i : Nat) (hi : i < d.ts.length) : TkS (d.ts.getD i default) := by
  have ht := h i hi
  have hn := hs.nms
  have hl := hs.ts.af i hi
  simp only [tskB, tskH, Bool.and_eq_true, decide_eq_true_eq] at ht
  obtain ⟨⟨_, _, h3, h4⟩, h5⟩ := ht
  have h4' := inR_spec.1 h4
  refine ⟨hn i hi, ?_, h4'.1, h4'.2, hl, fun k hk => ?_⟩
  · have := pool_small (s := (d.ts.getD i default).pool) (by simpa using h3)
    omega
  · have h6 := h5 k hk
    simp only [afP, Bool.and_eq_true, Bool.not_eq_true'] at h6
    obtain ⟨j, hj, e⟩ := atN_mem h6.1.1
    rw [show (d.ts.getD i default).af.getD k default = afA (d.ts.getD i default) k from rfl, ← e]
    exact hn j hj
theorem dag_small {d : Dg} (hs : SmD d) (h : dagB d = true) : DgS d := by
  simp only [dagB, Bool.and_eq_true, decide_eq_true_eq, dgR, dgQ, dgL] at h
  obtain ⟨_, _, _, h4, h5, h6, h7, _⟩ := h
  have a := inR_spec.1 h4
  have b := inR_spec.1 h5
  have c := inR_spec.1 h6
  exact ⟨hs.nm, hs.cron, b.1, a.1, by omega, a.2, by omega, tsk_small hs h7⟩
end Go.Proofs.Ythhgmnpodgmlkaa
namespace Go.Proofs.Ythhgmnpodgmlkaa
open Go.RowKit Go.Rx
set_option linter.unusedSimpArgs false
set_option maxRecDepth 100000
def dtT (d : Dg) : ByteArray := if dagB d then dtB d else ⟨#[]⟩
set_option maxHeartbeats 2000000 in
theorem dagText_ok (d : Dg) (hs : SmD d) : PureFn Try.prog 156 [.agg (dgC shTk d)] [st (dtT d), bo (dagB d)] := by
  refine PureFn_of_Go Try.func156 rfl (by decide) mo (by decide +kernel) ?_
  have k0 := dagOk_ok d hs
  unfold dtT
  rw [show dgC shTk d = [.v (.string d.nm), .v (.string d.cron), .v (.int .i64 d.fr), .v (.int .i64 d.to), .v (.bool d.cu), .sh 5 (tkR shS d.ts)] from rfl] at k0 ⊢
  simp only [Try.ntmps156, Try.results156, push_cast, seval]
  refine GoL_call rfl rfl k0 rfl rfl ?_
  cases hB : dagB d with
  | false => simp only [Try.ntmps156, Try.results156, push_cast, seval, Bool.false_eq_true, if_false]
  | true =>
    have hS := dag_small hs hB
    clear k0
    rw [if_pos rfl]
    have h0 := hS.fr0
    have h1 := hS.fr1
    have h2 := hS.to0
    have h3 := hS.to1
    have hln := hS.len
    have kf : PureFn Try.prog 145 [i64 d.fr] [st (decB d.fr.toNat)] := by
      have := decimalS_ok d.fr.toNat (by omega)
      rwa [Int.toNat_of_nonneg h0] at this
    have kt : PureFn Try.prog 145 [i64 d.to] [st (decB d.to.toNat)] := by
      have := decimalS_ok d.to.toNat (by omega)
      rwa [Int.toNat_of_nonneg h2] at this
    have y0 := hS.nm
    have y1 := dh1_size hS
    have y2 := dh2_size hS
    have y3 := dh3_size hS
    have y4 := dh4_size hS
    have y5 := hS.cron
    have yf := decB_size d.fr.toNat (by omega)
    have yt := decB_size d.to.toNat (by omega)
    have z1 : sDag.size + d.nm.size ≤ 9223372036854775807 := by rw [show sDag.size = 4 from rfl]; omega
    have z2 : (sDag ++ d.nm).size + sCron.size ≤ 9223372036854775807 := by rw [ByteArray.size_append, show sDag.size = 4 from rfl, show sCron.size = 6 from rfl]; omega
    have z3 : (dh1 d).size + d.cron.size ≤ 9223372036854775807 := by omega
    have z4 : (dh1 d ++ d.cron).size + sFrom.size ≤ 9223372036854775807 := by rw [ByteArray.size_append, show sFrom.size = 6 from rfl]; omega
    have z5 : (dh2 d).size + (decB d.fr.toNat).size ≤ 9223372036854775807 := by omega
    have z6 : (dh2 d ++ decB d.fr.toNat).size + sTo.size ≤ 9223372036854775807 := by rw [ByteArray.size_append, show sTo.size = 4 from rfl]; omega
    have z7 : (dh3 d).size + (decB d.to.toNat).size ≤ 9223372036854775807 := by omega
    have z8 : (dh3 d ++ decB d.to.toNat).size + sNl.size ≤ 9223372036854775807 := by rw [ByteArray.size_append, show sNl.size = 1 from rfl]; omega
    have z9 : (dh4 d).size + sCatch.size ≤ 9223372036854775807 := by rw [show sCatch.size = 8 from rfl]; omega
    have z10 : (dh4 d).size + sLatest.size ≤ 9223372036854775807 := by rw [show sLatest.size = 7 from rfl]; omega
    have l1 : (⟨#[100, 97, 103, 32]⟩ : ByteArray) = sDag := rfl
    have l2 : (⟨#[10, 99, 114, 111, 110, 32]⟩ : ByteArray) = sCron := rfl
    have l3 : (⟨#[10, 102, 114, 111, 109, 32]⟩ : ByteArray) = sFrom := rfl
    have l4 : (⟨#[10, 116, 111, 32]⟩ : ByteArray) = sTo := rfl
    have l5 : (⟨#[99, 97, 116, 99, 104, 117, 112, 10]⟩ : ByteArray) = sCatch := rfl
    have l6 : (⟨#[108, 97, 116, 101, 115, 116, 10]⟩ : ByteArray) = sLatest := rfl
    have l7 : (⟨#[10]⟩ : ByteArray) = sNl := rfl
    have l8 : (⟨#[116, 97, 115, 107, 32]⟩ : ByteArray) = sTask := rfl
    have l9 : (⟨#[32, 112, 97, 115, 116]⟩ : ByteArray) = sPast := rfl
    have l10 : (⟨#[32, 102, 114, 101, 101]⟩ : ByteArray) = sFree := rfl
    have l11 : (⟨#[32]⟩ : ByteArray) = spB := rfl
    simp only [Try.ntmps156, Try.results156, push_cast, seval, l1, l2, l3, l4, l5, l6, l7, l8, l9, l10, l11, z1, z2, e_dh1, z3, z4, e_dh2]
    refine GoD_call rfl rfl kf rfl rfl ?_
    simp only [Try.ntmps156, Try.results156, push_cast, seval, l1, l2, l3, l4, l5, l6, l7, l8, l9, l10, l11, z5, z6, e_dh3]
    refine GoD_call rfl rfl kt rfl rfl ?_
    simp only [Try.ntmps156, Try.results156, push_cast, seval, l1, l2, l3, l4, l5, l6, l7, l8, l9, l10, l11, z7, z8, e_dh4]
    cases hcu : d.cu
    all_goals
      have hdh : dhB d = (if d.cu then dh4 d ++ sCatch else dh4 d ++ sLatest) := rfl
      rw [hcu] at hdh
      simp only [if_true, Bool.false_eq_true, if_false] at hdh
      simp only [Try.ntmps156, Try.results156, push_cast, seval, z9, z10, ← hdh]
      refine Go_loop (α := {i : Nat // i ≤ d.ts.length}) (fun i => ⟨tp 79 [(1, .x (.one (.pt (0, 64) [] 6 0 0))), (4, .x (st (dtA d i.1))), (5, int i.1)], 0, [((0, 64), ⟨.box, 6, [[.v (.string d.nm), .v (.string d.cron), .v (.int .i64 d.fr), .v (.int .i64 d.to), .v (.bool d.cu), .sh 5 (tkR shS d.ts)]]⟩)], []⟩)
        (fun i => d.ts.length - i.1) ⟨0, Nat.zero_le _⟩ ?_ ?_
      · rw [hcu]
        exact Weak.same (by simp only [push_cast, seval, Int.ofNat_zero, dtA])
      · rintro ⟨i, hi⟩ X hX
        rw [hcu] at hX ⊢
        simp only
        by_cases hlt : (i : Int) < (d.ts.length : Int)
        · have hi' : i < d.ts.length := by omega
          obtain ⟨i', hi1⟩ : ∃ i', i' = i + 1 := ⟨_, rfl⟩
          have wi : IntKind.i64.wrap ((i : Int) + 1) = (i' : Int) := wN (by omega) (by omega)
          have hg := tkR_getD shS d.ts hi'
          rw [tkC_eq] at hg
          have hT := hS.ts i hi'
          have hstep : dtA d i' = tlB (d.ts.getD i default) (dtA d i) := by rw [hi1]; rfl
          have hsz := dtA_size hS i (by omega)
          generalize d.ts.getD i default = x at hg hT hstep
          have hszz : (dtA d i).size ≤ 6000000000000 := Nat.le_trans hsz (by omega)
          clear hsz
          generalize dtA d i = s at hstep hszz ⊢
          have p1 := hT.nm
          have p2 := hT.pool
          have p3 := hT.re0
          have p4 := hT.re3
          have p5 := hT.j
          have q1 := tl1_size x s
          have q2 := tl2_size hT s
          have q3 := tl3_size hT s
          have q4 := tl4_size hT s
          have q5 := tl5_size hT s
          have q6 := tl6_size hT s
          have kr : PureFn Try.prog 145 [i64 x.re] [st (decB x.re.toNat)] := by
            have := decimalS_ok x.re.toNat (by omega)
            rwa [Int.toNat_of_nonneg p3] at this
          have yr := decB_size x.re.toNat (by omega)
          have w1 : s.size + sTask.size ≤ 9223372036854775807 := by rw [show sTask.size = 5 from rfl]; omega
          have w2 : (tl1 x s).size + x.nm.size ≤ 9223372036854775807 := by omega
          have w3 : (tl1 x s ++ x.nm).size + spB.size ≤ 9223372036854775807 := by rw [ByteArray.size_append, spB_size]; omega
          have w4 : (tl2 x s).size + x.pool.size ≤ 9223372036854775807 := by omega
          have w5 : (tl2 x s ++ x.pool).size + spB.size ≤ 9223372036854775807 := by rw [ByteArray.size_append, spB_size]; omega
          have w6 : (tl3 x s).size + (decB x.re.toNat).size ≤ 9223372036854775807 := by omega
          have w7 : (tl4 x s).size + sPast.size ≤ 9223372036854775807 := by rw [show sPast.size = 5 from rfl]; omega
          have w8 : (tl4 x s).size + sFree.size ≤ 9223372036854775807 := by rw [show sFree.size = 5 from rfl]; omega
          have w9 : (tl5 x s).size + spB.size ≤ 9223372036854775807 := by rw [spB_size]; omega
          have w10 : (tl5 x s ++ spB).size + (jsA x.af x.af.length).size ≤ 9223372036854775807 := by rw [ByteArray.size_append, spB_size]; omega
          have w11 : (tl6 x s).size + sNl.size ≤ 9223372036854775807 := by rw [show sNl.size = 1 from rfl]; omega
          have kj := l12Join_ok x.af hT.len hT.af
          have h5 : tl5 x s = if x.past then tl4 x s ++ sPast else tl4 x s ++ sFree := rfl
          have h6 : tl6 x s = if (0 : Int) < (x.af.length : Int) then (tl5 x s ++ spB) ++ jsA x.af x.af.length else tl5 x s := rfl
          have e1 := e_tl1 x s
          have e2 := e_tl2 x s
          have e3 := e_tl3 x s
          have e4 := e_tl4 x s
          simp only [Try.ntmps156, Try.results156, push_cast, seval, tkR_length, hlt, hi', hg, shS, w1, e1, w2, w3, e2, w4, w5, e3]
          refine GoD_call rfl rfl kr rfl rfl ?_
          simp only [Try.ntmps156, Try.results156, push_cast, seval, w6, e4]
          cases hp : x.past
          all_goals
            rw [hp] at h5
            simp only [if_true, Bool.false_eq_true, if_false] at h5
            by_cases haf : (0 : Int) < (x.af.length : Int)
            · rw [if_pos haf] at h6
              simp only [Try.ntmps156, Try.results156, push_cast, seval, w7, w8, ← h5, strs_length, haf, w9]
              refine GoL_call rfl rfl kj rfl rfl ?_
              simp only [Try.ntmps156, Try.results156, push_cast, seval, w10, ← h6, w11, e_tlB, wi]
              refine ⟨_, ?_, hX ⟨i', by omega⟩ (by simp only; omega)⟩
              rw [hstep]
              exact Weak.drop (by simp only [push_cast, seval]) (by simp only [push_cast, seval]) (by simp only [push_cast, seval])
            · rw [if_neg haf] at h6
              simp only [Try.ntmps156, Try.results156, push_cast, seval, w7, w8, ← h5, strs_length, haf, ← h6, w11, e_tlB, wi]
              refine ⟨_, ?_, hX ⟨i', by omega⟩ (by simp only; omega)⟩
              rw [hstep]
              exact Weak.drop (by simp only [push_cast, seval]) (by simp only [push_cast, seval]) (by simp only [push_cast, seval])
        · have e : i = d.ts.length := by omega
          subst e
          simp only [Try.ntmps156, Try.results156, push_cast, seval, hlt, tkR_length, dtB]
end Go.Proofs.Ythhgmnpodgmlkaa
namespace Go.Proofs.Ythhgmnpodgmlkaa
open Go.RowKit Go.Rx
set_option linter.unusedSimpArgs false
set_option maxRecDepth 100000
def lnA (s : ByteArray) : Nat → Nat × List ByteArray
  | 0 => (0, [])
  | i + 1 => if bu s i = 10 then (i + 1, (lnA s i).2 ++ [s.extract (lnA s i).1 i]) else lnA s i
theorem lnA_b (s : ByteArray) : ∀ i, (lnA s i).1 ≤ i ∧ (lnA s i).2.length ≤ i
  | 0 => ⟨Nat.le_refl _, Nat.le_refl _⟩
  | i + 1 => by
    obtain ⟨h1, h2⟩ := lnA_b s i
    unfold lnA
    split
    · exact ⟨Nat.le_refl _, by rw [List.length_append]; simp only [List.length_cons, List.length_nil]; omega⟩
    · exact ⟨by omega, by omega⟩
def lnL (s : ByteArray) : List ByteArray := if (lnA s s.size).1 < s.size then (lnA s s.size).2 ++ [s.extract (lnA s s.size).1 s.size] else (lnA s s.size).2
theorem lnL_len (s : ByteArray) : (lnL s).length ≤ s.size + 1 := by
  have := (lnA_b s s.size).2
  unfold lnL; split
  · rw [List.length_append]; simp only [List.length_cons, List.length_nil]; omega
  · omega
theorem lines_ok (s : ByteArray) (hs : s.size ≤ 1048576) : PureFn Try.prog 150 [st s] [.one (.own 1 (vR (strs (lnL s))))] := by
  refine PureFn_of_GoW Try.func150 rfl (by decide) mo (by decide +kernel) ?_
  simp only [Try.ntmps150, Try.results150, push_cast, seval]
  refine Go_loop (α := {i : Nat // i ≤ s.size}) (fun i => ⟨tp 37 [(0, .x (st s)), (3, .x (.one (.rs (0, 1472) [] 1 0 (lnA s i.1).2.length))), (4, int (lnA s i.1).1), (5, int i.1)], 0, [((0, 1472), ⟨.sl, 1, vR (strs (lnA s i.1).2)⟩)], []⟩)
    (fun i => s.size - i.1) ⟨0, Nat.zero_le _⟩ ?_ ?_
  · refine Weak.trans (Weak.rename' (0, 384) (0, 1472) (Nat.le_refl _) (Nat.le_refl _) (by decide) rfl) ?_
    rw [show vR (strs (lnA s (⟨0, Nat.zero_le _⟩ : {i : Nat // i ≤ s.size}).1).2) = [] from rfl]
    simp only [push_cast, seval, ren_vR', lnA]
    exact Weak.same (by simp only [push_cast, seval, Int.ofNat_zero])
  · rintro ⟨i, hi⟩ X hX
    simp only
    obtain ⟨b1, b2⟩ := lnA_b s i
    obtain ⟨B, hB⟩ : ∃ B, B = lnA s i := ⟨_, rfl⟩
    rw [← hB] at b1 b2
    have hsl := strs_length B.2
    by_cases hlt : (i : Int) < (s.size : Int)
    · have hi' : i < s.size := by omega
      obtain ⟨i', hi1⟩ : ∃ i', i' = i + 1 := ⟨_, rfl⟩
      have hws : IntKind.i64.wrap ((i : Int) + 1) = (i' : Int) := wN (by omega) (by omega)
      have hstep : lnA s i' = if bu s i = 10 then (i', B.2 ++ [s.extract B.1 i]) else B := by rw [hi1, lnA, ← hB]
      have a0 : B.2.length + 1 ≤ 4294967296 := by omega
      have a1 := max_len a0
      have a2 := room_le (b := 16) a0 (by decide)
      have hsn := strs_snoc B.2 (s.extract B.1 i)
      have hb := bu_get hi'
      rw [← hB]
      by_cases c2 : bu s i = 10
      · rw [if_pos c2] at hstep
        have c2d : decide (((bu s i).toNat : Int) = 10) = true := decide_eq_true (by rw [c2]; rfl)
        simp only [push_cast, seval, hlt, c2d, hb, b1, Nat.le_of_lt hi', hsl, hsn, a1, a2, hws, flatRows, flatRow]
        refine ⟨_, ?_, hX ⟨i', by omega⟩ (by simp only; omega)⟩
        simp only [hstep, List.length_append, List.length_cons, List.length_nil, Nat.zero_add]
        exact Weak.drop (by simp only [push_cast, seval]) (by simp only [push_cast, seval]) (by simp only [push_cast, seval])
      · rw [if_neg c2] at hstep
        have c2d : decide (((bu s i).toNat : Int) = 10) = false := decide_eq_false fun h => c2 (u8_eq.1 (by rw [h]; rfl))
        simp only [push_cast, seval, hlt, c2d, hb, hws]
        refine ⟨_, ?_, hX ⟨i', by omega⟩ (by simp only; omega)⟩
        simp only [hstep]
        exact Weak.same (by simp only [push_cast, seval])
    · have hie : i = s.size := by omega
      subst hie
      rw [← hB]
      have a0 : B.2.length + 1 ≤ 4294967296 := by omega
      have a1 := max_len a0
      have a2 := room_le (b := 16) a0 (by decide)
      have hsn := strs_snoc B.2 (s.extract B.1 s.size)
      by_cases c3 : B.1 < s.size
      · have c3i : (B.1 : Int) < (s.size : Int) := by omega
        have hL : lnL s = B.2 ++ [s.extract B.1 s.size] := by rw [lnL, ← hB, if_pos c3]
        have hl2 := strs_length (lnL s)
        rw [hL] at hl2
        rw [hL]
        simp only [Try.ntmps150, Try.results150, push_cast, seval, hlt, c3i, b1, hsl, hsn, a1, a2, flatRows, flatRow]
        refine ⟨_, Weak.refl _, ?_⟩
        simp only [List.length_append, List.length_cons, List.length_nil, Nat.zero_add] at hl2
        simp only [Try.ntmps150, Try.results150, push_cast, seval, hl2]
      · have c3i : ¬ (B.1 : Int) < (s.size : Int) := by omega
        have hL : lnL s = B.2 := by rw [lnL, ← hB, if_neg c3]
        rw [hL]
        simp only [Try.ntmps150, Try.results150, push_cast, seval, hlt, c3i, b1, hsl]
        refine ⟨_, Weak.refl _, ?_⟩
        simp only [Try.ntmps150, Try.results150, push_cast, seval, hsl]
end Go.Proofs.Ythhgmnpodgmlkaa
namespace Go.Proofs.Ythhgmnpodgmlkaa
open Go.RowKit Go.Rx
set_option linter.unusedSimpArgs false
set_option maxRecDepth 100000
end Go.Proofs.Ythhgmnpodgmlkaa
namespace Go.Proofs.Ythhgmnpodgmlkaa
open Go.RowKit Go.Rx
set_option linter.unusedSimpArgs false
set_option maxRecDepth 100000
abbrev Sk := ByteArray × List ByteArray
def nmK (k : Nat) : ByteArray := if k = 0 then ⟨#[97]⟩ else if k = 1 then ⟨#[98]⟩ else if k = 2 then ⟨#[99]⟩ else ⟨#[100]⟩
def skT (x : Sk) : Tsk := ⟨x.1, pl1B, 0, false, x.2⟩
def tkS (t : Tsk) : Sk := (t.nm, t.af)
def hasN (L : List Sk) (s : ByteArray) : Bool := L.any fun x => decide (x.1 = s)
def subsA (L : List Sk) : Nat → List (List ByteArray)
  | 0 => [[]]
  | k + 1 => subsA L k ++ if hasN L (nmK k) then (subsA L k).map (· ++ [nmK k]) else []
def gens (turn : Nat) : Nat → List (List Sk)
  | 0 => [[]]
  | i + 1 => (gens turn i).flatMap fun L => (subsA L 4).map fun a => L ++ [(nmK ((i + turn) % 4), a)]
def rotS (L : List Sk) : List Sk := L.drop 1 ++ L.take 1
def okS (l : List Tsk) : Bool :=
  ((List.range l.length).all fun i => nameB (l.getD i default).nm && (decide (atN l (l.getD i default).nm = (i : Int)) && decide (afsP l (l.getD i default)))) && decide ((ordA l l.length).length = l.length)
def okG (L : List Sk) : Bool := okS (L.map skT) && okS ((rotS L).map skT)
set_option maxHeartbeats 4000000 in
theorem gens_ok : ((List.range 4).all fun turn => (List.range 4).all fun n => (gens turn (n + 1)).all okG) = true := by decide +kernel
end Go.Proofs.Ythhgmnpodgmlkaa
namespace Go.Proofs.Ythhgmnpodgmlkaa
open Go.RowKit Go.Rx
set_option linter.unusedSimpArgs false
set_option maxRecDepth 100000
def nrm (t : Tsk) : Tsk := skT (tkS t)
theorem nrm_getD (l : List Tsk) {i : Nat} (h : i < l.length) : (l.map nrm).getD i default = nrm (l.getD i default) := by
  simp [List.getD_eq_getElem?_getD, List.getElem?_map, List.getElem?_eq_getElem h]
theorem atG_nrm (s : ByteArray) : ∀ (l : List Tsk) (k : Nat), atG (l.map nrm) s k = atG l s k
  | [], _ => rfl
  | t :: l, k => by
    show (if (nrm t).nm = s then (k : Int) else atG (l.map nrm) s (k + 1)) = if t.nm = s then (k : Int) else atG l s (k + 1)
    rw [atG_nrm s l (k + 1)]; rfl
theorem atN_nrm (l : List Tsk) (s : ByteArray) : atN (l.map nrm) s = atN l s := atG_nrm s l 0
theorem freeB_nrm (l : List Tsk) (o : List Int) (t : Tsk) : ∀ k, freeB (l.map nrm) o (nrm t) k = freeB l o t k
  | 0 => rfl
  | k + 1 => by
    unfold freeB
    rw [freeB_nrm l o t k, atN_nrm]; rfl
theorem canB_nrm (l : List Tsk) (o : List Int) {i : Nat} (hi : i < l.length) : canB (l.map nrm) o i = canB l o i := by
  unfold canB
  rw [nrm_getD l hi, freeB_nrm]; rfl
theorem pickO_nrm (l : List Tsk) (o : List Int) : pickO (l.map nrm) o = pickO l o := by
  unfold pickO
  rw [List.length_map]
  have : (List.range l.length).find? (canB (l.map nrm) o) = (List.range l.length).find? (canB l o) := by
    have : ∀ L : List Nat, (∀ i ∈ L, i < l.length) → L.find? (canB (l.map nrm) o) = L.find? (canB l o) := fun L => by
      induction L with
      | nil => intro _; rfl
      | cons i L ih =>
        intro h
        simp only [List.find?_cons]
        rw [canB_nrm l o (h i (List.mem_cons_self ..)), ih fun j hj => h j (List.mem_cons_of_mem _ hj)]
    exact this _ fun i hi => List.mem_range.1 hi
  rw [this]
theorem ordA_nrm (l : List Tsk) : ∀ r, ordA (l.map nrm) r = ordA l r
  | 0 => rfl
  | r + 1 => by unfold ordA; rw [ordA_nrm l r, pickO_nrm]
theorem afP_nrm (l : List Tsk) (t : Tsk) (k : Nat) : afP (l.map nrm) (nrm t) k = afP l t k := by
  unfold afP
  rw [show afA (nrm t) k = afA t k from rfl, show afA (nrm t) (k - 1) = afA t (k - 1) from rfl, atN_nrm]; rfl
structure OkS (l : List Tsk) : Prop where
  nm : ∀ i, i < l.length → nameB (l.getD i default).nm = true
  at_ : ∀ i, i < l.length → decide (atN l (l.getD i default).nm = (i : Int)) = true
  af : ∀ i, i < l.length → afsP l (l.getD i default)
  ord : (ordA l l.length).length = l.length
theorem okS_nrm {l : List Tsk} (h : okS (l.map nrm) = true) : OkS l := by
  simp only [okS, Bool.and_eq_true, List.all_eq_true, List.mem_range, List.length_map, decide_eq_true_eq] at h
  obtain ⟨h1, h2⟩ := h
  refine ⟨fun i hi => ?_, fun i hi => ?_, fun i hi k hk => ?_, by rw [← ordA_nrm]; exact h2⟩
  · have := (h1 i hi).1
    rw [nrm_getD l hi] at this; exact this
  · have := (h1 i hi).2.1
    rw [nrm_getD l hi, atN_nrm] at this
    exact decide_eq_true this
  · have := (h1 i hi).2.2
    rw [nrm_getD l hi] at this
    have h3 := this k hk
    rw [afP_nrm] at h3; exact h3
theorem drawn_ok {l : List Tsk} {turn n : Nat} (ht : turn < 4) (hn : n < 4) (h : l.map tkS ∈ gens turn (n + 1)) : OkS l ∧ OkS (l.drop 1 ++ l.take 1) := by
  have h1 := gens_ok
  rw [List.all_eq_true] at h1
  have h2 := h1 turn (List.mem_range.2 ht)
  rw [List.all_eq_true] at h2
  have h3 := h2 n (List.mem_range.2 hn)
  rw [List.all_eq_true] at h3
  have h4 := h3 _ h
  simp only [okG, Bool.and_eq_true] at h4
  refine ⟨okS_nrm ?_, okS_nrm ?_⟩
  · have := h4.1
    rw [List.map_map] at this; exact this
  · have := h4.2
    rw [show (rotS (l.map tkS)).map skT = (l.drop 1 ++ l.take 1).map nrm by
      simp only [rotS, List.map_append, List.map_drop, List.map_take, List.map_map]; rfl] at this
    exact this
def cr1 : ByteArray := ⟨#[42, 32, 42, 32, 42, 32, 42, 32, 42]⟩
def cr2 : ByteArray := ⟨#[48, 44, 49, 48, 44, 50, 48, 44, 51, 48, 44, 52, 48, 44, 53, 48, 32, 42, 32, 42, 32, 42, 32, 42]⟩
def cr3 : ByteArray := ⟨#[48, 32, 42, 32, 42, 32, 42, 32, 42]⟩
def cr4 : ByteArray := ⟨#[48, 44, 50, 48, 44, 52, 48, 32, 42, 32, 42, 32, 42, 32, 42]⟩
def crOk (s : ByteArray) : Bool := crB s && decide (ctT (crP (ptL s)) = s)
theorem crs_ok : ([cr1, cr2, cr3, cr4].all crOk) = true := by decide +kernel
def dn1 : ByteArray := ⟨#[97, 110, 110]⟩
def dn2 : ByteArray := ⟨#[98, 111, 98]⟩
def dn3 : ByteArray := ⟨#[99, 121]⟩
theorem dns_ok : ([dn1, dn2, dn3].all nameB) = true := by decide +kernel
structure Drw (d : Dg) : Prop where
  nm : d.nm ∈ [dn1, dn2, dn3]
  cron : d.cron ∈ [cr1, cr2, cr3, cr4]
  fr0 : 0 ≤ d.fr
  fr1 : d.fr ≤ d.to
  to1 : d.to ≤ 1000
  ts : OkS d.ts
  len0 : 0 < d.ts.length
  len4 : d.ts.length ≤ 4
  pool : ∀ i, i < d.ts.length → (d.ts.getD i default).pool ∈ [pl1B, pl2B, pl4B]
  re0 : ∀ i, i < d.ts.length → 0 ≤ (d.ts.getD i default).re
  re3 : ∀ i, i < d.ts.length → (d.ts.getD i default).re ≤ 3
theorem pool_ne {s : ByteArray} (h : s ∈ [pl1B, pl2B, pl4B]) : poolN s ≠ 0 := by
  have : ([pl1B, pl2B, pl4B].all fun s => decide (poolN s ≠ 0)) = true := by decide +kernel
  rw [List.all_eq_true] at this
  exact of_decide_eq_true (this s h)
theorem drw_ok {d : Dg} (h : Drw d) : dagB d = true := by
  have h1 := crs_ok
  rw [List.all_eq_true] at h1
  have h2 := h1 _ h.cron
  simp only [crOk, Bool.and_eq_true] at h2
  have h3 := dns_ok
  rw [List.all_eq_true] at h3
  have a0 := h.fr0
  have a1 := h.fr1
  have a2 := h.to1
  have a3 := h.len0
  have a4 := h.len4
  unfold dagB
  rw [show dgN d = true from h3 _ h.nm, h2.1, show dgK d = true from h2.2, show dgR d = true from inR_spec.2 ⟨by omega, by omega⟩, show dgQ d = true from inR_spec.2 ⟨by omega, by omega⟩, show dgL d = true from inR_spec.2 ⟨by omega, by omega⟩,
    show dgO d = true from decide_eq_true h.ts.ord, decide_eq_true (show tsksP d.ts from fun i hi => ?_)]
  · rfl
  · unfold tskB tskH
    rw [h.ts.nm i hi, h.ts.at_ i hi, decide_eq_false (pool_ne (h.pool i hi)), show inR (d.ts.getD i default).re 0 3 = true from inR_spec.2 ⟨h.re0 i hi, h.re3 i hi⟩, decide_eq_true (h.ts.af i hi)]
    rfl
theorem nameB_size {s : ByteArray} (h : nameB s = true) : s.size ≤ 8 := by
  simp only [nameB, Bool.and_eq_true] at h
  have := inR_spec.1 h.2
  omega
theorem drw_sm {d : Dg} (h : Drw d) (hl : ∀ i, i < d.ts.length → (d.ts.getD i default).af.length ≤ 1048576) : SmD d := by
  have h3 := dns_ok
  rw [List.all_eq_true] at h3
  have h4 := nameB_size (h3 _ h.nm)
  have h5 : ([cr1, cr2, cr3, cr4].all fun s => decide (s.size ≤ 30)) = true := by decide +kernel
  rw [List.all_eq_true] at h5
  have h6 : d.cron.size ≤ 30 := of_decide_eq_true (h5 _ h.cron)
  refine ⟨by omega, by omega, ⟨by have := h.len4; omega, hl⟩, fun i hi => ?_⟩
  have := nameB_size (h.ts.nm i hi)
  omega
theorem drw_text {d : Dg} (h : Drw d) : 0 < (dtT d).size := by
  unfold dtT
  rw [if_pos (drw_ok h)]
  unfold dtB
  have hl := h.len0
  obtain ⟨n, hn⟩ : ∃ n, d.ts.length = n + 1 := ⟨d.ts.length - 1, by omega⟩
  rw [hn, show dtA d (n + 1) = tlB (d.ts.getD n default) (dtA d n) from rfl, tlB, ByteArray.size_append, show sNl.size = 1 from rfl]
  omega
end Go.Proofs.Ythhgmnpodgmlkaa
namespace Go.Proofs.Ythhgmnpodgmlkaa
open Go.RowKit Go.Rx
set_option linter.unusedSimpArgs false
set_option maxRecDepth 100000
def CLe (c c' : C) : Prop := ∀ (w : World) (S : Nat → Prop) (y : Value), Sh w S c y → Sh w S c' y
theorem CLe.refl (c : C) : CLe c c := fun _ _ _ h => h
theorem CLe.nil (sz : Nat) : CLe nilS (.sh sz []) := fun w S y h => by
  cases h; exact .nil sz
def RLe : List (List C) → List (List C) → Prop
  | [], [] => True
  | r :: R, r' :: R' => (r.length = r'.length ∧ ∀ j, CLe (r.getD j .bad) (r'.getD j .bad)) ∧ RLe R R'
  | _, _ => False
theorem RLe.spec : ∀ {R R' : List (List C)}, RLe R R' → R'.length = R.length ∧ ∀ i, (R'.getD i []).length = (R.getD i []).length ∧ ∀ j, CLe (cellAt R i j) (cellAt R' i j)
  | [], [], _ => ⟨rfl, fun i => ⟨rfl, fun j => CLe.refl _⟩⟩
  | [], _ :: _, h => h.elim
  | _ :: _, [], h => h.elim
  | r :: R, r' :: R', h => by
    obtain ⟨h1, h2⟩ := RLe.spec h.2
    refine ⟨by simp [h1], fun i => ?_⟩
    cases i with
    | zero => exact ⟨h.1.1.symm, h.1.2⟩
    | succ i => exact h2 i
theorem CLe.sh {sz : Nat} {R R' : List (List C)} (h : RLe R R') : CLe (.sh sz R) (.sh sz R') := fun w S y hs => by
  obtain ⟨h1, h2⟩ := h.spec
  cases hs with
  | nil => rw [List.eq_nil_of_length_eq_zero (h1.trans rfl)]; exact .nil sz
  | slice _ _ a len cap vals hl hc hm hS hz hcell hsub =>
    exact .slice sz R' a len cap vals (h1.trans hl) hc hm hS (fun i hi => (h2 i).1.trans (hz i hi)) hcell fun i j hi hj => (h2 i).2 j w S _ (hsub i j hi hj)
def isPl : C → Bool
  | .v _ => true
  | .sh _ _ => true
  | _ => false
theorem CLe.cr {c c' : C} (h : CLe c c') (h1 : isPl c = true) (h2 : isPl c' = true) {w : World} {g : Gh} {y : Value} (hc : CR w [] g none c y) : CR w [] g none c' y := by
  have hs : Sh w g.S c y := by
    cases c with
    | v x => cases (show y = x from hc); exact .v _
    | sh sz R => exact hc
    | _ => cases h1
  have := h w g.S y hs
  cases c' with
  | v x => cases this; rfl
  | sh sz R => exact this
  | _ => cases h2
def XLe : X → X → Prop
  | .one c, .one c' => c = c' ∨ (CLe c c' ∧ isPl c = true ∧ isPl c' = true)
  | .agg cs, .agg cs' => cs.length = cs'.length ∧ ∀ j, j < cs.length → cs.getD j .bad = cs'.getD j .bad ∨ (CLe (cs.getD j .bad) (cs'.getD j .bad) ∧ isPl (cs.getD j .bad) = true ∧ isPl (cs'.getD j .bad) = true)
  | _, _ => False
theorem XLe.xr : ∀ {x x' : X} (_ : XLe x x') {w : World} {g : Gh} {y : Value}, XR w [] g x y → XR w [] g x' y
  | .one c, .one c', h, w, g, y, hx => by
    rcases h with rfl | ⟨h, h1, h2⟩
    · exact hx
    · exact h.cr h1 h2 hx
  | .agg cs, .agg cs', h, w, g, y, hx => by
    obtain ⟨ys, e1, e2, e3⟩ := hx
    refine ⟨ys, e1, e2.trans h.1, fun j hj => ?_⟩
    have hj' : j < cs.length := by rw [h.1]; exact hj
    rcases h.2 j hj' with he | ⟨h3, h1, h2⟩
    · rw [← he]; exact e3 j hj'
    · exact h3.cr h1 h2 (e3 j hj')
  | .one _, .agg _, h, _, _, _, _ => h.elim
  | .agg _, .one _, h, _, _, _, _ => h.elim
theorem pureWeak1 {P : Program} {f : FuncId} {x x' : X} {xs ret : List X} (h : PureFn P f (x' :: xs) ret) (hx : XLe x x') : PureFn P f (x :: xs) ret :=
  ⟨h.1, fun w ys _ h1 h2 => h.2 w ys h1 fun i hi => by
    cases i with
    | zero => exact hx.xr (h2 0 hi)
    | succ i => exact h2 (i + 1) hi⟩
def shN : List ByteArray → C
  | [] => nilS
  | a :: l => shS (a :: l)
theorem shN_le (l : List ByteArray) : CLe (shN l) (shS l) := by
  cases l with
  | nil => exact CLe.nil 1
  | cons a l => exact CLe.refl _
theorem tkR_le : ∀ l : List Tsk, RLe (tkR shN l) (tkR shS l)
  | [] => trivial
  | t :: l => ⟨⟨rfl, fun j => by
      match j with
      | 0 => exact CLe.refl _
      | 1 => exact CLe.refl _
      | 2 => exact CLe.refl _
      | 3 => exact CLe.refl _
      | 4 => exact shN_le t.af
      | j + 5 => exact CLe.refl _⟩, tkR_le l⟩
theorem l12At_okN (l : List Tsk) (hl : l.length ≤ 140737488355328) (s : ByteArray) : PureFn Try.prog 163 [.one (.sh 5 (tkR shN l)), st s] [i64 (atN l s)] :=
  pureWeak1 (l12At_ok l hl s) (.inr ⟨CLe.sh (tkR_le l), rfl, rfl⟩)
theorem l12At_nil (s : ByteArray) : PureFn Try.prog 163 [.one nilS, st s] [i64 (-1)] :=
  pureWeak1 (l12At_ok [] (by decide) s) (.inr ⟨CLe.nil 5, rfl, rfl⟩)
def shTn (l : List Tsk) : C := .sh 5 (tkR shN l)
theorem dagText_okN (d : Dg) (hs : SmD d) : PureFn Try.prog 156 [.agg (dgC shTn d)] [st (dtT d), bo (dagB d)] :=
  pureWeak1 (dagText_ok d hs) ⟨rfl, fun j hj => by
    match j, hj with
    | 0, _ => exact .inl rfl
    | 1, _ => exact .inl rfl
    | 2, _ => exact .inl rfl
    | 3, _ => exact .inl rfl
    | 4, _ => exact .inl rfl
    | 5, _ => exact .inr ⟨CLe.sh (tkR_le d.ts), rfl, rfl⟩⟩
theorem gens_first {turn : Nat} : ∀ {i : Nat} {L : List Sk}, L ∈ gens turn (i + 1) → (L.getD 0 default).2 = [] ∧ 0 < L.length
  | 0, L, h => by
    simp only [gens, List.flatMap_cons, List.flatMap_nil, List.append_nil, List.mem_map] at h
    obtain ⟨a, ha, rfl⟩ := h
    have : subsA [] 4 = [[]] := by decide +kernel
    rw [this] at ha
    rw [List.mem_singleton.1 ha]
    exact ⟨rfl, Nat.zero_lt_one⟩
  | i + 1, L, h => by
    unfold gens at h
    obtain ⟨L0, h0, h1⟩ := List.mem_flatMap.1 h
    obtain ⟨a, _, rfl⟩ := List.mem_map.1 h1
    obtain ⟨k1, k2⟩ := gens_first h0
    cases L0 with
    | nil => cases k2
    | cons x L0 => exact ⟨k1, by simp⟩
theorem gens_step {turn i : Nat} {L : List Sk} {a : List ByteArray} (h : L ∈ gens turn i) (ha : a ∈ subsA L 4) : L ++ [(nmK ((i + turn) % 4), a)] ∈ gens turn (i + 1) := by
  unfold gens
  exact List.mem_flatMap.2 ⟨L, h, List.mem_map.2 ⟨a, ha, rfl⟩⟩
theorem subs_skip {L : List Sk} {k : Nat} {a : List ByteArray} (h : a ∈ subsA L k) : a ∈ subsA L (k + 1) := by
  unfold subsA; exact List.mem_append_left _ h
theorem subs_take {L : List Sk} {k : Nat} {a : List ByteArray} (h : a ∈ subsA L k) (hn : hasN L (nmK k) = true) : a ++ [nmK k] ∈ subsA L (k + 1) := by
  unfold subsA
  rw [if_pos hn]
  exact List.mem_append_right _ (List.mem_map.2 ⟨a, h, rfl⟩)
theorem hasN_at {l : List Tsk} {s : ByteArray} (h : ¬ atN l s < 0) : hasN (l.map tkS) s = true := by
  obtain ⟨j, hj, e⟩ := atN_mem (decide_eq_false h)
  unfold hasN
  rw [List.any_eq_true]
  refine ⟨tkS l[j], List.mem_map.2 ⟨l[j], List.getElem_mem hj, rfl⟩, decide_eq_true ?_⟩
  rw [nmA, List.getD_eq_getElem?_getD, List.getElem?_eq_getElem hj] at e
  exact e
theorem subs_len {L : List Sk} : ∀ {k : Nat} {a : List ByteArray}, a ∈ subsA L k → a.length ≤ k
  | 0, a, h => by rw [List.mem_singleton.1 h]; exact Nat.le_refl _
  | k + 1, a, h => by
    unfold subsA at h
    rcases List.mem_append.1 h with h | h
    · have := subs_len h; omega
    · split at h
      · obtain ⟨b, hb, rfl⟩ := List.mem_map.1 h
        have := subs_len hb
        rw [List.length_append]; simp only [List.length_cons, List.length_nil]; omega
      · cases h
end Go.Proofs.Ythhgmnpodgmlkaa
namespace Go.Proofs.Ythhgmnpodgmlkaa
open Go.RowKit Go.Rx
set_option linter.unusedSimpArgs false
set_option maxRecDepth 100000
def ownN : List ByteArray → C
  | [] => nilS
  | a :: l => ownS (a :: l)
def TkOk (L : List Tsk) : Prop := ∀ i, i < L.length → (L.getD i default).pool ∈ [pl1B, pl2B, pl4B] ∧ 0 ≤ (L.getD i default).re ∧ (L.getD i default).re ≤ 3
def dgCell (D : Nat) : List Tsk → C
  | [] => nilS
  | t :: l => .rs (D, 5632) [] 5 0 (t :: l).length
def dgRoot (D : Nat) : List Tsk → Store
  | [] => []
  | t :: l => [((D, 5632), ⟨.sl, 5, tkR ownN (t :: l)⟩)]
abbrev T2' := Go.Rx.T2
def afCell (D : Nat) : List ByteArray → C
  | [] => nilS
  | t :: l => .rs (D, 5248) [] 1 0 (t :: l).length
def afRoot (D : Nat) : List ByteArray → Store
  | [] => []
  | t :: l => [((D, 5248), ⟨.sl, 1, vR (strs (t :: l))⟩)]
theorem T2_setl (i : Nat) (v : V) : ∀ {t t' : List V}, Go.Rx.T2 t t' → Go.Rx.T2 (t.set i v) (t'.set i v)
  | [], [], h => h
  | [], _ :: _, h => h.elim
  | _ :: _, [], h => h.elim
  | _ :: t, _ :: t', h => by
    cases i with
    | zero => exact ⟨.inl rfl, h.2⟩
    | succ i => exact ⟨h.1, T2_setl i v h.2⟩
theorem tkR_ts : ∀ l : List Tsk, toShRR (tkR ownN l) = tkR shN l
  | [] => rfl
  | t :: l => by
    show toShR (tkC ownN t) :: toShRR (tkR ownN l) = tkC shN t :: tkR shN l
    rw [tkR_ts l]
    congr 1
    cases h : t.af with
    | nil => simp only [tkC, h, ownN, shN, nilS, toShR, toSh]
    | cons a b => simp only [tkC, h, ownN, shN, ownS, shS, toShR, toSh, vR_ts]
theorem tkR_tk (f : List ByteArray → C) (l : List Tsk) : (tkR f l).take l.length = tkR f l := List.take_of_length_le (by simp [tkR])
theorem tkR_tk1 (f : List ByteArray → C) (t : Tsk) (l : List Tsk) : (tkR f (t :: l)).take (l.length + 1) = tkR f (t :: l) := tkR_tk f (t :: l)
theorem tkR_len1 (f : List ByteArray → C) (t : Tsk) (l : List Tsk) : (tkR f (t :: l)).length = l.length + 1 := by simp [tkR]
theorem tkR_snoc1 (f : List ByteArray → C) (t u : Tsk) (l : List Tsk) : tkR f (t :: (l ++ [u])) = tkR f (t :: l) ++ [tkC f u] := by simp [tkR]
theorem tkR_one (f : List ByteArray → C) (t : Tsk) : tkR f [t] = [tkC f t] := rfl
theorem TkOk_snoc {L : List Tsk} {T : Tsk} (h : TkOk L) (h1 : T.pool ∈ [pl1B, pl2B, pl4B]) (h2 : 0 ≤ T.re) (h3 : T.re ≤ 3) : TkOk (L ++ [T]) := fun i hi => by
  rw [List.length_append, List.length_singleton] at hi
  by_cases e : i < L.length
  · rw [show (L ++ [T]).getD i default = L.getD i default by simp [List.getD_eq_getElem?_getD, List.getElem?_append_left e]]; exact h i e
  · have : i = L.length := by omega
    subst this
    rw [show (L ++ [T]).getD L.length default = T by simp [List.getD_eq_getElem?_getD]]; exact ⟨h1, h2, h3⟩
theorem gens_af {turn : Nat} : ∀ {i : Nat} {L : List Sk}, L ∈ gens turn i → ∀ x ∈ L, x.2.length ≤ 4
  | 0, L, h => by rw [List.mem_singleton.1 h]; intro x hx; cases hx
  | i + 1, L, h => by
    unfold gens at h
    obtain ⟨L0, h0, h1⟩ := List.mem_flatMap.1 h
    obtain ⟨a, ha, rfl⟩ := List.mem_map.1 h1
    intro x hx
    rcases List.mem_append.1 hx with h2 | h2
    · exact gens_af h0 x h2
    · rw [List.mem_singleton.1 h2]; exact subs_len ha
theorem getD_all {p : Tsk → Prop} {l : List Tsk} : (∀ i, i < l.length → p (l.getD i default)) ↔ ∀ t ∈ l, p t :=
  ⟨fun h t ht => by
    obtain ⟨i, hi, rfl⟩ := List.mem_iff_getElem.1 ht
    have := h i hi
    rwa [List.getD_eq_getElem?_getD, List.getElem?_eq_getElem hi] at this,
   fun h i hi => by rw [List.getD_eq_getElem?_getD, List.getElem?_eq_getElem hi]; exact h _ (List.getElem_mem hi)⟩
theorem strs_len1 (a : ByteArray) (l : List ByteArray) : (strs (a :: l)).length = l.length + 1 := strs_length (a :: l)
theorem w64 {x : Int} (h0 : 0 ≤ x) (h1 : x ≤ 9223372036854775807) : IntKind.i64.wrap x = x := by rw [IntKind.wrap_i64]; omega
theorem all_setA {f : Root × Obj' → Bool} {r : Root} {ob : Obj'} (hf : ∀ k, f (k, ob) = true) : ∀ {s : Store}, s.all f = true → (setA s r ob).all f = true
  | [], h => h
  | (q, o) :: s, h => by
    rw [List.all_cons, Bool.and_eq_true] at h
    unfold setA
    split
    · rw [List.all_cons, hf, h.2]; rfl
    · rw [List.all_cons, h.1, all_setA hf h.2]; rfl
theorem dropAny {t t' : List V} {d : Nat} {l l' g : Store} (h : Go.Rx.T2 t t') (hs : SubS l l') (h1 : t'.all (refOkV d l') = true) (h2 : (l'.all fun e => refOkO d l' e.2) = true) (h3 : (g.all fun e => refOkO d l' e.2) = true) : Weak ⟨t, d, l, g⟩ ⟨t', d, l', g⟩ :=
  Weak.drop h hs (by rw [dropOk, h1, h2, h3]; rfl)
variable {Q : Ex → St → Prop} {k : List Fr} {l : List SOp} {σ : St} {dst : Option Tmp} {a a2 : Operand} {ats : Array TypeId} {ty : TypeId}
set_option maxHeartbeats 4000000 in
theorem l12Dag_any (D : Nat) (r : Root) {c : List UInt8} {p : Nat × Int} (hc : c.length ≤ 1048576) (hp : p.1 ≤ c.length)
    (ha : xsV [ev σ a] = some [.one (.pt r [] 3 0 0)]) (hr : getA σ.o r = some (curOb c p)) (hd : σ.d ≤ D) (hD : belowS D σ.o = true) (hG : ∀ l' : Store, (σ.o.all fun e => refOkO D l' e.2) = true)
    (H1 : ∀ (p' : Nat × Int) (d : Dg) (cell : C) (ex : Store), p'.1 ≤ c.length → Drw d → (∀ i, i < d.ts.length → (d.ts.getD i default).af.length ≤ 4) → (cell = shTn d.ts ∧ ex = [] ∨ cell = .rs (D, 5632) [] 5 0 d.ts.length ∧ ex = [((D, 5632), ⟨.sl, 5, tkR ownN d.ts⟩)]) →
      GoL Try.prog l k (exitSt σ.t σ.d dst ⟨[], D, ((D, 128), ⟨.box, 6, [dgC (fun _ => cell) d]⟩) :: ex, setA σ.o r (curOb c p')⟩ [.agg (dgC (fun _ => cell) d)]) Q) :
    GoL Try.prog (⟨dst, .call { callee := .value (.func 157), args := #[a], argTypes := ats }, ty, none⟩ :: l) k σ Q := by
  refine GoL_inl2X [2, 9, 19] D Try.func157 rfl (by decide) mo (by decide +kernel) rfl ha hd hD fun K hK => ?_
  generalize σ.o = s at hr hD hG H1 hK
  have hgo : ∀ (l' : Store) (p' : Nat × Int), ((setA s r (curOb c p')).all fun e => refOkO D l' e.2) = true := fun l' p' => all_setA (fun _ => rfl) (hG l')
  have hgo2 := hgo
  simp only [refOkO] at hgo2
  have hr1 : ∀ ob, getA (setA s r ob) r = some ob := getA_here hr
  have hu : ∀ ob, upS D (setA s r ob) = [] := fun ob => upS_below (by rw [belowS_setA]; exact hD)
  have hv : ∀ ob, dnS D (setA s r ob) = setA s r ob := fun ob => dnS_below (by rw [belowS_setA]; exact hD)
  have hrD : r.1 < D := belowS_get hD r _ hr
  have hne : ∀ n, ((D, n) = r) = False := fun n => eq_false fun e => by rw [← e] at hrD; exact Nat.lt_irrefl _ hrD
  have hne2 : ∀ n, r ≠ (D, n) := fun n e => by rw [e] at hrD; exact Nat.lt_irrefl _ hrD
  have hD1 : ∀ ob, belowS (D + 1) (setA s r ob) = true := fun ob => by rw [belowS_setA]; exact belowS_mono (Nat.le_succ D) hD
  have hs0 := setA_same hr
  rw [← hs0]
  clear hs0
  have hcs : ∀ p, (curOb c p).sz = 3 := fun _ => rfl
  have hcl : ∀ p, (curOb c p).rows.length = 1 := fun _ => rfl
  have hnr : ∀ n, (r = (D, n)) = False := fun n => eq_false (hne2 n)
  have hdr : decide (r.1 < D) = true := decide_eq_true hrD
  have hDl : decide (D < D + 1) = true := decide_eq_true (Nat.lt_succ_self D)
  simp only [Try.ntmps157, Try.results157, push_cast, seval, slimX, List.contains_cons, List.contains_nil, Nat.reduceBEq, Bool.or_false, Bool.and_true, Bool.and_false, Bool.true_and, Bool.false_and, if_true, if_false, Bool.false_eq_true]
  refine pick_any (D + 1) r (D, 832) [dn1, dn2, dn3] hc hp (by decide) (by decide) (hne2 _) rfl (by simp only [push_cast, seval, setA_setA, hne, hr1]) (by simp only [push_cast, seval]; rfl) (by simp only; omega) (by simp only [push_cast, seval, setA_setA, hD1, hDl]) fun p1 xn hp1 hxn => ?_
  have hDD : (D < D) = False := eq_false (Nat.lt_irrefl D)
  simp only [Try.ntmps157, Try.results157, push_cast, seval, setA_setA, hcs, hcl, hne, hr1, hu, hv, hDD]
  refine pick_any (D + 1) r (D, 1024) [cr1, cr2, cr3, cr4] hc hp1 (by decide) (by decide) (hne2 _) rfl (by simp only [push_cast, seval, setA_setA, hne, hr1]) (by simp only [push_cast, seval]; rfl) (by simp only; omega) (by simp only [push_cast, seval, setA_setA, hD1, hDl]) fun p2 xc hp2 hxc => ?_
  simp only [Try.ntmps157, Try.results157, push_cast, seval, setA_setA, hcs, hcl, hne, hr1, hu, hv, hDD]
  refine below_any (D + 1) r hc hp2 rfl (by simp only [push_cast, seval, setA_setA, hne, hr1]) (by simp only; omega) (by simp only [push_cast, seval, setA_setA, hD1, hDl]) fun p3 x1 hp3 hx1 _ => ?_
  obtain ⟨hx10, hx11⟩ := hx1 (by decide)
  have w1 : IntKind.i64.wrap (10 * x1) = 10 * x1 := w64 (by omega) (by omega)
  simp only [Try.ntmps157, Try.results157, push_cast, seval, setA_setA, hcs, hcl, hne, hr1, hu, hv, hDD, w1]
  refine once_any (D + 1) r hc hp3 rfl (by simp only [push_cast, seval, setA_setA, hne, hr1]) (by simp only; omega) (by simp only [push_cast, seval, setA_setA, hD1, hDl]) fun p4 bc hp4 => ?_
  simp only [Try.ntmps157, Try.results157, push_cast, seval, setA_setA, hcs, hcl, hne, hr1, hu, hv, hDD]
  refine Go_anyF [0, 1, 2] (by decide +kernel) fun K2 hK2 => ?_
  refine AnyF_fl 0 (by decide +kernel) rfl rfl rfl ?_
  simp only [push_cast, seval]
  refine AnyF_fl 1 (by decide +kernel) rfl rfl rfl ?_
  simp only [push_cast, seval]
  refine AnyF_fl 2 (by decide +kernel) rfl rfl rfl ?_
  simp only [push_cast, seval]
  refine AnyF_1 3 [0, 1] (by decide +kernel) rfl rfl (by decide +kernel) ?_
  refine below_any (D + 1) r hc hp4 rfl (by simp only [push_cast, seval, setA_setA, hne, hr1]) (by simp only; omega) (by simp only [push_cast, seval, setA_setA, hD1, hDl]) fun p5 x2 hp5 hx2 _ => ?_
  obtain ⟨hx20, hx21⟩ := hx2 (by decide)
  have w2 : IntKind.i64.wrap (60 * x2) = 60 * x2 := w64 (by omega) (by omega)
  have w3 : IntKind.i64.wrap (10 * x1 + 60 * x2) = 10 * x1 + 60 * x2 := w64 (by omega) (by omega)
  simp only [push_cast, seval, setA_setA, hcs, hcl, hne, hr1, hu, hv, hDD, w2]
  refine AnyF_1 4 [0, 1] (by decide +kernel) rfl rfl (by decide +kernel) ?_
  simp only [push_cast, seval, setA_setA, hcs, hcl, hne, hr1, hu, hv, hDD, w2]
  refine AnyF_1 5 [0] (by decide +kernel) rfl rfl (by decide +kernel) ?_
  simp only [push_cast, seval, setA_setA, hcs, hcl, hne, hr1, hu, hv, hDD, w3]
  refine AnyF_1 6 [] (by decide +kernel) rfl rfl (by decide +kernel) ?_
  simp only [push_cast, seval, setA_setA, hcs, hcl, hne, hr1, hu, hv, hDD]
  refine AnyF_1 7 [] (by decide +kernel) rfl rfl (by decide +kernel) ?_
  simp only [push_cast, seval, setA_setA, hcs, hcl, hne, hr1, hu, hv, hDD]
  refine AnyF_end (by decide +kernel) (hK2 _ ?_)
  simp only [push_cast, seval, setA_setA, hcs, hcl, hne, hr1, hu, hv, hDD]
  refine below_any (D + 1) r hc hp5 rfl (by simp only [push_cast, seval, setA_setA, hne, hr1]) (by simp only; omega) (by simp only [push_cast, seval, setA_setA, hD1, hDl]) fun p6 x3 hp6 hx3 _ => ?_
  obtain ⟨hx30, hx31⟩ := hx3 (by decide)
  have w4 : IntKind.i64.wrap (1 + x3) = 1 + x3 := w64 (by omega) (by omega)
  simp only [push_cast, seval, setA_setA, hcs, hcl, hne, hr1, hu, hv, hDD, w4]
  refine below_any (D + 1) r hc hp6 rfl (by simp only [push_cast, seval, setA_setA, hne, hr1]) (by simp only; omega) (by simp only [push_cast, seval, setA_setA, hD1, hDl]) fun p7 x4 hp7 hx4 _ => ?_
  obtain ⟨hx40, hx41⟩ := hx4 (by decide)
  simp only [push_cast, seval, setA_setA, hcs, hcl, hne, hr1, hu, hv, hDD]
  obtain ⟨n0, rfl⟩ := Int.eq_ofNat_of_zero_le hx30
  obtain ⟨t0, rfl⟩ := Int.eq_ofNat_of_zero_le hx40
  have hn4 : n0 < 4 := by omega
  have ht4 : t0 < 4 := by omega
  refine Go_loop (α := {q : (Nat × Int) × List Tsk // q.1.1 ≤ c.length ∧ q.2.length ≤ n0 + 1 ∧ q.2.map tkS ∈ gens t0 q.2.length ∧ TkOk q.2})
    (fun q => ⟨tp 108 [(0, .x (.one (.pt r [] 3 0 0))), (2, .x (.one (.pt (D, 128) [] 6 0 0))), (3, .x (.one (.pt (D, 192) [] 6 0 0))), (4, .x (.one (.rs (D, 2048) [] 1 0 4))), (5, .x (i64 (1 + (n0 : Int)))), (6, int t0), (7, int q.1.2.length)], D,
      [((D, 2048), ⟨.sl, 1, vR (strs [nmK 0, nmK 1, nmK 2, nmK 3])⟩), ((D, 192), ⟨.box, 6, [[.v (.string xn), .v (.string xc), .v (.int .i64 (10 * x1)), .v (.int .i64 (10 * x1 + 60 * x2)), .v (.bool (!bc)), dgCell D q.1.2]]⟩),
       ((D, 128), ⟨.box, 6, [[.v (.string ⟨#[]⟩), .v (.string ⟨#[]⟩), .v (.int .i64 0), .v (.int .i64 0), .v (.bool false), nilS]]⟩)] ++ dgRoot D q.1.2, setA s r (curOb c q.1.1)⟩)
    (fun q => n0 + 1 - q.1.2.length) ⟨(p7, []), hp7, Nat.zero_le _, List.mem_singleton.2 rfl, fun i h => absurd h (Nat.not_lt_zero _)⟩ ?_ ?_
  · simp only [dgCell, dgRoot, List.append_nil, List.length_nil, nilS]
    rw [show vR (strs [nmK 0, nmK 1, nmK 2, nmK 3]) = [[C.v (.string ⟨#[97]⟩)], [C.v (.string ⟨#[98]⟩)], [C.v (.string ⟨#[99]⟩)], [C.v (.string ⟨#[100]⟩)]] from rfl]
    have hdr : decide (r.1 < D) = true := decide_eq_true hrD
    exact dropAny (by simp only [push_cast, seval, Int.ofNat_zero]) (by simp only [push_cast, seval]) (by simp only [push_cast, seval, Int.ofNat_zero, hdr]) (by simp only [push_cast, seval]) (hgo _ _)
  · rintro ⟨⟨pc, L⟩, hpc, hL, hg, htk⟩ X hX
    simp only at hpc hL hg htk ⊢
    by_cases hlt : (L.length : Int) < 1 + (n0 : Int)
    · have hLn : L.length < n0 + 1 := by omega
      have ws : IntKind.i64.wrap ((L.length : Int) + (t0 : Int)) = ((L.length + t0 : Nat) : Int) := wN (by omega) (by omega)
      obtain ⟨m, hm⟩ : ∃ m, m = L.length + t0 := ⟨_, rfl⟩
      rw [← hm] at ws
      have hrem : (m : Int).tmod 4 = ((m % 4 : Nat) : Int) := tmodN m 4
      obtain ⟨kx, hkx⟩ : ∃ kx, kx = m % 4 := ⟨_, rfl⟩
      rw [← hkx] at hrem
      have hk4 : kx < 4 := by omega
      have hki : (kx : Int) < 4 := by omega
      have hgn := strs_getD [nmK 0, nmK 1, nmK 2, nmK 3] (i := kx) hk4
      have hgn2 : [nmK 0, nmK 1, nmK 2, nmK 3].getD kx default = nmK kx := by
        have : kx = 0 ∨ kx = 1 ∨ kx = 2 ∨ kx = 3 := by omega
        rcases this with h | h | h | h <;> rw [h] <;> rfl
      rw [hgn2] at hgn
      have hlen4 : (strs [nmK 0, nmK 1, nmK 2, nmK 3]).length = 4 := rfl
      obtain ⟨nl, hnl⟩ : ∃ nl, nl = L.length := ⟨_, rfl⟩
      rw [← hnl] at ws hlt hm
      simp only [push_cast, seval, ← hnl, hlt]
      refine Go_cut [] (fun τ => ∃ (pc' : Nat × Int) (pool : ByteArray) (re : Int) (past : Bool), pc'.1 ≤ c.length ∧ pool ∈ [pl1B, pl2B, pl4B] ∧ 0 ≤ re ∧ re < 3 ∧ τ.d = D ∧ τ.g = setA s r (curOb c pc') ∧
        T2' τ.t (tp 108 [(0, .x (.one (.pt r [] 3 0 0))), (2, .x (.one (.pt (D, 128) [] 6 0 0))), (3, .x (.one (.pt (D, 192) [] 6 0 0))), (4, .x (.one (.rs (D, 2048) [] 1 0 4))), (5, .x (i64 (1 + (n0 : Int)))), (6, int t0), (7, int nl), (8, .x (.one (.pt (D, 512) [] 5 0 0)))]) ∧
        SubS τ.l ([((D, 512), ⟨.box, 5, [[.v (.string (nmK kx)), .v (.string pool), .v (.int .i64 re), .v (.bool past), nilS]]⟩), ((D, 2048), ⟨.sl, 1, vR (strs [nmK 0, nmK 1, nmK 2, nmK 3])⟩), ((D, 192), ⟨.box, 6, [[.v (.string xn), .v (.string xc), .v (.int .i64 (10 * x1)), .v (.int .i64 (10 * x1 + 60 * x2)), .v (.bool (!bc)), dgCell D L]]⟩),
       ((D, 128), ⟨.box, 6, [[.v (.string ⟨#[]⟩), .v (.string ⟨#[]⟩), .v (.int .i64 0), .v (.int .i64 0), .v (.bool false), nilS]]⟩)] ++ dgRoot D L)) ?_ ?_
      · rcases L with _ | ⟨t1, L1⟩ <;> simp only [dgCell, dgRoot, List.append_nil, List.cons_append, List.nil_append]
        all_goals
          refine Go_anyF [0, 1, 2, 3, 4, 5, 6, 7, 10, 12] (by decide +kernel) fun K2 hK2 => ?_
          refine AnyF_fl 0 (by decide +kernel) rfl rfl rfl ?_
          simp only [push_cast, seval]
          refine AnyF_fl 1 (by decide +kernel) rfl rfl rfl ?_
          simp only [push_cast, seval]
          refine AnyF_fl 2 (by decide +kernel) rfl rfl rfl ?_
          simp only [push_cast, seval]
          refine AnyF_fl 3 (by decide +kernel) rfl rfl rfl ?_
          simp only [push_cast, seval, ws]
          refine AnyF_fl 4 (by decide +kernel) rfl rfl rfl ?_
          simp only [push_cast, seval, hrem]
          refine AnyF_fl 5 (by decide +kernel) rfl rfl rfl ?_
          simp only [push_cast, seval, hki, hk4]
          refine AnyF_fl 6 (by decide +kernel) rfl rfl rfl ?_
          simp only [push_cast, seval, vR_getD, hgn, hlen4, hk4]
          refine AnyF_fl 7 (by decide +kernel) rfl rfl rfl ?_
          simp only [push_cast, seval]
          refine AnyF_fl 10 (by decide +kernel) rfl rfl rfl ?_
          simp only [push_cast, seval]
          refine AnyF_fl 12 (by decide +kernel) rfl rfl rfl ?_
          simp only [push_cast, seval]
          refine AnyF_2 8 15 [0, 1, 2, 3, 4, 5, 6, 7, 10, 12] [0, 1, 2, 3, 4, 5, 6, 7, 10, 12] (by decide +kernel) rfl rfl rfl (by decide +kernel) (by decide +kernel) ?_ ?_
          · simp only [push_cast, seval, setA_setA, hcs, hcl, hr1, hne, hu, hv, hDD, ws, hrem, hki, hk4, vR_getD, hgn, hlen4]
            refine AnyF_2 9 15 [0, 1, 2, 3, 4, 5, 6, 10, 12] [0, 1, 2, 3, 4, 5, 6, 7, 10, 12] (by decide +kernel) rfl rfl rfl (by decide +kernel) (by decide +kernel) ?_ ?_
            · refine pick_any (D + 1) r (D, 3264) [pl1B, pl2B, pl4B] hc hpc (by decide) (by decide) (hne2 _) rfl (by simp only [push_cast, seval, setA_setA, hne, hr1]) (by simp only [push_cast, seval]; rfl) (by simp only; omega) (by simp only [push_cast, seval, setA_setA, hD1, hDl]) fun pA xp hpA hxp => ?_
              simp only [push_cast, seval, setA_setA, hcs, hcl, hr1, hne, hu, hv, hDD, ws, hrem, hki, hk4, vR_getD, hgn, hlen4]
              refine AnyF_2 11 15 [0, 1, 2, 3, 4, 5, 6, 12] [0, 1, 2, 3, 4, 5, 6, 10, 12] (by decide +kernel) rfl rfl rfl (by decide +kernel) (by decide +kernel) ?_ ?_
              · refine below_any (D + 1) r hc hpA rfl (by simp only [push_cast, seval, setA_setA, hne, hr1]) (by simp only; omega) (by simp only [push_cast, seval, setA_setA, hD1, hDl]) fun pB x5 hpB hx5 _ => ?_
                simp only [push_cast, seval, setA_setA, hcs, hcl, hr1, hne, hu, hv, hDD, ws, hrem, hki, hk4, vR_getD, hgn, hlen4]
                refine AnyF_2 13 15 [0, 1, 2, 3, 4, 5, 6] [0, 1, 2, 3, 4, 5, 6, 12] (by decide +kernel) rfl rfl rfl (by decide +kernel) (by decide +kernel) ?_ ?_
                · refine once_any (D + 1) r hc hpB rfl (by simp only [push_cast, seval, setA_setA, hne, hr1]) (by simp only; omega) (by simp only [push_cast, seval, setA_setA, hD1, hDl]) fun pC bp hpC => ?_
                  simp only [push_cast, seval, setA_setA, hcs, hcl, hr1, hne, hu, hv, hDD, ws, hrem, hki, hk4, vR_getD, hgn, hlen4]
                  refine AnyF_2 14 15 [0, 1, 2, 3, 4, 5] [0, 1, 2, 3, 4, 5, 6] (by decide +kernel) rfl rfl rfl (by decide +kernel) (by decide +kernel) ?_ ?_
                  · simp only [push_cast, seval, setA_setA, hcs, hcl, hr1, hne, hu, hv, hDD, ws, hrem, hki, hk4, vR_getD, hgn, hlen4]
                    refine AnyF_1 15 [0, 1, 2, 3, 4, 5] (by decide +kernel) rfl rfl (by decide +kernel) ?_
                    simp only [push_cast, seval, setA_setA, hcs, hcl, hr1, hne, hu, hv, hDD, ws, hrem, hki, hk4, vR_getD, hgn, hlen4]
                    refine AnyF_1 16 [] (by decide +kernel) rfl rfl (by decide +kernel) ?_
                    simp only [push_cast, seval, setA_setA, hcs, hcl, hr1, hne, hu, hv, hDD, ws, hrem, hki, hk4, vR_getD, hgn, hlen4]
                    refine AnyF_end (by decide +kernel) (hK2 _ ?_)
                    exact ⟨rfl, pC, xp, x5, bp, hpC, hxp, (hx5 (by decide)).1, (hx5 (by decide)).2, rfl, rfl, by simp only [push_cast, seval], by simp only [push_cast, seval, nilS]⟩
                  · simp only [push_cast, seval, setA_setA, hcs, hcl, hr1, hne, hu, hv, hDD, ws, hrem, hki, hk4, vR_getD, hgn, hlen4]
                    refine AnyF_1 14 [0, 1, 2, 3, 4, 5] (by decide +kernel) rfl rfl (by decide +kernel) ?_
                    simp only [push_cast, seval, setA_setA, hcs, hcl, hr1, hne, hu, hv, hDD, ws, hrem, hki, hk4, vR_getD, hgn, hlen4]
                    refine AnyF_1 16 [] (by decide +kernel) rfl rfl (by decide +kernel) ?_
                    simp only [push_cast, seval, setA_setA, hcs, hcl, hr1, hne, hu, hv, hDD, ws, hrem, hki, hk4, vR_getD, hgn, hlen4]
                    refine AnyF_end (by decide +kernel) (hK2 _ ?_)
                    exact ⟨rfl, pC, xp, x5, bp, hpC, hxp, (hx5 (by decide)).1, (hx5 (by decide)).2, rfl, rfl, by simp only [push_cast, seval], by simp only [push_cast, seval, nilS]⟩
                · simp only [push_cast, seval, setA_setA, hcs, hcl, hr1, hne, hu, hv, hDD, ws, hrem, hki, hk4, vR_getD, hgn, hlen4]
                  refine AnyF_1 13 [0, 1, 2, 3, 4, 5, 6] (by decide +kernel) rfl rfl (by decide +kernel) ?_
                  refine once_any (D + 1) r hc hpB rfl (by simp only [push_cast, seval, setA_setA, hne, hr1]) (by simp only; omega) (by simp only [push_cast, seval, setA_setA, hD1, hDl]) fun pC bp hpC => ?_
                  simp only [push_cast, seval, setA_setA, hcs, hcl, hr1, hne, hu, hv, hDD, ws, hrem, hki, hk4, vR_getD, hgn, hlen4]
                  refine AnyF_1 14 [0, 1, 2, 3, 4, 5] (by decide +kernel) rfl rfl (by decide +kernel) ?_
                  simp only [push_cast, seval, setA_setA, hcs, hcl, hr1, hne, hu, hv, hDD, ws, hrem, hki, hk4, vR_getD, hgn, hlen4]
                  refine AnyF_1 16 [] (by decide +kernel) rfl rfl (by decide +kernel) ?_
                  simp only [push_cast, seval, setA_setA, hcs, hcl, hr1, hne, hu, hv, hDD, ws, hrem, hki, hk4, vR_getD, hgn, hlen4]
                  refine AnyF_end (by decide +kernel) (hK2 _ ?_)
                  exact ⟨rfl, pC, xp, x5, bp, hpC, hxp, (hx5 (by decide)).1, (hx5 (by decide)).2, rfl, rfl, by simp only [push_cast, seval], by simp only [push_cast, seval, nilS]⟩
              · simp only [push_cast, seval, setA_setA, hcs, hcl, hr1, hne, hu, hv, hDD, ws, hrem, hki, hk4, vR_getD, hgn, hlen4]
                refine AnyF_1 11 [0, 1, 2, 3, 4, 5, 6, 12] (by decide +kernel) rfl rfl (by decide +kernel) ?_
                refine below_any (D + 1) r hc hpA rfl (by simp only [push_cast, seval, setA_setA, hne, hr1]) (by simp only; omega) (by simp only [push_cast, seval, setA_setA, hD1, hDl]) fun pB x5 hpB hx5 _ => ?_
                simp only [push_cast, seval, setA_setA, hcs, hcl, hr1, hne, hu, hv, hDD, ws, hrem, hki, hk4, vR_getD, hgn, hlen4]
                refine AnyF_1 13 [0, 1, 2, 3, 4, 5, 6] (by decide +kernel) rfl rfl (by decide +kernel) ?_
                refine once_any (D + 1) r hc hpB rfl (by simp only [push_cast, seval, setA_setA, hne, hr1]) (by simp only; omega) (by simp only [push_cast, seval, setA_setA, hD1, hDl]) fun pC bp hpC => ?_
                simp only [push_cast, seval, setA_setA, hcs, hcl, hr1, hne, hu, hv, hDD, ws, hrem, hki, hk4, vR_getD, hgn, hlen4]
                refine AnyF_1 14 [0, 1, 2, 3, 4, 5] (by decide +kernel) rfl rfl (by decide +kernel) ?_
                simp only [push_cast, seval, setA_setA, hcs, hcl, hr1, hne, hu, hv, hDD, ws, hrem, hki, hk4, vR_getD, hgn, hlen4]
                refine AnyF_1 16 [] (by decide +kernel) rfl rfl (by decide +kernel) ?_
                simp only [push_cast, seval, setA_setA, hcs, hcl, hr1, hne, hu, hv, hDD, ws, hrem, hki, hk4, vR_getD, hgn, hlen4]
                refine AnyF_end (by decide +kernel) (hK2 _ ?_)
                exact ⟨rfl, pC, xp, x5, bp, hpC, hxp, (hx5 (by decide)).1, (hx5 (by decide)).2, rfl, rfl, by simp only [push_cast, seval], by simp only [push_cast, seval, nilS]⟩
            · simp only [push_cast, seval, setA_setA, hcs, hcl, hr1, hne, hu, hv, hDD, ws, hrem, hki, hk4, vR_getD, hgn, hlen4]
              refine AnyF_1 9 [0, 1, 2, 3, 4, 5, 6, 10, 12] (by decide +kernel) rfl rfl (by decide +kernel) ?_
              refine pick_any (D + 1) r (D, 3264) [pl1B, pl2B, pl4B] hc hpc (by decide) (by decide) (hne2 _) rfl (by simp only [push_cast, seval, setA_setA, hne, hr1]) (by simp only [push_cast, seval]; rfl) (by simp only; omega) (by simp only [push_cast, seval, setA_setA, hD1, hDl]) fun pA xp hpA hxp => ?_
              simp only [push_cast, seval, setA_setA, hcs, hcl, hr1, hne, hu, hv, hDD, ws, hrem, hki, hk4, vR_getD, hgn, hlen4]
              refine AnyF_1 11 [0, 1, 2, 3, 4, 5, 6, 12] (by decide +kernel) rfl rfl (by decide +kernel) ?_
              refine below_any (D + 1) r hc hpA rfl (by simp only [push_cast, seval, setA_setA, hne, hr1]) (by simp only; omega) (by simp only [push_cast, seval, setA_setA, hD1, hDl]) fun pB x5 hpB hx5 _ => ?_
              simp only [push_cast, seval, setA_setA, hcs, hcl, hr1, hne, hu, hv, hDD, ws, hrem, hki, hk4, vR_getD, hgn, hlen4]
              refine AnyF_1 13 [0, 1, 2, 3, 4, 5, 6] (by decide +kernel) rfl rfl (by decide +kernel) ?_
              refine once_any (D + 1) r hc hpB rfl (by simp only [push_cast, seval, setA_setA, hne, hr1]) (by simp only; omega) (by simp only [push_cast, seval, setA_setA, hD1, hDl]) fun pC bp hpC => ?_
              simp only [push_cast, seval, setA_setA, hcs, hcl, hr1, hne, hu, hv, hDD, ws, hrem, hki, hk4, vR_getD, hgn, hlen4]
              refine AnyF_1 14 [0, 1, 2, 3, 4, 5] (by decide +kernel) rfl rfl (by decide +kernel) ?_
              simp only [push_cast, seval, setA_setA, hcs, hcl, hr1, hne, hu, hv, hDD, ws, hrem, hki, hk4, vR_getD, hgn, hlen4]
              refine AnyF_1 16 [] (by decide +kernel) rfl rfl (by decide +kernel) ?_
              simp only [push_cast, seval, setA_setA, hcs, hcl, hr1, hne, hu, hv, hDD, ws, hrem, hki, hk4, vR_getD, hgn, hlen4]
              refine AnyF_end (by decide +kernel) (hK2 _ ?_)
              exact ⟨rfl, pC, xp, x5, bp, hpC, hxp, (hx5 (by decide)).1, (hx5 (by decide)).2, rfl, rfl, by simp only [push_cast, seval], by simp only [push_cast, seval, nilS]⟩
          · simp only [push_cast, seval, setA_setA, hcs, hcl, hr1, hne, hu, hv, hDD, ws, hrem, hki, hk4, vR_getD, hgn, hlen4]
            refine AnyF_1 8 [0, 1, 2, 3, 4, 5, 6, 7, 10, 12] (by decide +kernel) rfl rfl (by decide +kernel) ?_
            simp only [push_cast, seval, setA_setA, hcs, hcl, hr1, hne, hu, hv, hDD, ws, hrem, hki, hk4, vR_getD, hgn, hlen4]
            refine AnyF_1 9 [0, 1, 2, 3, 4, 5, 6, 10, 12] (by decide +kernel) rfl rfl (by decide +kernel) ?_
            refine pick_any (D + 1) r (D, 3264) [pl1B, pl2B, pl4B] hc hpc (by decide) (by decide) (hne2 _) rfl (by simp only [push_cast, seval, setA_setA, hne, hr1]) (by simp only [push_cast, seval]; rfl) (by simp only; omega) (by simp only [push_cast, seval, setA_setA, hD1, hDl]) fun pA xp hpA hxp => ?_
            simp only [push_cast, seval, setA_setA, hcs, hcl, hr1, hne, hu, hv, hDD, ws, hrem, hki, hk4, vR_getD, hgn, hlen4]
            refine AnyF_1 11 [0, 1, 2, 3, 4, 5, 6, 12] (by decide +kernel) rfl rfl (by decide +kernel) ?_
            refine below_any (D + 1) r hc hpA rfl (by simp only [push_cast, seval, setA_setA, hne, hr1]) (by simp only; omega) (by simp only [push_cast, seval, setA_setA, hD1, hDl]) fun pB x5 hpB hx5 _ => ?_
            simp only [push_cast, seval, setA_setA, hcs, hcl, hr1, hne, hu, hv, hDD, ws, hrem, hki, hk4, vR_getD, hgn, hlen4]
            refine AnyF_1 13 [0, 1, 2, 3, 4, 5, 6] (by decide +kernel) rfl rfl (by decide +kernel) ?_
            refine once_any (D + 1) r hc hpB rfl (by simp only [push_cast, seval, setA_setA, hne, hr1]) (by simp only; omega) (by simp only [push_cast, seval, setA_setA, hD1, hDl]) fun pC bp hpC => ?_
            simp only [push_cast, seval, setA_setA, hcs, hcl, hr1, hne, hu, hv, hDD, ws, hrem, hki, hk4, vR_getD, hgn, hlen4]
            refine AnyF_1 14 [0, 1, 2, 3, 4, 5] (by decide +kernel) rfl rfl (by decide +kernel) ?_
            simp only [push_cast, seval, setA_setA, hcs, hcl, hr1, hne, hu, hv, hDD, ws, hrem, hki, hk4, vR_getD, hgn, hlen4]
            refine AnyF_1 16 [] (by decide +kernel) rfl rfl (by decide +kernel) ?_
            simp only [push_cast, seval, setA_setA, hcs, hcl, hr1, hne, hu, hv, hDD, ws, hrem, hki, hk4, vR_getD, hgn, hlen4]
            refine AnyF_end (by decide +kernel) (hK2 _ ?_)
            exact ⟨rfl, pC, xp, x5, bp, hpC, hxp, (hx5 (by decide)).1, (hx5 (by decide)).2, rfl, rfl, by simp only [push_cast, seval], by simp only [push_cast, seval, nilS]⟩
      · rintro ⟨tt, dd, ll, gg⟩ ⟨pc2, xp, x5, bp, hpc2, hxp, hx50, hx53, hd2, hg2, hT2, hS2⟩
        simp only at hd2 hg2 hT2 hS2
        rw [hd2, hg2]
        clear hd2 hg2
        simp only [push_cast, seval]
        refine Go_loop (α := {q : (Nat × Int) × List ByteArray × Nat // q.1.1 ≤ c.length ∧ q.2.2 ≤ 4 ∧ q.2.1 ∈ subsA (L.map tkS) q.2.2})
          (fun q => ⟨tp 108 [(0, .x (.one (.pt r [] 3 0 0))), (2, .x (.one (.pt (D, 128) [] 6 0 0))), (3, .x (.one (.pt (D, 192) [] 6 0 0))), (4, .x (.one (.rs (D, 2048) [] 1 0 4))), (5, .x (i64 (1 + (n0 : Int)))), (6, int t0), (7, int nl), (8, .x (.one (.pt (D, 512) [] 5 0 0))), (9, int q.1.2.2)], D,
            ([((D, 512), ⟨.box, 5, [[.v (.string (nmK kx)), .v (.string xp), .v (.int .i64 x5), .v (.bool bp), afCell D q.1.2.1]]⟩), ((D, 2048), ⟨.sl, 1, vR (strs [nmK 0, nmK 1, nmK 2, nmK 3])⟩), ((D, 192), ⟨.box, 6, [[.v (.string xn), .v (.string xc), .v (.int .i64 (10 * x1)), .v (.int .i64 (10 * x1 + 60 * x2)), .v (.bool (!bc)), dgCell D L]]⟩),
       ((D, 128), ⟨.box, 6, [[.v (.string ⟨#[]⟩), .v (.string ⟨#[]⟩), .v (.int .i64 0), .v (.int .i64 0), .v (.bool false), nilS]]⟩)] ++ dgRoot D L) ++ afRoot D q.1.2.1, setA s r (curOb c q.1.1)⟩)
          (fun q => 4 - q.1.2.2) ⟨(pc2, [], 0), hpc2, Nat.zero_le _, List.mem_singleton.2 rfl⟩ ?_ ?_
        · have hdr : decide (r.1 < D) = true := decide_eq_true hrD
          simp only [afCell, afRoot, List.append_nil]
          refine dropAny ?_ hS2 ?_ ?_ (hgo _ _)
          · have := T2_setl 9 (V.x (.one (.v (.int .i64 0)))) hT2
            exact this
          · rcases L with _ | ⟨t1, L1⟩ <;> simp only [push_cast, seval, dgCell, dgRoot, List.append_nil, List.cons_append, List.nil_append, Int.ofNat_zero, hdr, nilS]
          · rcases L with _ | ⟨t1, L1⟩ <;> simp only [push_cast, seval, dgCell, dgRoot, List.append_nil, List.cons_append, List.nil_append, hdr, nilS]
        · rintro ⟨⟨pk, af, kk⟩, hpk, hkk, hak⟩ Y hY
          simp only at hpk hkk hak ⊢
          by_cases hkt : (kk : Int) < 4
          · have hk' : kk < 4 := by omega
            have hgk := strs_getD [nmK 0, nmK 1, nmK 2, nmK 3] (i := kk) hk'
            have hgk2 : [nmK 0, nmK 1, nmK 2, nmK 3].getD kk default = nmK kk := by
              have : kk = 0 ∨ kk = 1 ∨ kk = 2 ∨ kk = 3 := by omega
              rcases this with h | h | h | h <;> rw [h] <;> rfl
            rw [hgk2] at hgk
            obtain ⟨k', hk1⟩ : ∃ k', k' = kk + 1 := ⟨_, rfl⟩
            have wk : IntKind.i64.wrap ((kk : Int) + 1) = (k' : Int) := wN (by omega) (by omega)
            rcases L with _ | ⟨t1, L1⟩
            · have kA := l12At_nil (nmK kk)
              unfold nilS at kA
              simp only [push_cast, seval, dgCell, dgRoot, nilS, List.append_nil, List.cons_append, List.nil_append, hkt, hk', hlen4, vR_getD, hgk]
              refine GoD_call rfl (by simp only [push_cast, seval]) kA rfl rfl ?_
              simp only [push_cast, seval, wk]
              refine ⟨_, ?_, hY ⟨(pk, af, k'), hpk, by simp only; omega, by rw [hk1]; exact subs_skip hak⟩ (by simp only; omega)⟩
              exact Weak.same (by simp only [push_cast, seval, dgCell, dgRoot, nilS, List.append_nil, List.cons_append, List.nil_append])
            · have kA := l12At_okN (t1 :: L1) (by omega) (nmK kk)
              simp only [push_cast, seval, dgCell, dgRoot, nilS, List.append_nil, List.cons_append, List.nil_append, hkt, hk', hlen4, vR_getD, hgk]
              refine GoD_call rfl (by simp only [push_cast, seval, tkR_tk1, tkR_ts]) kA rfl rfl ?_
              have hhas := hasN_at (l := t1 :: L1) (s := nmK kk)
              obtain ⟨at1, hat⟩ : ∃ at1, at1 = atN (t1 :: L1) (nmK kk) := ⟨_, rfl⟩
              rw [← hat] at hhas ⊢
              by_cases c1 : (0 : Int) ≤ at1
              · have hal := subs_len hak
                have a0 : af.length + 1 ≤ 4294967296 := by omega
                have haf1 := max_len a0
                have haf2 := room_le (b := 16) a0 (by decide)
                have haf3 := strs_snoc af (nmK kk)
                have haf4 := strs_length af
                rcases af with _ | ⟨a1, af1⟩
                all_goals
                  simp only [List.length_cons, List.length_nil, Nat.zero_add, List.nil_append] at haf1 haf2 haf3 haf4
                  simp only [push_cast, seval, c1, hcs, hcl, hr1, hne, afRoot, afCell, nilS, List.append_nil, List.cons_append, List.nil_append]
                  refine once_any (D + 1) r hc hpk rfl (by simp only [push_cast, seval, setA_setA, hne, hr1]) (by simp only; omega) (by simp only [push_cast, seval, setA_setA, hD1, hDl]) fun pk2 b2 hpk2 => ?_
                  cases b2
                  · simp only [push_cast, seval, setA_setA, hcs, hcl, hne, hr1, hu, hv, hDD, wk]
                    refine ⟨_, ?_, hY ⟨(pk2, _, k'), hpk2, by simp only; omega, by rw [hk1]; exact subs_skip hak⟩ (by simp only; omega)⟩
                    exact Weak.same (by simp only [push_cast, seval, hlen4, dgCell, dgRoot, afRoot, afCell, nilS, List.append_nil, List.cons_append, List.nil_append])
                  · have hnm := subs_take hak (hhas (by omega))
                    simp only [push_cast, seval, setA_setA, hcs, hcl, hne, hr1, hu, hv, hDD, hgo, hgo2, wk, hkt, hgk, hk', hlen4, vR_getD, flatRows, flatRow, haf1, haf2, haf3, haf4, hnr, hdr, tkR_len1, strs_len1]
                    refine ⟨_, ?_, hY ⟨(pk2, _, k'), hpk2, by simp only; omega, by rw [hk1]; exact hnm⟩ (by simp only; omega)⟩
                    have hv1 : vR (strs [nmK kk]) = [[.v (.string (nmK kk))]] := rfl
                    simp only [List.nil_append, List.cons_append, dgCell, dgRoot, afRoot, afCell, nilS, List.append_nil, List.length_append, List.length_cons, List.length_nil, Nat.zero_add, hv1]
                    exact dropAny (by simp only [push_cast, seval]) (by simp only [push_cast, seval]) (by simp only [push_cast, seval, hdr]) (by simp only [push_cast, seval]) (hgo _ _)
              · simp only [push_cast, seval, c1, wk]
                refine ⟨_, ?_, hY ⟨(pk, af, k'), hpk, by simp only; omega, by rw [hk1]; exact subs_skip hak⟩ (by simp only; omega)⟩
                exact Weak.same (by simp only [push_cast, seval, dgCell, dgRoot, nilS, List.append_nil, List.cons_append, List.nil_append])
          · have hk4 : kk = 4 := by omega
            subst hk4
            have hgs := gens_step hg hak
            rw [← hnl] at hgs
            obtain ⟨n1, hn1⟩ : ∃ n1, n1 = nl + 1 := ⟨_, rfl⟩
            have wn1 : IntKind.i64.wrap ((nl : Int) + 1) = (n1 : Int) := wN (by omega) (by omega)
            have b0 : nl + 1 ≤ 4294967296 := by omega
            have b1 := max_len b0
            have b2 := room_le (b := 72) b0 (by decide)
            have hq2 : (L ++ [(⟨nmK kx, xp, x5, bp, af⟩ : Tsk)]).map tkS ∈ gens t0 (L ++ [(⟨nmK kx, xp, x5, bp, af⟩ : Tsk)]).length := by
              rw [List.map_append, List.length_append, hkx, hm, ← hnl]; exact hgs
            have hX' := hX ⟨(pk, L ++ [⟨nmK kx, xp, x5, bp, af⟩]), hpk, by rw [List.length_append, List.length_singleton]; omega, hq2, TkOk_snoc htk hxp hx50 (by simp only; omega)⟩ (by simp only; rw [List.length_append, List.length_singleton]; omega)
            rw [hnl] at b1 b2
            have b5 : L.tail.length ≤ 9223372036854775805 := by rw [List.length_tail]; omega
            rcases L with _ | ⟨t1, L1⟩ <;> rcases af with _ | ⟨a1, af1⟩
            all_goals
              simp only [List.length_cons, List.length_nil, Nat.zero_add] at b1 b2
              simp only [List.tail_cons, List.tail_nil, List.length_nil] at b5
              simp only [Try.ntmps157, Try.results157, push_cast, seval, wn1, b2, b5, hkt, dgCell, dgRoot, afCell, afRoot, ownN, nilS, List.append_nil, List.cons_append, List.nil_append, hgo, hgo2, hnr, hdr, tkR_len1, strs_len1]
            all_goals
              rw [hnl] at hn1
              simp only [List.length_cons, List.length_nil, Nat.zero_add] at hn1
              refine ⟨_, ?_, hX'⟩
              simp only [List.nil_append, List.cons_append, dgCell, dgRoot, List.append_nil, List.length_append, List.length_cons, List.length_nil, Nat.zero_add, nilS, tkR_snoc1, tkR_one, tkC, ownN, ownS, hn1]
              exact dropAny (by simp only [push_cast, seval]) (by simp only [push_cast, seval]) (by simp only [push_cast, seval, hdr]) (by simp only [push_cast, seval]) (hgo _ _)
    · have hLe : L.length = n0 + 1 := by omega
      have hg1 : L.map tkS ∈ gens t0 (n0 + 1) := by rw [← hLe]; exact hg
      obtain ⟨hok1, hok2⟩ := drawn_ok ht4 hn4 hg1
      have hfst := (gens_first hg1).1
      obtain ⟨t1, L1, rfl⟩ : ∃ t1 L1, L = t1 :: L1 := by
        cases L with
        | nil => cases hLe
        | cons a b => exact ⟨a, b, rfl⟩
      have haf : t1.af = [] := hfst
      have haf4 : ∀ t ∈ t1 :: L1, t.af.length ≤ 4 := fun t ht => gens_af hg1 (tkS t) (List.mem_map.2 ⟨t, ht, rfl⟩)
      have htk' : ∀ t ∈ t1 :: L1, t.pool ∈ [pl1B, pl2B, pl4B] ∧ 0 ≤ t.re ∧ t.re ≤ 3 := (getD_all (p := fun t => t.pool ∈ [pl1B, pl2B, pl4B] ∧ 0 ≤ t.re ∧ t.re ≤ 3)).1 htk
      have hdrw : ∀ ts : List Tsk, ts.length = n0 + 1 → (∀ t ∈ ts, t ∈ t1 :: L1) → OkS ts → Drw ⟨xn, xc, 10 * x1, 10 * x1 + 60 * x2, !bc, ts⟩ := fun ts h1 h2 h3 =>
        ⟨hxn, hxc, by simp only; omega, by simp only; omega, by simp only; omega, h3, by simp only; omega, by simp only; omega,
          (getD_all (p := fun t => t.pool ∈ [pl1B, pl2B, pl4B])).2 fun t ht => (htk' t (h2 t ht)).1, (getD_all (p := fun t => 0 ≤ t.re)).2 fun t ht => (htk' t (h2 t ht)).2.1, (getD_all (p := fun t => t.re ≤ 3)).2 fun t ht => (htk' t (h2 t ht)).2.2⟩
      have hend := fun pc hpc => H1 pc ⟨xn, xc, 10 * x1, 10 * x1 + 60 * x2, !bc, t1 :: L1⟩ (.rs (D, 5632) [] 5 0 (t1 :: L1).length) _ hpc (hdrw _ hLe (fun t h => h) hok1) ((getD_all (p := fun t => t.af.length ≤ 4)).2 haf4) (.inr ⟨rfl, rfl⟩)
      by_cases w5 : (1 : Int) < 1 + (n0 : Int)
      case neg =>
        have hL1 : L1 = [] := by cases L1 with
          | nil => rfl
          | cons a b => simp only [List.length_cons] at hLe; omega
        subst hL1
        simp only [Try.ntmps157, Try.results157, push_cast, seval, w5, hlt, dgCell, dgRoot, nilS, List.append_nil, List.cons_append, List.nil_append, hgo, hgo2, hnr, hdr, hne]
        refine hK _ ⟨tp 108 [(2, .x (.one (.pt (D, 128) [] 6 0 0)))], D, ((D, 128), ⟨.box, 6, [dgC (fun _ => .rs (D, 5632) [] 5 0 1) ⟨xn, xc, 10 * x1, 10 * x1 + 60 * x2, !bc, [t1]⟩]⟩) :: [((D, 5632), ⟨.sl, 5, tkR ownN [t1]⟩)], setA s r (curOb c pc)⟩ _ ?_ rfl rfl (by simp only [Try.ntmps157, Try.results157, push_cast, seval, dgC]) (hend pc hpc)
        simp only [dgC]
        exact dropAny (by simp only [push_cast, seval]) (by simp only [push_cast, seval]) (by simp only [push_cast, seval, hdr]) (by simp only [push_cast, seval]) (hgo _ _)
      case pos =>
        have hlt2 : ¬ ((L1.length : Int) + 1 < 1 + (n0 : Int)) := by simp only [List.length_cons] at hLe; omega
        simp only [Try.ntmps157, Try.results157, push_cast, seval, hlt2, w5, dgCell, dgRoot, nilS, List.append_nil, List.cons_append, List.nil_append, hgo, hgo2, hnr, hdr, hne]
        refine once_any (D + 1) r hc hpc rfl (by simp only [push_cast, seval, setA_setA, hne, hr1]) (by simp only; omega) (by simp only [push_cast, seval, setA_setA, hD1, hDl]) fun pf bf hpf => ?_
        cases bf
        · simp only [Try.ntmps157, Try.results157, push_cast, seval, setA_setA, hcs, hcl, hne, hr1, hu, hv, hDD, hgo, hgo2, hnr, hdr, tkR_len1]
          refine hK _ ⟨tp 108 [(2, .x (.one (.pt (D, 128) [] 6 0 0)))], D, ((D, 128), ⟨.box, 6, [dgC (fun _ => .rs (D, 5632) [] 5 0 (L1.length + 1)) ⟨xn, xc, 10 * x1, 10 * x1 + 60 * x2, !bc, t1 :: L1⟩]⟩) :: [((D, 5632), ⟨.sl, 5, tkR ownN (t1 :: L1)⟩)], setA s r (curOb c pf)⟩ _ ?_ rfl rfl (by simp only [Try.ntmps157, Try.results157, push_cast, seval, dgC]) (hend pf hpf)
          simp only [dgC]
          exact dropAny (by simp only [push_cast, seval]) (by simp only [push_cast, seval]) (by simp only [push_cast, seval, hdr]) (by simp only [push_cast, seval]) (hgo _ _)
        · have hg0 : (tkR ownN (t1 :: L1)).getD 0 [] = [.v (.string t1.nm), .v (.string t1.pool), .v (.int .i64 t1.re), .v (.bool t1.past), .v (.slice none 0 0)] := by
            show tkC ownN t1 = _
            rw [tkC, haf]; rfl
          have hps2 : 0 < L1.length + 1 := Nat.succ_pos _
          have hps3 : 0 < L1.length := by simp only [List.length_cons] at hLe; omega
          have hps5 : (1 + L1.length = L1.length + 1) = True := eq_true (Nat.add_comm _ _)
          have hps0 : L1.length + 1 ≤ 4294967296 := by simp only [List.length_cons] at hLe; omega
          have hps6 : L1.length ≤ 9223372036854775806 := by omega
          have hps7 := room_le (b := 72) hps0 (by decide)
          have hps4 : (1 : Int) ≤ (L1.length : Int) + 1 := by omega
          have hps : (0 : Int) < (L1.length : Int) + 1 := by omega
          have hlen4 : (strs [nmK 0, nmK 1, nmK 2, nmK 3]).length = 4 := rfl
          simp only [Try.ntmps157, Try.results157, push_cast, seval, setA_setA, hcs, hcl, hne, hr1, hu, hv, hDD, hgo, hgo2, hnr, hdr, tkR_len1, hg0, hlen4, hps, hps2]
          refine Go_anyF [0, 1, 2, 3] (by decide +kernel) fun K2 hK2 => ?_
          refine AnyF_fl 0 (by decide +kernel) rfl rfl rfl ?_
          simp only [push_cast, seval]
          refine AnyF_fl 1 (by decide +kernel) rfl rfl rfl ?_
          simp only [push_cast, seval]
          refine AnyF_fl 2 (by decide +kernel) rfl rfl rfl ?_
          simp only [push_cast, seval]
          refine AnyF_fl 3 (by decide +kernel) rfl rfl rfl ?_
          simp only [push_cast, seval]
          refine AnyF_1 4 [0, 1, 2] (by decide +kernel) rfl rfl (by decide +kernel) ?_
          simp only [push_cast, seval, setA_setA, hcs, hcl, hne, hr1, hu, hv, hDD, hgo, hgo2, hnr, hdr, tkR_len1, hg0, hlen4, hps, hps2, hps3, hps4]
          refine AnyF_1 5 [0, 1] (by decide +kernel) rfl rfl (by decide +kernel) ?_
          simp only [push_cast, seval, setA_setA, hcs, hcl, hne, hr1, hu, hv, hDD, hgo, hgo2, hnr, hdr, tkR_len1, hg0, hlen4, hps, hps2, hps3, hps4, hps5, hps6, hps7, flatRows, flatRow]
          refine AnyF_1 6 [] (by decide +kernel) rfl rfl (by decide +kernel) ?_
          simp only [push_cast, seval, setA_setA, hcs, hcl, hne, hr1, hu, hv, hDD, hgo, hgo2, hnr, hdr]
          refine AnyF_1 7 [] (by decide +kernel) rfl rfl (by decide +kernel) ?_
          simp only [push_cast, seval, setA_setA, hcs, hcl, hne, hr1, hu, hv, hDD, hgo, hgo2, hnr, hdr]
          refine AnyF_end (by decide +kernel) (hK2 _ ?_)
          simp only [Try.ntmps157, Try.results157, push_cast, seval, setA_setA, hcs, hcl, hne, hr1, hu, hv, hDD, hgo, hgo2, hnr, hdr]
          have hrot : toShRR ((tkR ownN (t1 :: L1)).drop 1 ++ [[.v (.string t1.nm), .v (.string t1.pool), .v (.int .i64 t1.re), .v (.bool t1.past), .v (.slice none 0 0)]]) = tkR shN (L1 ++ [t1]) := by
            have hg1' : tkC ownN t1 = [.v (.string t1.nm), .v (.string t1.pool), .v (.int .i64 t1.re), .v (.bool t1.past), .v (.slice none 0 0)] := hg0
            rw [← tkR_ts, ← hg1']
            show toShRR (tkR ownN L1 ++ [tkC ownN t1]) = _
            simp only [tkR, List.map_append, List.map_cons, List.map_nil]
          rw [hrot]
          have hend2 := H1 pf ⟨xn, xc, 10 * x1, 10 * x1 + 60 * x2, !bc, L1 ++ [t1]⟩ (shTn (L1 ++ [t1])) _ hpf (hdrw _ (by rw [List.length_append, List.length_singleton]; simp only [List.length_cons] at hLe; omega) (fun t h => by
            rcases List.mem_append.1 h with h | h
            · exact List.mem_cons_of_mem _ h
            · rw [List.mem_singleton.1 h]; exact List.mem_cons_self ..) hok2) ((getD_all (p := fun t => t.af.length ≤ 4)).2 fun t h => by
            rcases List.mem_append.1 h with h | h
            · exact haf4 t (List.mem_cons_of_mem _ h)
            · rw [List.mem_singleton.1 h, haf]; exact Nat.zero_le _) (.inl ⟨rfl, rfl⟩)
          refine hK _ ⟨tp 108 [(2, .x (.one (.pt (D, 128) [] 6 0 0)))], D, ((D, 128), ⟨.box, 6, [dgC (fun _ => shTn (L1 ++ [t1])) ⟨xn, xc, 10 * x1, 10 * x1 + 60 * x2, !bc, L1 ++ [t1]⟩]⟩) :: [], setA s r (curOb c pf)⟩ _ ?_ rfl rfl (by simp only [Try.ntmps157, Try.results157, push_cast, seval, dgC, shTn]) hend2
          simp only [dgC, shTn]
          exact dropAny (by simp only [push_cast, seval]) (by simp only [push_cast, seval]) (by simp only [push_cast, seval, hdr]) (by simp only [push_cast, seval]) (hgo _ _)
end Go.Proofs.Ythhgmnpodgmlkaa
namespace Go.Proofs.Ythhgmnpodgmlkaa
open Go.RowKit Go.Rx
set_option linter.unusedSimpArgs false
set_option maxRecDepth 100000
def longB (n : Nat) (b : UInt8) : ByteArray := ⟨(List.replicate n b).toArray⟩
theorem longB_size (n : Nat) (b : UInt8) : (longB n b).size = n := by
  show (List.replicate n b).toArray.size = n
  simp
def fillB (n : Nat) (b : UInt8) (i : Nat) : List (List C) := byR (List.replicate i b ++ List.replicate (n - i) 0)
theorem fillB_length {n i : Nat} (b : UInt8) (h : i ≤ n) : (fillB n b i).length = n := by simp [fillB, byR]; omega
theorem fillB_zero (n : Nat) (b : UInt8) : List.replicate n [C.v (.int .u8 0)] = fillB n b 0 := by simp [fillB, byR]
theorem fillB_all (n : Nat) (b : UInt8) : fillB n b n = byR (List.replicate n b) := by simp [fillB]
theorem fillB_set {n i : Nat} (b : UInt8) (h : i < n) : (fillB n b i).set i [.v (.int .u8 b.toNat)] = fillB n b (i + 1) := by
  obtain ⟨m, hm⟩ : ∃ m, n - i = m + 1 := ⟨n - i - 1, by omega⟩
  have h2 : n - (i + 1) = m := by omega
  unfold fillB byR
  rw [List.map_append, List.set_append, if_neg (by simp), hm, h2, List.replicate_succ' (n := i), List.append_assoc, List.map_append]
  simp [List.replicate_succ]
theorem fillB_getD {n i : Nat} (b : UInt8) (h : i < n) : (fillB n b i).getD i [] = [.v (.int .u8 0)] := by
  obtain ⟨m, hm⟩ : ∃ m, n - i = m + 1 := ⟨n - i - 1, by omega⟩
  unfold fillB byR
  rw [hm, List.map_append, List.getD_eq_getElem?_getD, List.getElem?_append_right (by simp)]
  simp [List.replicate_succ]
theorem long_ok (n : Nat) (b : UInt8) (hn : n ≤ 1048576) : PureFn Try.prog 81 [i64 n, .one (.v (.int .u8 b.toNat))] [st (longB n b)] := by
  refine PureFn_of_Go Try.func81 rfl (by decide) mo (by decide +kernel) ?_
  have q1 : n ≤ 281474976710656 := by omega
  have q2 : n ≤ 9223372036854775807 := by omega
  simp only [Try.ntmps81, Try.results81, push_cast, seval, Nat.mul_one, q1, q2]
  refine Go_loop (α := {i : Nat // i ≤ n})
    (fun i => ⟨tp 20 [(0, .x (i64 n)), (1, .x (.one (.v (.int .u8 b.toNat)))), (4, .x (st ⟨#[]⟩)), (5, .x (.one (.rs (0, 512) [] 1 0 n))), (6, int i.1)], 0, [((0, 512), ⟨.sl, 1, fillB n b i.1⟩)], []⟩)
    (fun i => n - i.1) ⟨0, Nat.zero_le _⟩ ?_ ?_
  · rw [← fillB_zero]
    exact Weak.drop (by simp only [push_cast, seval, Int.ofNat_zero]) (by simp only [push_cast, seval, Int.ofNat_zero]) (by simp only [push_cast, seval, Int.ofNat_zero])
  · rintro ⟨i, hi⟩ X hX
    have l1 := fillB_length b hi
    by_cases hlt : (i : Int) < (n : Int)
    · have hi' : i < n := by omega
      have fs := fillB_set b hi'
      have fg := fillB_getD b hi'
      obtain ⟨i', hi1⟩ : ∃ i', i' = i + 1 := ⟨_, rfl⟩
      rw [← hi1] at fs
      have hw : IntKind.i64.wrap ((i : Int) + 1) = (i' : Int) := wN (by omega) (by omega)
      simp only [push_cast, seval, hlt, hi', l1, fs, fg, hw]
      refine ⟨_, ?_, hX ⟨i', by omega⟩ (by simp only; omega)⟩
      exact Weak.same (by simp only [push_cast, seval])
    · have hin : i = n := by omega
      subst hin
      have ht := fillB_all i b
      have ht2 : (byR (List.replicate i b)).take i = byR (List.replicate i b) := List.take_of_length_le (by simp [byR])
      have hfin : (⟨(List.replicate i b).toArray⟩ : ByteArray) = longB i b := rfl
      simp only [Try.ntmps81, Try.results81, push_cast, seval, hlt, ht, ht2, hfin]
end Go.Proofs.Ythhgmnpodgmlkaa
namespace Go.Proofs.Ythhgmnpodgmlkaa
open Go.RowKit Go.Rx
set_option linter.unusedSimpArgs false
set_option maxRecDepth 100000
theorem jsA_sizeB {b : Nat} {l : List ByteArray} (h : ∀ i, i < l.length → (l.getD i default).size ≤ b) : ∀ i, i ≤ l.length → (jsA l i).size ≤ (b + 1) * i
  | 0, _ => Nat.le_refl _
  | i + 1, hi => by
    have h1 := jsA_sizeB h i (by omega)
    have h2 := h i (by omega)
    unfold jsA
    rw [ByteArray.size_append, Nat.mul_succ]
    split
    · rw [ByteArray.size_append]; simp only [show (⟨#[44]⟩ : ByteArray).size = 1 from rfl]; omega
    · omega
theorem tlB_sizeB {x : Tsk} (hn : x.nm.size ≤ 8) (hp : x.pool.size ≤ 4) (h0 : 0 ≤ x.re) (h3 : x.re ≤ 3) (hl : x.af.length ≤ 4) (ha : ∀ k, k < x.af.length → (x.af.getD k default).size ≤ 8) (s : ByteArray) : (tlB x s).size ≤ s.size + 80 := by
  have hj := jsA_sizeB ha x.af.length (Nat.le_refl _)
  have hd := decB_size x.re.toNat (by omega)
  have e4 : (tl4 x s).size ≤ s.size + 29 := by
    unfold tl4 tl3 tl2 tl1
    rw [ByteArray.size_append, ByteArray.size_append, ByteArray.size_append, ByteArray.size_append, ByteArray.size_append, ByteArray.size_append, spB_size, show sTask.size = 5 from rfl]
    omega
  have e5 : (tl5 x s).size ≤ s.size + 34 := by
    unfold tl5; split
    · rw [ByteArray.size_append, show sPast.size = 5 from rfl]; omega
    · rw [ByteArray.size_append, show sFree.size = 5 from rfl]; omega
  have e6 : (tl6 x s).size ≤ s.size + 71 := by
    unfold tl6; split
    · rw [ByteArray.size_append, ByteArray.size_append, spB_size]; omega
    · omega
  unfold tlB
  rw [ByteArray.size_append, show sNl.size = 1 from rfl]; omega
theorem drw_tsize {d : Dg} (h : Drw d) (hl : ∀ i, i < d.ts.length → (d.ts.getD i default).af.length ≤ 4) : (dtT d).size ≤ 420 := by
  have h3 := dns_ok
  rw [List.all_eq_true] at h3
  have h4 := nameB_size (h3 _ h.nm)
  have h5 : ([cr1, cr2, cr3, cr4].all fun s => decide (s.size ≤ 30)) = true := by decide +kernel
  rw [List.all_eq_true] at h5
  have h6 : d.cron.size ≤ 30 := of_decide_eq_true (h5 _ h.cron)
  have f0 := h.fr0
  have f1 := h.fr1
  have f2 := h.to1
  have g1 := decB_size d.fr.toNat (by omega)
  have g2 := decB_size d.to.toNat (by omega)
  have hp : ∀ s ∈ [pl1B, pl2B, pl4B], s.size ≤ 4 := by
    have : ([pl1B, pl2B, pl4B].all fun s => decide (s.size ≤ 4)) = true := by decide +kernel
    rw [List.all_eq_true] at this
    exact fun s hs => of_decide_eq_true (this s hs)
  have e0 : (dhB d).size ≤ 100 := by
    have e4 : (dh4 d).size ≤ 82 := by
      unfold dh4 dh3 dh2 dh1
      rw [ByteArray.size_append, ByteArray.size_append, ByteArray.size_append, ByteArray.size_append, ByteArray.size_append, ByteArray.size_append, ByteArray.size_append, ByteArray.size_append, show sDag.size = 4 from rfl, show sCron.size = 6 from rfl, show sFrom.size = 6 from rfl, show sTo.size = 4 from rfl, show sNl.size = 1 from rfl]
      omega
    unfold dhB; split
    · rw [ByteArray.size_append, show sCatch.size = 8 from rfl]; omega
    · rw [ByteArray.size_append, show sLatest.size = 7 from rfl]; omega
  have e1 : ∀ i, i ≤ d.ts.length → (dtA d i).size ≤ 100 + 80 * i := fun i => by
    induction i with
    | zero => intro _; exact e0
    | succ i ih =>
      intro hi
      have h1 := ih (by omega)
      have hi' : i < d.ts.length := by omega
      have h2 := tlB_sizeB (x := d.ts.getD i default) (nameB_size (h.ts.nm i hi')) (hp _ (h.pool i hi')) (h.re0 i hi') (h.re3 i hi') (hl i hi') (fun k hk => by
        have h7 := h.ts.af i hi' k hk
        simp only [afP, Bool.and_eq_true, Bool.not_eq_true'] at h7
        obtain ⟨j, hj, e⟩ := atN_mem h7.1.1
        rw [show (d.ts.getD i default).af.getD k default = afA (d.ts.getD i default) k from rfl, ← e]
        exact nameB_size (h.ts.nm j hj)) (dtA d i)
      rw [show dtA d (i + 1) = tlB (d.ts.getD i default) (dtA d i) from rfl]
      omega
  have e2 := e1 _ (Nat.le_refl _)
  have := h.len4
  unfold dtT
  rw [if_pos (drw_ok h)]
  unfold dtB
  omega
theorem ext_size (s : ByteArray) (a b : Nat) : (s.extract a b).size ≤ s.size := by
  rw [ByteArray.size_extract]; omega
theorem lnA_size (s : ByteArray) : ∀ i, ∀ x ∈ (lnA s i).2, x.size ≤ s.size
  | 0, x, h => by cases h
  | i + 1, x, h => by
    unfold lnA at h
    split at h
    · rcases List.mem_append.1 h with h | h
      · exact lnA_size s i x h
      · rw [List.mem_singleton.1 h]; exact ext_size ..
    · exact lnA_size s i x h
theorem lnL_size {s : ByteArray} {x : ByteArray} (h : x ∈ lnL s) : x.size ≤ s.size := by
  unfold lnL at h
  split at h
  · rcases List.mem_append.1 h with h | h
    · exact lnA_size s _ x h
    · rw [List.mem_singleton.1 h]; exact ext_size ..
  · exact lnA_size s _ x h
theorem lnA_pos (s : ByteArray) : ∀ i, 0 < (lnA s i).1 → 0 < (lnA s i).2.length
  | 0, h => absurd h (Nat.lt_irrefl _)
  | i + 1, h => by
    unfold lnA at h ⊢
    split
    · simp
    · rename_i e
      rw [if_neg e] at h
      exact lnA_pos s i h
theorem lnL_pos {s : ByteArray} (h : 0 < s.size) : 0 < (lnL s).length := by
  unfold lnL
  split
  · simp
  · rename_i e
    exact lnA_pos s _ (by omega)
theorem refOkC_mono {d d' : Nat} (h : d ≤ d') {l : Store} {c : C} (hc : refOkC d l c = true) : refOkC d' l c = true := by
  unfold refOkC at hc ⊢
  split at hc
  · rw [Bool.or_eq_true, decide_eq_true_eq] at hc ⊢
    exact hc.imp (fun h1 => Nat.lt_of_lt_of_le h1 h) id
  · rfl
theorem refOkO_mono {d d' : Nat} (h : d ≤ d') {l : Store} {ob : Obj'} (hc : refOkO d l ob = true) : refOkO d' l ob = true := by
  unfold refOkO at hc ⊢
  split at hc
  · rw [List.all_eq_true] at hc ⊢
    intro row hr
    have := hc row hr
    rw [List.all_eq_true] at this ⊢
    exact fun c hc => refOkC_mono h (this c hc)
  · rfl
theorem all_mono {d d' : Nat} (h : d ≤ d') {l s : Store} (hs : (s.all fun e => refOkO d l e.2) = true) : (s.all fun e => refOkO d' l e.2) = true := by
  rw [List.all_eq_true] at hs ⊢
  exact fun e he => refOkO_mono h (hs e he)
end Go.Proofs.Ythhgmnpodgmlkaa
namespace Go.Proofs.Ythhgmnpodgmlkaa
open Go.RowKit Go.Rx
set_option linter.unusedSimpArgs false
set_option maxRecDepth 100000
def l11 : List ByteArray := [⟨#[100, 97, 103]⟩, ⟨#[99, 114, 111, 110, 32, 42, 32, 42, 32, 42, 32, 42, 32, 56]⟩, ⟨#[102, 114, 111, 109, 32, 120]⟩, ⟨#[116, 111, 32, 49, 32, 50]⟩, ⟨#[99, 97, 116, 99, 104]⟩, ⟨#[116, 97, 115, 107]⟩,
  ⟨#[116, 97, 115, 107, 32, 97, 32, 111, 110, 101, 32, 49, 32, 102, 114, 101, 101, 32, 113, 44, 113]⟩, ⟨#[116, 97, 115, 107, 32, 97, 32, 110, 111, 110, 101, 32, 49, 32, 102, 114, 101, 101]⟩, ⟨#[116, 97, 115, 107, 32, 98, 32, 111, 110, 101, 32, 57, 32, 102, 114, 101, 101]⟩,
  ⟨#[116, 97, 115, 107, 32, 97, 32, 111, 110, 101, 32, 49, 32, 102, 114, 101, 101, 32, 98]⟩, ⟨#[7]⟩]
theorem h11 : ∀ x ∈ l11, x.size ≤ 30 := by
  have : (l11.all fun s => decide (s.size ≤ 30)) = true := by decide +kernel
  rw [List.all_eq_true] at this
  exact fun s hs => of_decide_eq_true (this s hs)
theorem h3 : ∀ x ∈ ([⟨#[10]⟩, ⟨#[35, 32, 97, 10]⟩, ⟨#[32, 32, 10]⟩] : List ByteArray), x.size ≤ 4 := by
  have : (([⟨#[10]⟩, ⟨#[35, 32, 97, 10]⟩, ⟨#[32, 32, 10]⟩] : List ByteArray).all fun s => decide (s.size ≤ 4)) = true := by decide +kernel
  rw [List.all_eq_true] at this
  exact fun s hs => of_decide_eq_true (this s hs)
variable {Q : Ex → St → Prop} {k : List Fr} {l : List SOp} {σ : St} {dst : Option Tmp} {a a2 : Operand} {ats : Array TypeId} {ty : TypeId}
set_option maxHeartbeats 4000000 in
theorem l12Text_any (D : Nat) (r : Root) {c : List UInt8} {p : Nat × Int} (hc : c.length ≤ 1048576) (hp : p.1 ≤ c.length)
    (ha : xsV [ev σ a] = some [.one (.pt r [] 3 0 0)]) (hr : getA σ.o r = some (curOb c p)) (hd : σ.d ≤ D) (hD : belowS D σ.o = true) (hG : ∀ l' : Store, (σ.o.all fun e => refOkO D l' e.2) = true)
    (H1 : ∀ (p' : Nat × Int) (s : ByteArray), p'.1 ≤ c.length → s.size ≤ 1048576 → GoL Try.prog l k (exitSt σ.t σ.d dst ⟨[], D, [], setA σ.o r (curOb c p')⟩ [st s]) Q) :
    GoL Try.prog (⟨dst, .call { callee := .value (.func 158), args := #[a], argTypes := ats }, ty, none⟩ :: l) k σ Q := by
  refine GoL_inl2 D Try.func158 rfl (by decide) mo (by decide +kernel) rfl ha hd hD fun K hK => ?_
  generalize σ.o = s at hr hD hG H1 hK
  have hgo : ∀ (l' : Store) (p' : Nat × Int), ((setA s r (curOb c p')).all fun e => refOkO D l' e.2) = true := fun l' p' => all_setA (fun _ => rfl) (hG l')
  have hgo1 : ∀ (l' : Store) (p' : Nat × Int), ((setA s r (curOb c p')).all fun e => refOkO (D + 1) l' e.2) = true := fun l' p' => all_mono (Nat.le_succ D) (hgo l' p')
  have hgo2 := hgo
  simp only [refOkO] at hgo2
  have hgo3 := hgo1
  simp only [refOkO] at hgo3
  have hr1 : ∀ ob, getA (setA s r ob) r = some ob := getA_here hr
  have hu : ∀ ob, upS D (setA s r ob) = [] := fun ob => upS_below (by rw [belowS_setA]; exact hD)
  have hv : ∀ ob, dnS D (setA s r ob) = setA s r ob := fun ob => dnS_below (by rw [belowS_setA]; exact hD)
  have hrD : r.1 < D := belowS_get hD r _ hr
  have hne : ∀ n, ((D, n) = r) = False := fun n => eq_false fun e => by rw [← e] at hrD; exact Nat.lt_irrefl _ hrD
  have hne2 : ∀ n, r ≠ (D, n) := fun n e => by rw [e] at hrD; exact Nat.lt_irrefl _ hrD
  have hneS : ∀ n, ((D + 1, n) = r) = False := fun n => eq_false fun e => by rw [← e] at hrD; simp only at hrD; omega
  have hnr : ∀ n, (r = (D, n)) = False := fun n => eq_false (hne2 n)
  have hdr : decide (r.1 < D) = true := decide_eq_true hrD
  have hdr1 : decide (r.1 < D + 1) = true := decide_eq_true (by omega)
  have hDl : decide (D < D + 1) = true := decide_eq_true (Nat.lt_succ_self D)
  have hDS1 : (D + 1 = D) = False := eq_false (by omega)
  have hDS2 : (D = D + 1) = False := eq_false (by omega)
  have hDD : (D < D) = False := eq_false (Nat.lt_irrefl D)
  have hD1 : ∀ ob, belowS (D + 1) (setA s r ob) = true := fun ob => by rw [belowS_setA]; exact belowS_mono (Nat.le_succ D) hD
  have hD2 : ∀ ob, belowS (D + 2) (setA s r ob) = true := fun ob => by rw [belowS_setA]; exact belowS_mono (by omega) hD
  have hs0 := setA_same hr
  rw [← hs0]
  clear hs0
  have hcs : ∀ p, (curOb c p).sz = 3 := fun _ => rfl
  have hcl : ∀ p, (curOb c p).rows.length = 1 := fun _ => rfl
  simp only [Try.ntmps158, Try.results158, push_cast, seval]
  refine l12Dag_any (D + 1) r hc hp rfl (by simp only [push_cast, seval, setA_setA, hne, hr1]) (by simp only; omega) (by simp only [push_cast, seval, setA_setA, hD1, hDl]) (by simp only [push_cast, seval, hgo3]; exact fun _ => trivial) fun p1 d cell ex hp1 hdrw haf hcell => ?_
  have ht1 := drw_tsize hdrw haf
  have ht0 := drw_text hdrw
  have kT := dagText_okN d (drw_sm hdrw fun i hi => by have := haf i hi; omega)
  have kL := lines_ok (dtT d) (by omega)
  have hl1 := lnL_len (dtT d)
  have hl0 := lnL_pos ht0
  have hls := fun x (hx : x ∈ lnL (dtT d)) => lnL_size hx
  obtain ⟨tx, htx⟩ : ∃ tx, tx = dtT d := ⟨_, rfl⟩
  obtain ⟨L, hL⟩ : ∃ L, L = lnL tx := ⟨_, rfl⟩
  rw [← htx] at ht1 ht0 kT kL hl1 hl0 hls
  rw [← hL] at kL hl1 hl0 hls
  have hsl := strs_length L
  rcases hcell with ⟨rfl, rfl⟩ | ⟨rfl, rfl⟩
  all_goals
    simp only [Try.ntmps158, Try.results158, push_cast, seval, setA_setA, hcs, hcl, hne, hr1, hu, hv, hDD, dgC, shTn]
    refine GoL_call rfl (by first | rfl | (simp only [push_cast, seval, tkR_tk, tkR_ts]; rfl)) kT rfl rfl ?_
    simp only [Try.ntmps158, Try.results158, push_cast, seval, setA_setA, hcs, hcl, hne, hr1, hu, hv, hDD]
    refine GoL_call rfl rfl kL (by simp only [push_cast, seval, vR_po]) (by simp only [push_cast, seval, freshR, newRoots, hDS1, hDS2]) ?_
    simp only [Try.ntmps158, Try.results158, push_cast, seval, setA_setA, hcs, hcl, hne, hr1, hu, hv, hDD]
    refine Go_loop (α := {q : (Nat × Int) × ByteArray × Nat // q.1.1 ≤ c.length ∧ q.2.2 ≤ L.length ∧ q.2.1.size ≤ 500 * q.2.2 ∧ q.2.2 ≤ q.2.1.size})
      (fun q => ⟨tp 61 [(0, .x (.one (.pt r [] 3 0 0))), (5, .x (.one (.rs (D, 1024) [] 1 0 L.length))), (6, .x (st q.1.2.1)), (7, int q.1.2.2)], D, [((D, 1024), ⟨.sl, 1, vR (strs L)⟩)], setA s r (curOb c q.1.1)⟩)
      (fun q => L.length - q.1.2.2) ⟨(p1, ⟨#[]⟩, 0), hp1, Nat.zero_le _, Nat.le_refl _, Nat.le_refl _⟩ ?_ ?_
    · exact dropAny (by simp only [push_cast, seval, Int.ofNat_zero, hsl]) (by simp only [push_cast, seval]) (by simp only [push_cast, seval, Int.ofNat_zero, hdr]) (by simp only [push_cast, seval]) (hgo _ _)
    · rintro ⟨⟨pc, out, i⟩, hpc, hi, ho, ho2⟩ X hX
      simp only at hpc hi ho ho2 ⊢
      by_cases hlt : (i : Int) < (L.length : Int)
      · have hi' : i < L.length := by omega
        have hg := strs_getD L hi'
        obtain ⟨i', hi1⟩ : ∃ i', i' = i + 1 := ⟨_, rfl⟩
        have hw : IntKind.i64.wrap ((i : Int) + 1) = (i' : Int) := wN (by omega) (by omega)
        have hx1 : (L.getD i default).size ≤ 420 := Nat.le_trans (hls _ (by rw [List.getD_eq_getElem?_getD, List.getElem?_eq_getElem hi']; exact List.getElem_mem hi')) ht1
        obtain ⟨x1, hxe⟩ : ∃ x, x = L.getD i default := ⟨_, rfl⟩
        rw [← hxe] at hg hx1
        simp only [Try.ntmps158, Try.results158, push_cast, seval, hlt]
        refine once_any (D + 1) r hc hpc rfl (by simp only [push_cast, seval, setA_setA, hne, hr1]) (by simp only; omega) (by simp only [push_cast, seval, setA_setA, hD1, hDl]) fun pA b1 hpA => ?_
        have hadd : ∀ a b : ByteArray, a.size ≤ 40000000 → b.size ≤ 40000000 → a.size + b.size ≤ 9223372036854775807 := fun a b h1 h2 => by omega
        have hsN : (⟨#[10]⟩ : ByteArray).size = 1 := rfl
        have hb1 : ∀ o x : ByteArray, out.size ≤ o.size ∧ o.size ≤ out.size + 4 → x.size ≤ 420 → ((o ++ x) ++ ⟨#[10]⟩).size ≤ 500 * i' := fun o x h1 h2 => by
          rw [ByteArray.size_append, ByteArray.size_append, hsN]; omega
        have hb2 : ∀ o x : ByteArray, out.size ≤ o.size ∧ o.size ≤ out.size + 4 → i' ≤ ((o ++ x) ++ ⟨#[10]⟩).size := fun o x h1 => by
          rw [ByteArray.size_append, ByteArray.size_append, hsN]; omega
        cases b1
        · simp only [Try.ntmps158, Try.results158, push_cast, seval, setA_setA, hcs, hcl, hne, hr1, hu, hv, hDD, hlt, hi', hsl, vR_getD, hg, hw]
          refine once_any (D + 1) r hc hpA rfl (by simp only [push_cast, seval, setA_setA, hne, hr1]) (by simp only; omega) (by simp only [push_cast, seval, setA_setA, hD1, hDl]) fun pB b2 hpB => ?_
          cases b2
          · have f1 := hadd out x1 (by omega) (by omega)
            have f2 := hadd (out ++ x1) ⟨#[10]⟩ (by rw [ByteArray.size_append]; omega) (by decide)
            simp only [Try.ntmps158, Try.results158, push_cast, seval, setA_setA, hcs, hcl, hne, hr1, hu, hv, hDD, hlt, hi', hsl, vR_getD, hg, hw, f1, f2]
            refine ⟨_, ?_, hX ⟨(pB, (out ++ x1) ++ ⟨#[10]⟩, i'), hpB, by simp only; omega, hb1 out x1 ⟨Nat.le_refl _, Nat.le_add_right _ _⟩ (by omega), hb2 out x1 ⟨Nat.le_refl _, Nat.le_add_right _ _⟩⟩ (by simp only; omega)⟩
            exact dropAny (by simp only [push_cast, seval]) (by simp only [push_cast, seval]) (by simp only [push_cast, seval, hdr]) (by simp only [push_cast, seval]) (hgo _ _)
          · simp only [Try.ntmps158, Try.results158, push_cast, seval, setA_setA, hcs, hcl, hne, hr1, hu, hv, hDD, hlt, hi', hsl, vR_getD, hg, hw]
            refine pick_any (D + 1) r (D, 2368) l11 hc hpB (by decide) (by decide) (hne2 _) rfl (by simp only [push_cast, seval, setA_setA, hne, hr1]) (by simp only [push_cast, seval]; rfl) (by simp only; omega) (by simp only [push_cast, seval, setA_setA, hD1, hDl]) fun pC x2 hpC hx2 => ?_
            have hx3 := h11 x2 hx2
            have f1 := hadd out x2 (by omega) (by omega)
            have f2 := hadd (out ++ x2) ⟨#[10]⟩ (by rw [ByteArray.size_append]; omega) (by decide)
            simp only [Try.ntmps158, Try.results158, push_cast, seval, setA_setA, hcs, hcl, hne, hr1, hu, hv, hDD, hlt, hi', hsl, vR_getD, hg, hw, f1, f2]
            refine ⟨_, ?_, hX ⟨(pC, (out ++ x2) ++ ⟨#[10]⟩, i'), hpC, by simp only; omega, hb1 out x2 ⟨Nat.le_refl _, Nat.le_add_right _ _⟩ (by omega), hb2 out x2 ⟨Nat.le_refl _, Nat.le_add_right _ _⟩⟩ (by simp only; omega)⟩
            exact dropAny (by simp only [push_cast, seval]) (by simp only [push_cast, seval]) (by simp only [push_cast, seval, hdr]) (by simp only [push_cast, seval]) (hgo _ _)
        · simp only [Try.ntmps158, Try.results158, push_cast, seval, setA_setA, hcs, hcl, hne, hr1, hu, hv, hDD, hlt, hi', hsl, vR_getD, hg, hw]
          refine pick_any (D + 1) r (D, 1728) [⟨#[10]⟩, ⟨#[35, 32, 97, 10]⟩, ⟨#[32, 32, 10]⟩] hc hpA (by decide) (by decide) (hne2 _) rfl (by simp only [push_cast, seval, setA_setA, hne, hr1]) (by simp only [push_cast, seval]; rfl) (by simp only; omega) (by simp only [push_cast, seval, setA_setA, hD1, hDl]) fun pD y hpD hy => ?_
          have hy4 := h3 y hy
          have f0 := hadd out y (by omega) (by omega)
          have ho3 : out.size ≤ (out ++ y).size ∧ (out ++ y).size ≤ out.size + 4 := by rw [ByteArray.size_append]; omega
          obtain ⟨o2, ho2e⟩ : ∃ o2, o2 = out ++ y := ⟨_, rfl⟩
          rw [← ho2e] at ho3
          simp only [Try.ntmps158, Try.results158, push_cast, seval, setA_setA, hcs, hcl, hne, hr1, hu, hv, hDD, hlt, hi', hsl, vR_getD, hg, hw, f0, ← ho2e]
          refine once_any (D + 1) r hc hpD rfl (by simp only [push_cast, seval, setA_setA, hne, hr1]) (by simp only; omega) (by simp only [push_cast, seval, setA_setA, hD1, hDl]) fun pB b2 hpB => ?_
          cases b2
          · have f1 := hadd o2 x1 (by omega) (by omega)
            have f2 := hadd (o2 ++ x1) ⟨#[10]⟩ (by rw [ByteArray.size_append]; omega) (by decide)
            simp only [Try.ntmps158, Try.results158, push_cast, seval, setA_setA, hcs, hcl, hne, hr1, hu, hv, hDD, hlt, hi', hsl, vR_getD, hg, hw, f1, f2]
            refine ⟨_, ?_, hX ⟨(pB, (o2 ++ x1) ++ ⟨#[10]⟩, i'), hpB, by simp only; omega, hb1 o2 x1 ho3 (by omega), hb2 o2 x1 ho3⟩ (by simp only; omega)⟩
            exact dropAny (by simp only [push_cast, seval]) (by simp only [push_cast, seval]) (by simp only [push_cast, seval, hdr]) (by simp only [push_cast, seval]) (hgo _ _)
          · simp only [Try.ntmps158, Try.results158, push_cast, seval, setA_setA, hcs, hcl, hne, hr1, hu, hv, hDD, hlt, hi', hsl, vR_getD, hg, hw]
            refine pick_any (D + 1) r (D, 2368) l11 hc hpB (by decide) (by decide) (hne2 _) rfl (by simp only [push_cast, seval, setA_setA, hne, hr1]) (by simp only [push_cast, seval]; rfl) (by simp only; omega) (by simp only [push_cast, seval, setA_setA, hD1, hDl]) fun pC x2 hpC hx2 => ?_
            have hx3 := h11 x2 hx2
            have f1 := hadd o2 x2 (by omega) (by omega)
            have f2 := hadd (o2 ++ x2) ⟨#[10]⟩ (by rw [ByteArray.size_append]; omega) (by decide)
            simp only [Try.ntmps158, Try.results158, push_cast, seval, setA_setA, hcs, hcl, hne, hr1, hu, hv, hDD, hlt, hi', hsl, vR_getD, hg, hw, f1, f2]
            refine ⟨_, ?_, hX ⟨(pC, (o2 ++ x2) ++ ⟨#[10]⟩, i'), hpC, by simp only; omega, hb1 o2 x2 ho3 (by omega), hb2 o2 x2 ho3⟩ (by simp only; omega)⟩
            exact dropAny (by simp only [push_cast, seval]) (by simp only [push_cast, seval]) (by simp only [push_cast, seval, hdr]) (by simp only [push_cast, seval]) (hgo _ _)
      · have hie : i = L.length := by omega
        have hos : out.size ≤ 1000000 := by omega
        have hon : 0 < out.size := by omega
        obtain ⟨n1, hn1⟩ : ∃ n1, n1 = out.size - 1 := ⟨_, rfl⟩
        have wn : IntKind.i64.wrap ((out.size : Int) - 1) = (n1 : Int) := by rw [show (out.size : Int) - 1 = (n1 : Int) by omega]; exact w64 (by omega) (by omega)
        have hn2 : n1 ≤ out.size := by omega
        simp only [Try.ntmps158, Try.results158, push_cast, seval, hlt, hsl]
        refine below_any (D + 1) r hc hpc rfl (by simp only [push_cast, seval, setA_setA, hne, hr1]) (by simp only; omega) (by simp only [push_cast, seval, setA_setA, hD1, hDl]) fun pF x hpF hx _ => ?_
        by_cases e0 : x = 0
        · subst e0
          simp only [Try.ntmps158, Try.results158, push_cast, seval, setA_setA, hcs, hcl, hne, hr1, hu, hv, hDD, hlt, hsl, wn, hn2]
          refine hK _ ⟨tp 61 [(2, .x (st (out.extract 0 n1)))], D, [], setA s r (curOb c pF)⟩ _ ?_ rfl rfl (by simp only [Try.ntmps158, Try.results158, push_cast, seval]) (H1 pF (out.extract 0 n1) (by assumption) (Nat.le_trans (ext_size ..) (by omega)))
          exact dropAny (by simp only [push_cast, seval]) (by simp only [push_cast, seval]) (by simp only [push_cast, seval, hdr]) (by simp only [push_cast, seval]) (hgo _ _)
        · by_cases e1 : x = 1
          · subst e1
            simp only [Try.ntmps158, Try.results158, push_cast, seval, setA_setA, hcs, hcl, hne, hr1, hu, hv, hDD, hlt, hsl]
            refine below_any (D + 1) r hc hpF rfl (by simp only [push_cast, seval, setA_setA, hne, hr1]) (by simp only; omega) (by simp only [push_cast, seval, setA_setA, hD1, hDl]) fun pG y hpG hy _ => ?_
            obtain ⟨hy0, hy1⟩ := hy (by decide)
            obtain ⟨m, rfl⟩ := Int.eq_ofNat_of_zero_le hy0
            have w8 : IntKind.i64.wrap (800 + (m : Int)) = ((800 + m : Nat) : Int) := by rw [show (800 : Int) + (m : Int) = ((800 + m : Nat) : Int) by omega]; exact w64 (by omega) (by omega)
            obtain ⟨m8, hm8⟩ : ∃ m8, m8 = 800 + m := ⟨_, rfl⟩
            rw [← hm8] at w8
            simp only [Try.ntmps158, Try.results158, push_cast, seval, setA_setA, hcs, hcl, hne, hr1, hu, hv, hDD, hlt, hsl, w8]
            refine GoL_call rfl rfl (long_ok m8 35 (by omega)) rfl rfl ?_
            simp only [Try.ntmps158, Try.results158, push_cast, seval, setA_setA, hcs, hcl, hne, hr1, hu, hv, hDD, hlt, hsl]
            refine hK _ ⟨tp 61 [(2, .x (st (longB m8 35)))], D, [], setA s r (curOb c pG)⟩ _ ?_ rfl rfl (by simp only [Try.ntmps158, Try.results158, push_cast, seval]) (H1 pG (longB m8 35) (by assumption) (by rw [longB_size]; omega))
            exact dropAny (by simp only [push_cast, seval]) (by simp only [push_cast, seval]) (by simp only [push_cast, seval, hdr]) (by simp only [push_cast, seval]) (hgo _ _)
          · by_cases e2 : x = 2
            · subst e2
              simp only [Try.ntmps158, Try.results158, push_cast, seval, setA_setA, hcs, hcl, hne, hr1, hu, hv, hDD, hlt, hsl]
              refine hK _ ⟨tp 61 [(2, .x (st ⟨#[]⟩))], D, [], setA s r (curOb c pF)⟩ _ ?_ rfl rfl (by simp only [Try.ntmps158, Try.results158, push_cast, seval]) (H1 pF ⟨#[]⟩ (by assumption) (by decide))
              exact dropAny (by simp only [push_cast, seval]) (by simp only [push_cast, seval]) (by simp only [push_cast, seval, hdr]) (by simp only [push_cast, seval]) (hgo _ _)
            · simp only [Try.ntmps158, Try.results158, push_cast, seval, setA_setA, hcs, hcl, hne, hr1, hu, hv, hDD, hlt, hsl, e0, e1, e2]
              refine hK _ ⟨tp 61 [(2, .x (st out))], D, [], setA s r (curOb c pF)⟩ _ ?_ rfl rfl (by simp only [Try.ntmps158, Try.results158, push_cast, seval]) (H1 pF out (by assumption) (by omega))
              exact dropAny (by simp only [push_cast, seval]) (by simp only [push_cast, seval]) (by simp only [push_cast, seval, hdr]) (by simp only [push_cast, seval]) (hgo _ _)
end Go.Proofs.Ythhgmnpodgmlkaa
namespace Go.Proofs.Ythhgmnpodgmlkaa
open Go.RowKit Go.Rx
set_option linter.unusedSimpArgs false
set_option maxRecDepth 100000
def tAnn : ByteArray := ⟨#[100, 97, 103, 32, 97, 110, 110, 10, 99, 114, 111, 110, 32, 42, 32, 42, 32, 42, 32, 42, 32, 42, 10, 102, 114, 111, 109, 32, 48, 10, 116, 111, 32, 57, 48, 10, 99, 97, 116, 99, 104, 117, 112, 10, 116, 97, 115, 107, 32, 97, 32, 111, 110, 101, 32, 49, 32, 102, 114, 101, 101, 10]⟩
def lnA0 : ByteArray := ⟨#[100, 97, 103, 32, 97, 110, 110]⟩
def lnA1 : ByteArray := ⟨#[99, 114, 111, 110, 32, 42, 32, 42, 32, 42, 32, 42, 32, 42]⟩
def lnA2 : ByteArray := ⟨#[102, 114, 111, 109, 32, 48]⟩
def lnA3 : ByteArray := ⟨#[116, 111, 32, 57, 48]⟩
def lnA4 : ByteArray := ⟨#[99, 97, 116, 99, 104, 117, 112]⟩
def lnA5 : ByteArray := ⟨#[116, 97, 115, 107, 32, 97, 32, 111, 110, 101, 32, 49, 32, 102, 114, 101, 101]⟩
theorem lnL_ann : lnL tAnn = [lnA0, lnA1, lnA2, lnA3, lnA4, lnA5] := by decide +kernel
theorem ptL_ann0 : ptL lnA0 = [⟨#[100, 97, 103]⟩, ⟨#[97, 110, 110]⟩] := by decide +kernel
theorem ptB_ann0 : ptB lnA0 = true := by decide +kernel
theorem ptL_ann1 : ptL lnA1 = [⟨#[99, 114, 111, 110]⟩, ⟨#[42]⟩, ⟨#[42]⟩, ⟨#[42]⟩, ⟨#[42]⟩, ⟨#[42]⟩] := by decide +kernel
theorem ptB_ann1 : ptB lnA1 = true := by decide +kernel
theorem ptL_ann2 : ptL lnA2 = [⟨#[102, 114, 111, 109]⟩, ⟨#[48]⟩] := by decide +kernel
theorem ptB_ann2 : ptB lnA2 = true := by decide +kernel
theorem ptL_ann3 : ptL lnA3 = [⟨#[116, 111]⟩, ⟨#[57, 48]⟩] := by decide +kernel
theorem ptB_ann3 : ptB lnA3 = true := by decide +kernel
theorem ptL_ann4 : ptL lnA4 = [⟨#[99, 97, 116, 99, 104, 117, 112]⟩] := by decide +kernel
theorem ptB_ann4 : ptB lnA4 = true := by decide +kernel
theorem ptL_ann5 : ptL lnA5 = [⟨#[116, 97, 115, 107]⟩, ⟨#[97]⟩, ⟨#[111, 110, 101]⟩, ⟨#[49]⟩, ⟨#[102, 114, 101, 101]⟩] := by decide +kernel
theorem ptB_ann5 : ptB lnA5 = true := by decide +kernel
def zD : List C := [.v (.string ⟨#[]⟩), .v (.string ⟨#[]⟩), .v (.int .i64 0), .v (.int .i64 0), .v (.bool false), nilS]
def dAnn : Dg := ⟨⟨#[97, 110, 110]⟩, ⟨#[42, 32, 42, 32, 42, 32, 42, 32, 42]⟩, 0, 90, true, [⟨⟨#[97]⟩, ⟨#[111, 110, 101]⟩, 1, false, []⟩]⟩
theorem dAnn_ok : dagB dAnn = true := by decide +kernel
theorem dagOk_okN (d : Dg) (hs : SmD d) : PureFn Try.prog 154 [.agg (dgC shTn d)] [bo (dagB d)] :=
  pureWeak1 (dagOk_ok d hs) ⟨rfl, fun j hj => by
    match j, hj with
    | 0, _ => exact .inl rfl
    | 1, _ => exact .inl rfl
    | 2, _ => exact .inl rfl
    | 3, _ => exact .inl rfl
    | 4, _ => exact .inl rfl
    | 5, _ => exact .inr ⟨CLe.sh (tkR_le d.ts), rfl, rfl⟩⟩
def rowA : Nat → List C
  | 0 => zD
  | 1 => [.v (.string ⟨#[97, 110, 110]⟩), .v (.string ⟨#[]⟩), .v (.int .i64 0), .v (.int .i64 0), .v (.bool false), nilS]
  | 2 => [.v (.string ⟨#[97, 110, 110]⟩), .v (.string ⟨#[42, 32, 42, 32, 42, 32, 42, 32, 42]⟩), .v (.int .i64 0), .v (.int .i64 0), .v (.bool false), nilS]
  | 3 => [.v (.string ⟨#[97, 110, 110]⟩), .v (.string ⟨#[42, 32, 42, 32, 42, 32, 42, 32, 42]⟩), .v (.int .i64 0), .v (.int .i64 0), .v (.bool false), nilS]
  | 4 => [.v (.string ⟨#[97, 110, 110]⟩), .v (.string ⟨#[42, 32, 42, 32, 42, 32, 42, 32, 42]⟩), .v (.int .i64 0), .v (.int .i64 90), .v (.bool false), nilS]
  | 5 => [.v (.string ⟨#[97, 110, 110]⟩), .v (.string ⟨#[42, 32, 42, 32, 42, 32, 42, 32, 42]⟩), .v (.int .i64 0), .v (.int .i64 90), .v (.bool true), nilS]
  | _ => [.v (.string ⟨#[97, 110, 110]⟩), .v (.string ⟨#[42, 32, 42, 32, 42, 32, 42, 32, 42]⟩), .v (.int .i64 0), .v (.int .i64 90), .v (.bool true), .rs (1, 7488) [] 5 0 1]
def tkA : List (List C) := [[.v (.string ⟨#[97]⟩), .v (.string ⟨#[111, 110, 101]⟩), .v (.int .i64 1), .v (.bool false), nilS]]
def exA : Nat → Store
  | 6 => [((1, 7488), ⟨.sl, 5, tkA⟩)]
  | _ => []
theorem partA0 : PureFn Try.prog 151 [st lnA0] [.one (.own 1 (vR (strs [⟨#[100, 97, 103]⟩, ⟨#[97, 110, 110]⟩]))), bo true] := by
  have := partsOf_ok lnA0 (by decide)
  rwa [ptL_ann0, ptB_ann0] at this
theorem partA1 : PureFn Try.prog 151 [st lnA1] [.one (.own 1 (vR (strs [⟨#[99, 114, 111, 110]⟩, ⟨#[42]⟩, ⟨#[42]⟩, ⟨#[42]⟩, ⟨#[42]⟩, ⟨#[42]⟩]))), bo true] := by
  have := partsOf_ok lnA1 (by decide)
  rwa [ptL_ann1, ptB_ann1] at this
theorem partA2 : PureFn Try.prog 151 [st lnA2] [.one (.own 1 (vR (strs [⟨#[102, 114, 111, 109]⟩, ⟨#[48]⟩]))), bo true] := by
  have := partsOf_ok lnA2 (by decide)
  rwa [ptL_ann2, ptB_ann2] at this
theorem partA3 : PureFn Try.prog 151 [st lnA3] [.one (.own 1 (vR (strs [⟨#[116, 111]⟩, ⟨#[57, 48]⟩]))), bo true] := by
  have := partsOf_ok lnA3 (by decide)
  rwa [ptL_ann3, ptB_ann3] at this
theorem partA4 : PureFn Try.prog 151 [st lnA4] [.one (.own 1 (vR (strs [⟨#[99, 97, 116, 99, 104, 117, 112]⟩]))), bo true] := by
  have := partsOf_ok lnA4 (by decide)
  rwa [ptL_ann4, ptB_ann4] at this
theorem partA5 : PureFn Try.prog 151 [st lnA5] [.one (.own 1 (vR (strs [⟨#[116, 97, 115, 107]⟩, ⟨#[97]⟩, ⟨#[111, 110, 101]⟩, ⟨#[49]⟩, ⟨#[102, 114, 101, 101]⟩]))), bo true] := by
  have := partsOf_ok lnA5 (by decide)
  rwa [ptL_ann5, ptB_ann5] at this
theorem linesA : PureFn Try.prog 150 [st tAnn] [.one (.own 1 (vR (strs [lnA0, lnA1, lnA2, lnA3, lnA4, lnA5])))] := by
  have := lines_ok tAnn (by decide)
  rwa [lnL_ann] at this
theorem kCr : PureFn Try.prog 160 [st ⟨#[42, 32, 42, 32, 42, 32, 42, 32, 42]⟩] [.agg (crC ownI (crP [⟨#[42]⟩, ⟨#[42]⟩, ⟨#[42]⟩, ⟨#[42]⟩, ⟨#[42]⟩])), bo true] := by
  have := parseCron_ok ⟨#[42, 32, 42, 32, 42, 32, 42, 32, 42]⟩ (by decide)
  rwa [crX, show crB ⟨#[42, 32, 42, 32, 42, 32, 42, 32, 42]⟩ = true from by decide +kernel, if_pos rfl, show ptL ⟨#[42, 32, 42, 32, 42, 32, 42, 32, 42]⟩ = [⟨#[42]⟩, ⟨#[42]⟩, ⟨#[42]⟩, ⟨#[42]⟩, ⟨#[42]⟩] from by decide +kernel] at this
theorem kCt : PureFn Try.prog 161 [.agg (crC shI (crP [⟨#[42]⟩, ⟨#[42]⟩, ⟨#[42]⟩, ⟨#[42]⟩, ⟨#[42]⟩]))] [st ⟨#[42, 32, 42, 32, 42, 32, 42, 32, 42]⟩, bo true] := by
  have := cronText_ok (crP [⟨#[42]⟩, ⟨#[42]⟩, ⟨#[42]⟩, ⟨#[42]⟩, ⟨#[42]⟩]) (smC_crP _)
  rwa [show ctT (crP [⟨#[42]⟩, ⟨#[42]⟩, ⟨#[42]⟩, ⟨#[42]⟩, ⟨#[42]⟩]) = ⟨#[42, 32, 42, 32, 42, 32, 42, 32, 42]⟩ from by decide +kernel, show crnOk (crP [⟨#[42]⟩, ⟨#[42]⟩, ⟨#[42]⟩, ⟨#[42]⟩, ⟨#[42]⟩]) = true from by decide +kernel] at this
theorem kCC : ∃ c : Crn, PureFn Try.prog 160 [st ⟨#[42, 32, 42, 32, 42, 32, 42, 32, 42]⟩] [.agg (crC ownI c), bo true] ∧ PureFn Try.prog 161 [.agg (crC shI c)] [st ⟨#[42, 32, 42, 32, 42, 32, 42, 32, 42]⟩, bo true] := ⟨_, kCr, kCt⟩
theorem kNm : PureFn Try.prog 142 [st ⟨#[97, 110, 110]⟩] [bo true] := by
  have := nameS_ok ⟨#[97, 110, 110]⟩ (by decide)
  rwa [show nameB ⟨#[97, 110, 110]⟩ = true from by decide +kernel] at this
theorem kNa : PureFn Try.prog 142 [st ⟨#[97]⟩] [bo true] := by
  have := nameS_ok ⟨#[97]⟩ (by decide)
  rwa [show nameB ⟨#[97]⟩ = true from by decide +kernel] at this
theorem kD0 : PureFn Try.prog 162 [st ⟨#[48]⟩] [i64 0, bo true] := by
  have := readDecV_ok ⟨#[48]⟩ (by decide)
  rwa [show rdV ⟨#[48]⟩ = 0 from by decide +kernel, show rdB ⟨#[48]⟩ = true from by decide +kernel] at this
theorem kD1 : PureFn Try.prog 162 [st ⟨#[49]⟩] [i64 1, bo true] := by
  have := readDecV_ok ⟨#[49]⟩ (by decide)
  rwa [show rdV ⟨#[49]⟩ = 1 from by decide +kernel, show rdB ⟨#[49]⟩ = true from by decide +kernel] at this
theorem kD9 : PureFn Try.prog 162 [st ⟨#[57, 48]⟩] [i64 90, bo true] := by
  have := readDecV_ok ⟨#[57, 48]⟩ (by decide)
  rwa [show rdV ⟨#[57, 48]⟩ = 90 from by decide +kernel, show rdB ⟨#[57, 48]⟩ = true from by decide +kernel] at this
set_option maxHeartbeats 4000000 in
theorem parseAnn : PureFn Try.prog 144 [st tAnn] [.agg (dgC (fun _ => .own 5 tkA) dAnn), i64 0] := by
  refine PureFn_of_GoW Try.func144 rfl (by decide) mo (by decide +kernel) ?_
  have h800 : (tAnn.size : Int) = 62 := by decide
  have hl6 : (strs [lnA0, lnA1, lnA2, lnA3, lnA4, lnA5]).length = 6 := rfl
  simp only [Try.ntmps144, Try.results144, push_cast, seval, h800]
  refine GoL_call rfl rfl linesA rfl rfl ?_
  simp only [Try.ntmps144, Try.results144, push_cast, seval]
  refine Go_loop (α := {i : Nat // i ≤ 6}) (fun i => ⟨tp 82 [(0, .x (st tAnn)), (2, .x (.one (.pt (0, 128) [] 6 0 0))), (3, int 0), (4, .x (.one (.rs (0, 960) [] 1 0 6))), (5, .x (.one (.pt (0, 320) [] 6 0 0))), (6, int i.1), (7, int i.1)], 0,
      [((0, 320), ⟨.box, 6, [rowA i.1]⟩), ((0, 960), ⟨.sl, 1, vR (strs [lnA0, lnA1, lnA2, lnA3, lnA4, lnA5])⟩), ((0, 128), ⟨.box, 6, [zD]⟩)] ++ exA i.1, []⟩)
    (fun i => 6 - i.1) ⟨0, by decide⟩ ?_ ?_
  · simp only [exA, rowA, zD, nilS, List.append_nil]
    exact Weak.drop (by simp only [push_cast, seval, Int.ofNat_zero, hl6]) (by simp only [push_cast, seval, Int.ofNat_zero, hl6]) (by simp only [push_cast, seval, Int.ofNat_zero, hl6])
  · rintro ⟨i, hi⟩ X hX
    have hc : i = 0 ∨ i = 1 ∨ i = 2 ∨ i = 3 ∨ i = 4 ∨ i = 5 ∨ i = 6 := by omega
    rcases hc with rfl | rfl | rfl | rfl | rfl | rfl | rfl
    · have hX1 := hX ⟨1, by decide⟩ (by simp only; omega)
      simp only [exA, rowA, zD, nilS, List.append_nil] at hX1 ⊢
      have hg : (vR (strs [lnA0, lnA1, lnA2, lnA3, lnA4, lnA5])).getD 0 [] = [.v (.string lnA0)] := rfl
      simp only [Try.ntmps144, Try.results144, push_cast, seval, hl6, hg]
      refine GoL_call rfl rfl partA0 rfl rfl ?_
      have hl2 : (strs [⟨#[100, 97, 103]⟩, ⟨#[97, 110, 110]⟩]).length = 2 := rfl
      have hv2 : vR (strs [⟨#[100, 97, 103]⟩, ⟨#[97, 110, 110]⟩]) = [[.v (.string ⟨#[100, 97, 103]⟩)], [.v (.string ⟨#[97, 110, 110]⟩)]] := rfl
      have hix := index_str (P := Try.prog) (t := 9) ⟨#[100, 97, 103]⟩ 0 .i64
      rw [show ((0 : Nat) : Int) = 0 from rfl, show (⟨#[100, 97, 103]⟩ : ByteArray)[0]? = some 100 from rfl] at hix
      have h35 : ((100 : UInt8).toNat : Int) = 100 := rfl
      simp only [Try.ntmps144, Try.results144, push_cast, seval, hl6, hg, hl2, hv2, hix, h35]
      refine GoL_inl2 1 Try.func152 rfl (by decide) mo (by decide +kernel) rfl rfl (show 0 ≤ 1 by decide) rfl fun K hK => ?_
      have hw1 : IntKind.i64.wrap 1 = 1 := by decide
      have hw5 : IntKind.i64.wrap 5 = 5 := by decide
      simp only [Try.ntmps152, Try.results152, push_cast, seval, hw1]
      refine GoL_call rfl rfl kNm rfl rfl ?_
      simp only [Try.ntmps152, Try.results152, push_cast, seval]
      refine hK _ _ _ (Weak.refl _) rfl rfl (by simp only [Try.ntmps152, Try.results152, push_cast, seval]; rfl) ?_
      have hwi : IntKind.i64.wrap 1 = 1 := by decide
      simp only [Try.ntmps144, Try.results144, push_cast, seval, hl6, hwi]
      refine ⟨_, ?_, hX1⟩
      exact Weak.drop (by simp only [push_cast, seval]) (by simp only [push_cast, seval]) (by simp only [push_cast, seval])
    · have hX1 := hX ⟨2, by decide⟩ (by simp only; omega)
      simp only [exA, rowA, zD, nilS, List.append_nil] at hX1 ⊢
      have hg : (vR (strs [lnA0, lnA1, lnA2, lnA3, lnA4, lnA5])).getD 1 [] = [.v (.string lnA1)] := rfl
      simp only [Try.ntmps144, Try.results144, push_cast, seval, hl6, hg]
      refine GoL_call rfl rfl partA1 rfl rfl ?_
      have hl2 : (strs [⟨#[99, 114, 111, 110]⟩, ⟨#[42]⟩, ⟨#[42]⟩, ⟨#[42]⟩, ⟨#[42]⟩, ⟨#[42]⟩]).length = 6 := rfl
      have hv2 : vR (strs [⟨#[99, 114, 111, 110]⟩, ⟨#[42]⟩, ⟨#[42]⟩, ⟨#[42]⟩, ⟨#[42]⟩, ⟨#[42]⟩]) = [[.v (.string ⟨#[99, 114, 111, 110]⟩)], [.v (.string ⟨#[42]⟩)], [.v (.string ⟨#[42]⟩)], [.v (.string ⟨#[42]⟩)], [.v (.string ⟨#[42]⟩)], [.v (.string ⟨#[42]⟩)]] := rfl
      have hix := index_str (P := Try.prog) (t := 9) ⟨#[99, 114, 111, 110]⟩ 0 .i64
      rw [show ((0 : Nat) : Int) = 0 from rfl, show (⟨#[99, 114, 111, 110]⟩ : ByteArray)[0]? = some 99 from rfl] at hix
      have h35 : ((99 : UInt8).toNat : Int) = 99 := rfl
      simp only [Try.ntmps144, Try.results144, push_cast, seval, hl6, hg, hl2, hv2, hix, h35]
      refine GoL_inl2 1 Try.func152 rfl (by decide) mo (by decide +kernel) rfl rfl (show 0 ≤ 1 by decide) rfl fun K hK => ?_
      have hw1 : IntKind.i64.wrap 1 = 1 := by decide
      have hw5 : IntKind.i64.wrap 5 = 5 := by decide
      have g0 : (⟨#[42]⟩ : ByteArray).size + (⟨#[32]⟩ : ByteArray).size ≤ 9223372036854775807 := by decide
      have q0 : (⟨#[42]⟩ : ByteArray) ++ (⟨#[32]⟩ : ByteArray) = ⟨#[42, 32]⟩ := by decide +kernel
      have g1 : (⟨#[42, 32]⟩ : ByteArray).size + (⟨#[42]⟩ : ByteArray).size ≤ 9223372036854775807 := by decide
      have q1 : (⟨#[42, 32]⟩ : ByteArray) ++ (⟨#[42]⟩ : ByteArray) = ⟨#[42, 32, 42]⟩ := by decide +kernel
      have g2 : (⟨#[42, 32, 42]⟩ : ByteArray).size + (⟨#[32]⟩ : ByteArray).size ≤ 9223372036854775807 := by decide
      have q2 : (⟨#[42, 32, 42]⟩ : ByteArray) ++ (⟨#[32]⟩ : ByteArray) = ⟨#[42, 32, 42, 32]⟩ := by decide +kernel
      have g3 : (⟨#[42, 32, 42, 32]⟩ : ByteArray).size + (⟨#[42]⟩ : ByteArray).size ≤ 9223372036854775807 := by decide
      have q3 : (⟨#[42, 32, 42, 32]⟩ : ByteArray) ++ (⟨#[42]⟩ : ByteArray) = ⟨#[42, 32, 42, 32, 42]⟩ := by decide +kernel
      have g4 : (⟨#[42, 32, 42, 32, 42]⟩ : ByteArray).size + (⟨#[32]⟩ : ByteArray).size ≤ 9223372036854775807 := by decide
      have q4 : (⟨#[42, 32, 42, 32, 42]⟩ : ByteArray) ++ (⟨#[32]⟩ : ByteArray) = ⟨#[42, 32, 42, 32, 42, 32]⟩ := by decide +kernel
      have g5 : (⟨#[42, 32, 42, 32, 42, 32]⟩ : ByteArray).size + (⟨#[42]⟩ : ByteArray).size ≤ 9223372036854775807 := by decide
      have q5 : (⟨#[42, 32, 42, 32, 42, 32]⟩ : ByteArray) ++ (⟨#[42]⟩ : ByteArray) = ⟨#[42, 32, 42, 32, 42, 32, 42]⟩ := by decide +kernel
      have g6 : (⟨#[42, 32, 42, 32, 42, 32, 42]⟩ : ByteArray).size + (⟨#[32]⟩ : ByteArray).size ≤ 9223372036854775807 := by decide
      have q6 : (⟨#[42, 32, 42, 32, 42, 32, 42]⟩ : ByteArray) ++ (⟨#[32]⟩ : ByteArray) = ⟨#[42, 32, 42, 32, 42, 32, 42, 32]⟩ := by decide +kernel
      have g7 : (⟨#[42, 32, 42, 32, 42, 32, 42, 32]⟩ : ByteArray).size + (⟨#[42]⟩ : ByteArray).size ≤ 9223372036854775807 := by decide
      have q7 : (⟨#[42, 32, 42, 32, 42, 32, 42, 32]⟩ : ByteArray) ++ (⟨#[42]⟩ : ByteArray) = ⟨#[42, 32, 42, 32, 42, 32, 42, 32, 42]⟩ := by decide +kernel
      simp only [Try.ntmps152, Try.results152, push_cast, seval, hw1, g0, q0, g1, q1, g2, q2, g3, q3, g4, q4, g5, q5, g6, q6, g7, q7]
      obtain ⟨cc, kc1, kc2⟩ := kCC
      simp only [crC, ownI] at kc1
      simp only [crC, shI] at kc2
      refine GoD_call rfl rfl kc1 (by simp only [push_cast, seval, vR_po]) rfl ?_
      simp only [Try.ntmps152, Try.results152, push_cast, seval]
      refine GoL_call rfl (by simp only [push_cast, seval, ints_takeE, vR_take, vR_ts, ints_length]) kc2 rfl rfl ?_
      simp only [Try.ntmps152, Try.results152, push_cast, seval]
      refine hK _ _ _ (Weak.refl _) rfl rfl (by simp only [Try.ntmps152, Try.results152, push_cast, seval]; rfl) ?_
      have hwi : IntKind.i64.wrap 2 = 2 := by decide
      simp only [Try.ntmps144, Try.results144, push_cast, seval, hl6, hwi]
      refine ⟨_, ?_, hX1⟩
      exact Weak.drop (by simp only [push_cast, seval]) (by simp only [push_cast, seval]) (by simp only [push_cast, seval])
    · have hX1 := hX ⟨3, by decide⟩ (by simp only; omega)
      simp only [exA, rowA, zD, nilS, List.append_nil] at hX1 ⊢
      have hg : (vR (strs [lnA0, lnA1, lnA2, lnA3, lnA4, lnA5])).getD 2 [] = [.v (.string lnA2)] := rfl
      simp only [Try.ntmps144, Try.results144, push_cast, seval, hl6, hg]
      refine GoL_call rfl rfl partA2 rfl rfl ?_
      have hl2 : (strs [⟨#[102, 114, 111, 109]⟩, ⟨#[48]⟩]).length = 2 := rfl
      have hv2 : vR (strs [⟨#[102, 114, 111, 109]⟩, ⟨#[48]⟩]) = [[.v (.string ⟨#[102, 114, 111, 109]⟩)], [.v (.string ⟨#[48]⟩)]] := rfl
      have hix := index_str (P := Try.prog) (t := 9) ⟨#[102, 114, 111, 109]⟩ 0 .i64
      rw [show ((0 : Nat) : Int) = 0 from rfl, show (⟨#[102, 114, 111, 109]⟩ : ByteArray)[0]? = some 102 from rfl] at hix
      have h35 : ((102 : UInt8).toNat : Int) = 102 := rfl
      simp only [Try.ntmps144, Try.results144, push_cast, seval, hl6, hg, hl2, hv2, hix, h35]
      refine GoL_inl2 1 Try.func152 rfl (by decide) mo (by decide +kernel) rfl rfl (show 0 ≤ 1 by decide) rfl fun K hK => ?_
      have hw1 : IntKind.i64.wrap 1 = 1 := by decide
      have hw5 : IntKind.i64.wrap 5 = 5 := by decide
      simp only [Try.ntmps152, Try.results152, push_cast, seval, hw1]
      refine GoL_call rfl rfl kD0 rfl rfl ?_
      simp only [Try.ntmps152, Try.results152, push_cast, seval]
      refine hK _ _ _ (Weak.refl _) rfl rfl (by simp only [Try.ntmps152, Try.results152, push_cast, seval]; rfl) ?_
      have hwi : IntKind.i64.wrap 3 = 3 := by decide
      simp only [Try.ntmps144, Try.results144, push_cast, seval, hl6, hwi]
      refine ⟨_, ?_, hX1⟩
      exact Weak.drop (by simp only [push_cast, seval]) (by simp only [push_cast, seval]) (by simp only [push_cast, seval])
    · have hX1 := hX ⟨4, by decide⟩ (by simp only; omega)
      simp only [exA, rowA, zD, nilS, List.append_nil] at hX1 ⊢
      have hg : (vR (strs [lnA0, lnA1, lnA2, lnA3, lnA4, lnA5])).getD 3 [] = [.v (.string lnA3)] := rfl
      simp only [Try.ntmps144, Try.results144, push_cast, seval, hl6, hg]
      refine GoL_call rfl rfl partA3 rfl rfl ?_
      have hl2 : (strs [⟨#[116, 111]⟩, ⟨#[57, 48]⟩]).length = 2 := rfl
      have hv2 : vR (strs [⟨#[116, 111]⟩, ⟨#[57, 48]⟩]) = [[.v (.string ⟨#[116, 111]⟩)], [.v (.string ⟨#[57, 48]⟩)]] := rfl
      have hix := index_str (P := Try.prog) (t := 9) ⟨#[116, 111]⟩ 0 .i64
      rw [show ((0 : Nat) : Int) = 0 from rfl, show (⟨#[116, 111]⟩ : ByteArray)[0]? = some 116 from rfl] at hix
      have h35 : ((116 : UInt8).toNat : Int) = 116 := rfl
      simp only [Try.ntmps144, Try.results144, push_cast, seval, hl6, hg, hl2, hv2, hix, h35]
      refine GoL_inl2 1 Try.func152 rfl (by decide) mo (by decide +kernel) rfl rfl (show 0 ≤ 1 by decide) rfl fun K hK => ?_
      have hw1 : IntKind.i64.wrap 1 = 1 := by decide
      have hw5 : IntKind.i64.wrap 5 = 5 := by decide
      simp only [Try.ntmps152, Try.results152, push_cast, seval, hw1]
      refine GoL_call rfl rfl kD9 rfl rfl ?_
      simp only [Try.ntmps152, Try.results152, push_cast, seval]
      refine hK _ _ _ (Weak.refl _) rfl rfl (by simp only [Try.ntmps152, Try.results152, push_cast, seval]; rfl) ?_
      have hwi : IntKind.i64.wrap 4 = 4 := by decide
      simp only [Try.ntmps144, Try.results144, push_cast, seval, hl6, hwi]
      refine ⟨_, ?_, hX1⟩
      exact Weak.drop (by simp only [push_cast, seval]) (by simp only [push_cast, seval]) (by simp only [push_cast, seval])
    · have hX1 := hX ⟨5, by decide⟩ (by simp only; omega)
      simp only [exA, rowA, zD, nilS, List.append_nil] at hX1 ⊢
      have hg : (vR (strs [lnA0, lnA1, lnA2, lnA3, lnA4, lnA5])).getD 4 [] = [.v (.string lnA4)] := rfl
      simp only [Try.ntmps144, Try.results144, push_cast, seval, hl6, hg]
      refine GoL_call rfl rfl partA4 rfl rfl ?_
      have hl2 : (strs [⟨#[99, 97, 116, 99, 104, 117, 112]⟩]).length = 1 := rfl
      have hv2 : vR (strs [⟨#[99, 97, 116, 99, 104, 117, 112]⟩]) = [[.v (.string ⟨#[99, 97, 116, 99, 104, 117, 112]⟩)]] := rfl
      have hix := index_str (P := Try.prog) (t := 9) ⟨#[99, 97, 116, 99, 104, 117, 112]⟩ 0 .i64
      rw [show ((0 : Nat) : Int) = 0 from rfl, show (⟨#[99, 97, 116, 99, 104, 117, 112]⟩ : ByteArray)[0]? = some 99 from rfl] at hix
      have h35 : ((99 : UInt8).toNat : Int) = 99 := rfl
      simp only [Try.ntmps144, Try.results144, push_cast, seval, hl6, hg, hl2, hv2, hix, h35]
      refine GoL_inl2 1 Try.func152 rfl (by decide) mo (by decide +kernel) rfl rfl (show 0 ≤ 1 by decide) rfl fun K hK => ?_
      have hw1 : IntKind.i64.wrap 1 = 1 := by decide
      have hw5 : IntKind.i64.wrap 5 = 5 := by decide
      simp only [Try.ntmps152, Try.results152, push_cast, seval, hw1]
      refine hK _ _ _ (Weak.refl _) rfl rfl (by simp only [Try.ntmps152, Try.results152, push_cast, seval]; rfl) ?_
      have hwi : IntKind.i64.wrap 5 = 5 := by decide
      simp only [Try.ntmps144, Try.results144, push_cast, seval, hl6, hwi]
      refine ⟨_, ?_, hX1⟩
      exact Weak.drop (by simp only [push_cast, seval]) (by simp only [push_cast, seval]) (by simp only [push_cast, seval])
    · have hX1 := hX ⟨6, by decide⟩ (by simp only; omega)
      simp only [exA, rowA, zD, nilS, List.append_nil] at hX1 ⊢
      have hg : (vR (strs [lnA0, lnA1, lnA2, lnA3, lnA4, lnA5])).getD 5 [] = [.v (.string lnA5)] := rfl
      simp only [Try.ntmps144, Try.results144, push_cast, seval, hl6, hg]
      refine GoL_call rfl rfl partA5 rfl rfl ?_
      have hl2 : (strs [⟨#[116, 97, 115, 107]⟩, ⟨#[97]⟩, ⟨#[111, 110, 101]⟩, ⟨#[49]⟩, ⟨#[102, 114, 101, 101]⟩]).length = 5 := rfl
      have hv2 : vR (strs [⟨#[116, 97, 115, 107]⟩, ⟨#[97]⟩, ⟨#[111, 110, 101]⟩, ⟨#[49]⟩, ⟨#[102, 114, 101, 101]⟩]) = [[.v (.string ⟨#[116, 97, 115, 107]⟩)], [.v (.string ⟨#[97]⟩)], [.v (.string ⟨#[111, 110, 101]⟩)], [.v (.string ⟨#[49]⟩)], [.v (.string ⟨#[102, 114, 101, 101]⟩)]] := rfl
      have hix := index_str (P := Try.prog) (t := 9) ⟨#[116, 97, 115, 107]⟩ 0 .i64
      rw [show ((0 : Nat) : Int) = 0 from rfl, show (⟨#[116, 97, 115, 107]⟩ : ByteArray)[0]? = some 116 from rfl] at hix
      have h35 : ((116 : UInt8).toNat : Int) = 116 := rfl
      simp only [Try.ntmps144, Try.results144, push_cast, seval, hl6, hg, hl2, hv2, hix, h35]
      refine GoL_inl2X [12] 1 Try.func153 rfl (by decide) mo (by decide +kernel) rfl rfl (show 0 ≤ 1 by decide) rfl fun K hK => ?_
      simp only [Try.ntmps153, Try.results153, push_cast, seval, slimX, List.contains_cons, List.contains_nil, Nat.reduceBEq, Bool.or_false, Bool.and_true, Bool.and_false, Bool.true_and, Bool.false_and, if_true, if_false, Bool.false_eq_true]
      have kA := l12At_nil ⟨#[97]⟩
      unfold nilS at kA
      have kP := poolS_ok ⟨#[111, 110, 101]⟩
      rw [show poolN ⟨#[111, 110, 101]⟩ = 1 from by decide +kernel] at kP
      refine GoD_call rfl rfl kNa rfl rfl ?_
      simp only [Try.ntmps153, Try.results153, push_cast, seval]
      refine GoD_call rfl rfl kA rfl rfl ?_
      simp only [Try.ntmps153, Try.results153, push_cast, seval]
      refine GoD_call rfl rfl kP rfl rfl ?_
      simp only [Try.ntmps153, Try.results153, push_cast, seval]
      refine GoL_call rfl rfl kD1 rfl rfl ?_
      have hfp : decide ((⟨#[102, 114, 101, 101]⟩ : ByteArray) = ⟨#[112, 97, 115, 116]⟩) = false := by decide
      simp only [Try.ntmps153, Try.results153, push_cast, seval, hfp]
      refine Go_anyF [0, 2, 3, 4, 5, 7] (by decide +kernel) fun K2 hK2 => ?_
      refine AnyF_fl 0 (by decide +kernel) rfl rfl rfl ?_
      simp only [push_cast, seval]
      refine AnyF_fl 2 (by decide +kernel) rfl rfl rfl ?_
      simp only [push_cast, seval]
      refine AnyF_fl 3 (by decide +kernel) rfl rfl rfl ?_
      simp only [push_cast, seval]
      refine AnyF_fl 4 (by decide +kernel) rfl rfl rfl ?_
      simp only [push_cast, seval]
      refine AnyF_fl 5 (by decide +kernel) rfl rfl rfl ?_
      simp only [push_cast, seval]
      refine AnyF_fl 7 (by decide +kernel) rfl rfl rfl ?_
      simp only [push_cast, seval]
      refine AnyF_2 1 8 [0, 2, 3, 4, 5, 7] [0, 2, 3, 4, 5] (by decide +kernel) rfl rfl rfl (by decide +kernel) (by decide +kernel) ?_ ?_
      · simp only [push_cast, seval]
        refine AnyF_2 6 8 [0, 2, 3, 4, 7] [0, 2, 3, 4, 5] (by decide +kernel) rfl rfl rfl (by decide +kernel) (by decide +kernel) ?_ ?_
        · simp only [push_cast, seval]
          refine AnyF_1 8 [0, 2, 3, 4] (by decide +kernel) rfl rfl (by decide +kernel) ?_
          simp only [push_cast, seval]
          refine AnyF_1 9 [0, 2, 3, 4] (by decide +kernel) rfl rfl (by decide +kernel) ?_
          simp only [push_cast, seval]
          refine AnyF_1 10 [] (by decide +kernel) rfl rfl (by decide +kernel) ?_
          simp only [push_cast, seval]
          refine AnyF_1 11 [] (by decide +kernel) rfl rfl (by decide +kernel) ?_
          simp only [push_cast, seval]
          refine AnyF_1 12 [] (by decide +kernel) rfl rfl (by decide +kernel) ?_
          simp only [push_cast, seval]
          refine AnyF_end (by decide +kernel) (hK2 _ ?_)
          simp only [Try.ntmps153, Try.results153, push_cast, seval]
          refine hK _ _ _ (Weak.refl _) rfl rfl (by simp only [Try.ntmps153, Try.results153, push_cast, seval]; rfl) ?_
          have hwi : IntKind.i64.wrap 6 = 6 := by decide
          simp only [Try.ntmps144, Try.results144, push_cast, seval, hl6, hwi]
          refine ⟨_, ?_, hX1⟩
          simp only [tkA, nilS]
          exact Weak.drop (by simp only [push_cast, seval]) (by simp only [push_cast, seval]) (by simp only [push_cast, seval])
        · simp only [push_cast, seval]
          refine AnyF_1 6 [0, 2, 3, 4] (by decide +kernel) rfl rfl (by decide +kernel) ?_
          simp only [push_cast, seval]
          refine AnyF_1 9 [0, 2, 3, 4] (by decide +kernel) rfl rfl (by decide +kernel) ?_
          simp only [push_cast, seval]
          refine AnyF_1 10 [] (by decide +kernel) rfl rfl (by decide +kernel) ?_
          simp only [push_cast, seval]
          refine AnyF_1 11 [] (by decide +kernel) rfl rfl (by decide +kernel) ?_
          simp only [push_cast, seval]
          refine AnyF_1 12 [] (by decide +kernel) rfl rfl (by decide +kernel) ?_
          simp only [push_cast, seval]
          refine AnyF_end (by decide +kernel) (hK2 _ ?_)
          simp only [Try.ntmps153, Try.results153, push_cast, seval]
          refine hK _ _ _ (Weak.refl _) rfl rfl (by simp only [Try.ntmps153, Try.results153, push_cast, seval]; rfl) ?_
          have hwi : IntKind.i64.wrap 6 = 6 := by decide
          simp only [Try.ntmps144, Try.results144, push_cast, seval, hl6, hwi]
          refine ⟨_, ?_, hX1⟩
          simp only [tkA, nilS]
          exact Weak.drop (by simp only [push_cast, seval]) (by simp only [push_cast, seval]) (by simp only [push_cast, seval])
      · simp only [push_cast, seval]
        refine AnyF_1 1 [0, 2, 3, 4, 5] (by decide +kernel) rfl rfl (by decide +kernel) ?_
        simp only [push_cast, seval]
        refine AnyF_1 6 [0, 2, 3, 4] (by decide +kernel) rfl rfl (by decide +kernel) ?_
        simp only [push_cast, seval]
        refine AnyF_1 9 [0, 2, 3, 4] (by decide +kernel) rfl rfl (by decide +kernel) ?_
        simp only [push_cast, seval]
        refine AnyF_1 10 [] (by decide +kernel) rfl rfl (by decide +kernel) ?_
        simp only [push_cast, seval]
        refine AnyF_1 11 [] (by decide +kernel) rfl rfl (by decide +kernel) ?_
        simp only [push_cast, seval]
        refine AnyF_1 12 [] (by decide +kernel) rfl rfl (by decide +kernel) ?_
        simp only [push_cast, seval]
        refine AnyF_end (by decide +kernel) (hK2 _ ?_)
        simp only [Try.ntmps153, Try.results153, push_cast, seval]
        refine hK _ _ _ (Weak.refl _) rfl rfl (by simp only [Try.ntmps153, Try.results153, push_cast, seval]; rfl) ?_
        have hwi : IntKind.i64.wrap 6 = 6 := by decide
        simp only [Try.ntmps144, Try.results144, push_cast, seval, hl6, hwi]
        refine ⟨_, ?_, hX1⟩
        simp only [tkA, nilS]
        exact Weak.drop (by simp only [push_cast, seval]) (by simp only [push_cast, seval]) (by simp only [push_cast, seval])
    · have kO := dagOk_okN dAnn ⟨by decide, by decide, ⟨by decide, fun i hi => by
        have : i = 0 := by simp only [dAnn, List.length_cons, List.length_nil] at hi; omega
        subst this; decide⟩, fun i hi => by
        have : i = 0 := by simp only [dAnn, List.length_cons, List.length_nil] at hi; omega
        subst this; decide⟩
      rw [dAnn_ok] at kO
      have kO2 : PureFn Try.prog 154 [.agg [.v (.string ⟨#[97, 110, 110]⟩), .v (.string ⟨#[42, 32, 42, 32, 42, 32, 42, 32, 42]⟩), .v (.int .i64 0), .v (.int .i64 90), .v (.bool true), .sh 5 tkA]] [bo true] := kO
      simp only [tkA, nilS] at kO2
      simp only [exA, rowA, zD, nilS, List.append_nil, tkA, List.cons_append, List.nil_append]
      simp only [Try.ntmps144, Try.results144, push_cast, seval, hl6]
      refine GoL_call rfl (by simp only [push_cast, seval]; rfl) kO2 rfl rfl ?_
      simp only [Try.ntmps144, Try.results144, push_cast, seval, hl6]
      refine ⟨_, Weak.refl _, ?_⟩
      trace_state
      simp only [Try.ntmps144, Try.results144, push_cast, seval, dgC, dAnn, tkA, nilS]
end Go.Proofs.Ythhgmnpodgmlkaa
namespace Go.Proofs.Ythhgmnpodgmlkaa
open Go.RowKit Go.Rx
set_option linter.unusedSimpArgs false
set_option maxRecDepth 100000
theorem boardNew_ok : PureFn Try.prog 134 [] [.agg [nilS, nilS, nilS, .v (.int .i64 0), .v (.int .i64 1)]] := by
  refine PureFn_of_Go Try.func134 rfl (by decide) mo (by decide +kernel) ?_
  unfold nilS
  simp only [Try.ntmps134, Try.results134, push_cast, seval]
def ssR (tk la : Int) : List (List C) := [[.v (.int .i64 tk), .v (.int .i64 la), .v (.string ⟨#[]⟩)]]
def bdC (tk la ck : Int) : List C := [.sh 3 (ssR tk la), nilS, nilS, .v (.int .i64 ck), .v (.int .i64 1)]
theorem planAt_nil (c0 c2 c3 c4 : C) (h0 : (∃ R, c0 = .sh 3 R) ∧ c2 = nilS) (x3 x4 : Int) (h3 : c3 = .v (.int .i64 x3)) (h4 : c4 = .v (.int .i64 x4)) (s : ByteArray) : PureFn Try.prog 146 [.agg [c0, nilS, c2, c3, c4], st s] [i64 (-1)] := by
  obtain ⟨⟨R, rfl⟩, rfl⟩ := h0
  subst h3 h4
  refine PureFn_of_Go Try.func146 rfl (by decide) mo (by decide +kernel) ?_
  unfold nilS
  simp only [Try.ntmps146, Try.results146, push_cast, seval]
  refine Go_loop (α := Unit) (fun _ => ⟨tp 23 [(1, .x (st s)), (2, .x (.one (.pt (0, 128) [] 5 0 0))), (5, int 0)], 0, [((0, 128), ⟨.box, 5, [[.sh 3 R, nilS, nilS, .v (.int .i64 x3), .v (.int .i64 x4)]]⟩)], []⟩) (fun _ => 0) () ?_ ?_
  · unfold nilS
    exact Weak.drop (by simp only [push_cast, seval]) (by simp only [push_cast, seval]) (by simp only [push_cast, seval])
  · rintro _ X hX
    unfold nilS
    simp only [Try.ntmps146, Try.results146, push_cast, seval]
theorem l15Copy_ok (tk la ck : Int) : PureFn Try.prog 143 [.agg (bdC tk la ck)] [.agg [.own 3 (ssR tk la), .own 9 [], .own 5 [], .v (.int .i64 ck), .v (.int .i64 1)]] := by
  refine PureFn_of_GoW Try.func143 rfl (by decide) mo (by decide +kernel) ?_
  unfold bdC nilS ssR
  simp only [Try.ntmps143, Try.results143, push_cast, seval, flatRows, flatRow]
  refine Go_loop (α := Unit) (fun _ => ⟨tp 56 [(1, .x (.one (.pt (0, 64) [] 5 0 0))), (2, .x (.one (.pt (0, 128) [] 5 0 0))), (3, .x (.one (.rs (0, 832) [] 9 0 0))), (4, int 0)], 0,
      [((0, 832), ⟨.sl, 9, []⟩), ((0, 704), ⟨.sl, 3, ssR tk la⟩), ((0, 128), ⟨.box, 5, [[nilS, nilS, nilS, .v (.int .i64 0), .v (.int .i64 0)]]⟩), ((0, 64), ⟨.box, 5, [[.rs (0, 704) [] 3 0 1, nilS, nilS, .v (.int .i64 ck), .v (.int .i64 1)]]⟩)], []⟩) (fun _ => 0) () ?_ ?_
  · unfold nilS ssR
    exact Weak.drop (by simp only [push_cast, seval]) (by simp only [push_cast, seval]) (by simp only [push_cast, seval])
  · rintro _ X hX
    unfold nilS ssR
    simp only [Try.ntmps143, Try.results143, push_cast, seval]
    refine Go_loop (α := Unit) (fun _ => ⟨tp 56 [(1, .x (.one (.pt (0, 64) [] 5 0 0))), (2, .x (.one (.pt (0, 128) [] 5 0 0))), (6, .x (.one (.rs (0, 2304) [] 5 0 0))), (7, int 0)], 0,
      [((0, 2304), ⟨.sl, 5, []⟩), ((0, 832), ⟨.sl, 9, []⟩), ((0, 704), ⟨.sl, 3, ssR tk la⟩), ((0, 128), ⟨.box, 5, [[nilS, nilS, nilS, .v (.int .i64 0), .v (.int .i64 0)]]⟩), ((0, 64), ⟨.box, 5, [[.rs (0, 704) [] 3 0 1, .rs (0, 832) [] 9 0 0, nilS, .v (.int .i64 ck), .v (.int .i64 1)]]⟩)], []⟩) (fun _ => 0) () ?_ ?_
    · unfold nilS ssR
      exact Weak.drop (by simp only [push_cast, seval]) (by simp only [push_cast, seval]) (by simp only [push_cast, seval])
    · rintro _ Y hY
      unfold nilS ssR
      simp only [Try.ntmps143, Try.results143, push_cast, seval]
      refine ⟨_, Weak.refl _, ?_⟩
      simp only [Try.ntmps143, Try.results143, push_cast, seval]
end Go.Proofs.Ythhgmnpodgmlkaa
namespace Go.Proofs.Ythhgmnpodgmlkaa
open Go.RowKit Go.Rx
set_option linter.unusedSimpArgs false
set_option maxRecDepth 100000
def plRow : List C := [.v (.string ⟨#[97, 110, 110]⟩), .v (.string ⟨#[42, 32, 42, 32, 42, 32, 42, 32, 42]⟩), .v (.int .i64 0), .v (.int .i64 90), .v (.bool true), .own 5 tkA, .v (.bool false), .v (.int .i64 0), .v (.int .i64 0)]
set_option maxHeartbeats 2000000 in
theorem submit_ok (tk la ck : Int) : PureFn Try.prog 135 [.agg (bdC tk la ck), st tAnn] [.agg [.own 3 (ssR tk la), .own 9 [plRow], .own 5 [], .v (.int .i64 ck), .v (.int .i64 1)], st ⟨#[112, 108, 97, 110]⟩] := by
  refine PureFn_of_GoWX [4] Try.func135 rfl (by decide) mo (by decide +kernel) ?_
  have kC := l15Copy_ok tk la ck
  have kP := parseAnn
  have kA := planAt_nil (.sh 3 (ssR tk la)) nilS (.v (.int .i64 ck)) (.v (.int .i64 1)) ⟨⟨_, rfl⟩, rfl⟩ ck 1 rfl rfl ⟨#[97, 110, 110]⟩
  simp only [bdC, nilS, ssR] at kC kA
  simp only [dgC, dAnn, tkA, nilS] at kP
  unfold bdC nilS ssR
  simp only [Try.ntmps135, Try.results135, push_cast, seval, slimX, List.contains_cons, List.contains_nil, Nat.reduceBEq, Bool.or_false, Bool.and_true, Bool.and_false, Bool.true_and, Bool.false_and, if_true, if_false, Bool.false_eq_true]
  refine GoL_call rfl rfl kC rfl rfl ?_
  simp only [Try.ntmps135, Try.results135, push_cast, seval]
  refine GoL_call rfl rfl kP rfl rfl ?_
  simp only [Try.ntmps135, Try.results135, push_cast, seval]
  refine GoL_call rfl rfl kA rfl rfl ?_
  simp only [Try.ntmps135, Try.results135, push_cast, seval]
  refine Go_loop (α := Unit) (fun _ => ⟨tp 99 [(4, .x (.one (.pt (0, 256) [] 5 0 0))), (6, .x (.one (.pt (0, 384) [] 5 0 0))), (7, .x (.one (.pt (0, 448) [] 6 0 0))), (9, .x (.one (.rs (0, 2304) [] 9 0 0))), (10, int 0)], 0,
      [((0, 2304), ⟨.sl, 9, []⟩), ((0, 448), ⟨.box, 6, [[.v (.string ⟨#[97, 110, 110]⟩), .v (.string ⟨#[42, 32, 42, 32, 42, 32, 42, 32, 42]⟩), .v (.int .i64 0), .v (.int .i64 90), .v (.bool true), .rs (0, 1029) [] 5 0 1]]⟩), ((0, 1029), ⟨.sl, 5, tkA⟩), ((0, 384), ⟨.box, 5, [[.rs (0, 832) [] 3 0 1, .rs (0, 833) [] 9 0 0, .rs (0, 834) [] 5 0 0, .v (.int .i64 ck), .v (.int .i64 1)]]⟩), ((0, 832), ⟨.sl, 3, ssR tk la⟩), ((0, 833), ⟨.sl, 9, []⟩), ((0, 834), ⟨.sl, 5, []⟩), ((0, 256), ⟨.box, 5, [[nilS, nilS, nilS, .v (.int .i64 0), .v (.int .i64 0)]]⟩)], []⟩) (fun _ => 0) () ?_ ?_
  · unfold nilS ssR tkA nilS
    exact Weak.drop (by simp only [push_cast, seval]) (by simp only [push_cast, seval]) (by simp only [push_cast, seval])
  · rintro _ X hX
    unfold nilS ssR tkA nilS
    simp only [Try.ntmps135, Try.results135, push_cast, seval]
    refine Go_loop (α := Unit) (fun _ => ⟨tp 99 [(4, .x (.one (.pt (0, 256) [] 5 0 0))), (6, .x (.one (.pt (0, 384) [] 5 0 0))), (9, .x (.one (.rs (0, 4480) [] 9 0 1))), (11, int 0)], 0,
      [((0, 4480), ⟨.sl, 9, [plRow]⟩), ((0, 384), ⟨.box, 5, [[.rs (0, 832) [] 3 0 1, .rs (0, 833) [] 9 0 0, .rs (0, 834) [] 5 0 0, .v (.int .i64 ck), .v (.int .i64 1)]]⟩), ((0, 832), ⟨.sl, 3, ssR tk la⟩), ((0, 833), ⟨.sl, 9, []⟩), ((0, 834), ⟨.sl, 5, []⟩), ((0, 256), ⟨.box, 5, [[nilS, nilS, nilS, .v (.int .i64 0), .v (.int .i64 0)]]⟩)], []⟩) (fun _ => 0) () ?_ ?_
    · unfold nilS ssR plRow tkA nilS
      exact Weak.drop (by simp only [push_cast, seval]) (by simp only [push_cast, seval]) (by simp only [push_cast, seval])
    · rintro _ Y hY
      unfold nilS ssR plRow tkA nilS
      simp only [Try.ntmps135, Try.results135, push_cast, seval]
      refine ⟨_, Weak.refl _, ?_⟩
      simp only [Try.ntmps135, Try.results135, push_cast, seval, plRow, tkA, nilS, ssR]
end Go.Proofs.Ythhgmnpodgmlkaa
namespace Go.Proofs.Ythhgmnpodgmlkaa
open Go.RowKit Go.Rx
set_option linter.unusedSimpArgs false
set_option maxRecDepth 100000
def op18 : List Int := [2, 4, 4, 4, 5, 5, 5, 5, 5, 7, 7, 7, 7, 7, 6, 3, 8, 9]
variable {Q : Ex → St → Prop} {k : List Fr} {l : List SOp} {σ : St} {dst : Option Tmp} {a a2 : Operand} {ats : Array TypeId} {ty : TypeId}
set_option maxHeartbeats 4000000 in
theorem l16OfA_any (D : Nat) (r rs1 : Root) (ck : Nat) (tk la : Int) (hs1 : getA σ.o rs1 = some ⟨.sl, 3, ssR tk la⟩) (hrs : rs1.1 < D) {c : List UInt8} {p : Nat × Int} (hc : c.length ≤ 1048576) (hp : p.1 ≤ c.length)
    (ha : xsV [ev σ a, ev σ a2] = some [.one (.pt r [] 3 0 0), .agg [.rs rs1 [] 3 0 1, nilS, nilS, .v (.int .i64 ck), .v (.int .i64 1)]]) (hr : getA σ.o r = some (curOb c p)) (hrs0 : rs1 ≠ r) (hd : σ.d ≤ D) (hD : belowS D σ.o = true) (hG : ∀ l' : Store, (σ.o.all fun e => refOkO D l' e.2) = true)
    (H1 : ∀ (p' : Nat × Int) (o num to_ : Nat) (text task : ByteArray) (yes : Bool), p'.1 ≤ c.length → o ≤ 9 → num ≤ 1000 → to_ ≤ 1000 → text.size ≤ 600 → task.size ≤ 600 →
      GoL Try.prog l k (exitSt σ.t σ.d dst ⟨[], D, [((D, 256), ⟨.box, 8, [(mkC o 0 0 text task num to_ yes).enc]⟩)], setA σ.o r (curOb c p')⟩ [.agg (mkC o 0 0 text task num to_ yes).enc]) Q) :
    GoL Try.prog (⟨dst, .call { callee := .value (.func 147), args := #[a, a2], argTypes := ats }, ty, none⟩ :: l) k σ Q := by
  refine GoL_inl2X [6, 18, 38, 43] D Try.func147 rfl (by decide) mo (by decide +kernel) rfl ha hd hD fun K hK => ?_
  generalize σ.o = s at hr hD hG H1 hK hs1
  have hgo : ∀ (l' : Store) (p' : Nat × Int), ((setA s r (curOb c p')).all fun e => refOkO D l' e.2) = true := fun l' p' => all_setA (fun _ => rfl) (hG l')
  have hgo1 : ∀ (l' : Store) (p' : Nat × Int), ((setA s r (curOb c p')).all fun e => refOkO (D + 1) l' e.2) = true := fun l' p' => all_mono (Nat.le_succ D) (hgo l' p')
  have hgo5 : ∀ (l' : Store) (p' : Nat × Int), ((setA s r (curOb c p')).all fun e => refOkO (D + 2) l' e.2) = true := fun l' p' => all_mono (by omega) (hgo l' p')
  have hgo2 := hgo
  simp only [refOkO] at hgo2
  have hgo3 := hgo1
  simp only [refOkO] at hgo3
  have hgo6 := hgo5
  simp only [refOkO] at hgo6
  have hr1 : ∀ ob, getA (setA s r ob) r = some ob := getA_here hr
  have hu : ∀ ob, upS D (setA s r ob) = [] := fun ob => upS_below (by rw [belowS_setA]; exact hD)
  have hv : ∀ ob, dnS D (setA s r ob) = setA s r ob := fun ob => dnS_below (by rw [belowS_setA]; exact hD)
  have hrD : r.1 < D := belowS_get hD r _ hr
  have hne : ∀ n, ((D, n) = r) = False := fun n => eq_false fun e => by rw [← e] at hrD; exact Nat.lt_irrefl _ hrD
  have hne2 : ∀ n, r ≠ (D, n) := fun n e => by rw [e] at hrD; exact Nat.lt_irrefl _ hrD
  have hneS : ∀ n, ((D + 1, n) = r) = False := fun n => eq_false fun e => by rw [← e] at hrD; simp only at hrD; omega
  have hneT : ∀ n, ((D + 2, n) = r) = False := fun n => eq_false fun e => by rw [← e] at hrD; simp only at hrD; omega
  have hnr : ∀ n, (r = (D, n)) = False := fun n => eq_false (hne2 n)
  have hdr : decide (r.1 < D) = true := decide_eq_true hrD
  have hdr1 : decide (r.1 < D + 1) = true := decide_eq_true (by omega)
  have hdr2 : decide (r.1 < D + 2) = true := decide_eq_true (by omega)
  have hDl : decide (D < D + 1) = true := decide_eq_true (Nat.lt_succ_self D)
  have hDl2 : decide (D < D + 2) = true := decide_eq_true (by omega)
  have hDl3 : decide (D + 1 < D + 2) = true := decide_eq_true (by omega)
  have hDS1 : (D + 1 = D) = False := eq_false (by omega)
  have hDS2 : (D = D + 1) = False := eq_false (by omega)
  have hDS3 : (D + 2 = D) = False := eq_false (by omega)
  have hDS4 : (D = D + 2) = False := eq_false (by omega)
  have hDX1 : (D + 1 < D) = False := eq_false (by omega)
  have hDX2 : (D + 2 < D) = False := eq_false (by omega)
  have hDE1 : (D ≤ D + 1) = True := eq_true (by omega)
  have hDE2 : (D ≤ D + 2) = True := eq_true (by omega)
  have hDD : (D < D) = False := eq_false (Nat.lt_irrefl D)
  have hD1 : ∀ ob, belowS (D + 1) (setA s r ob) = true := fun ob => by rw [belowS_setA]; exact belowS_mono (Nat.le_succ D) hD
  have hD2 : ∀ ob, belowS (D + 2) (setA s r ob) = true := fun ob => by rw [belowS_setA]; exact belowS_mono (by omega) hD
  have hs0 := setA_same hr
  rw [← hs0]
  clear hs0
  have hcs : ∀ p, (curOb c p).sz = 3 := fun _ => rfl
  have hcl : ∀ p, (curOb c p).rows.length = 1 := fun _ => rfl
  have hnS : ∀ n, ((D, n) = rs1) = False := fun n => eq_false fun e => by rw [← e] at hrs; exact Nat.lt_irrefl _ hrs
  have hnS1 : ∀ n, ((D + 1, n) = rs1) = False := fun n => eq_false fun e => by rw [← e] at hrs; simp only at hrs; omega
  have hnS2 : ∀ n, ((D + 2, n) = rs1) = False := fun n => eq_false fun e => by rw [← e] at hrs; simp only at hrs; omega
  have hgS : ∀ ob, getA (setA s r ob) rs1 = some ⟨.sl, 3, ssR tk la⟩ := fun ob => by rw [getA_setA, if_neg (Ne.symm hrs0)]; exact hs1
  have hgl : (ssR tk la).length = 1 := rfl
  have hrs1 : decide (rs1.1 < D) = true := decide_eq_true hrs
  have hrs2 : decide (rs1.1 < D + 1) = true := decide_eq_true (by omega)
  have hrs3 : decide (rs1.1 < D + 2) = true := decide_eq_true (by omega)
  simp only [Try.ntmps147, Try.results147, push_cast, seval, slimX, List.contains_cons, List.contains_nil, Nat.reduceBEq, Bool.or_false, Bool.and_true, Bool.and_false, Bool.true_and, Bool.false_and, if_true, if_false, Bool.false_eq_true, nilS, setA_setA, hcs, hcl, hne, hr1, hu, hv, hDD, hneS, hneT, hDS1, hDS2, hDS3, hDS4, hDE1, hDE2, hDX1, hDX2, hnS, hnS1, hnS2, hgS, hgl]
  refine pickInt_any (D + 1) r (D, 704) op18 hc hp (by decide) (by decide) (hne2 _) rfl (by simp only [push_cast, seval, setA_setA, hne, hr1]) (by simp only [push_cast, seval]; rfl) (by simp only; omega) (by simp only [push_cast, seval, setA_setA, hD1, hDl]) fun p1 op hp1 hop => ?_
  simp only [Try.ntmps147, Try.results147, push_cast, seval, setA_setA, hcs, hcl, hne, hr1, hu, hv, hDD, hneS, hneT, hDS1, hDS2, hDS3, hDS4, hDE1, hDE2, hDX1, hDX2, hnS, hnS1, hnS2, hgS, hgl]
  refine l12Dag_any (D + 1) r hc hp1 rfl (by simp only [push_cast, seval, setA_setA, hne, hr1]) (by simp only; omega) (by simp only [push_cast, seval, setA_setA, hD1, hDl]) (by simp only [push_cast, seval, hgo3, hrs2]; try exact fun _ => trivial) fun p2 d cell ex hp2 hdrw haf hcell => ?_
  have ht1 := drw_tsize hdrw haf
  have kT := dagText_okN d (drw_sm hdrw fun i hi => by have := haf i hi; omega)
  obtain ⟨tx, htx⟩ : ∃ tx, tx = dtT d := ⟨_, rfl⟩
  rw [← htx] at ht1 kT
  have ht6 : ¬ (600 : Int) < (tx.size : Int) := by omega
  rcases hcell with ⟨rfl, rfl⟩ | ⟨rfl, rfl⟩
  all_goals
    simp only [Try.ntmps147, Try.results147, push_cast, seval, setA_setA, hcs, hcl, hne, hr1, hu, hv, hDD, hneS, hneT, hDS1, hDS2, hDS3, hDS4, hDE1, hDE2, hDX1, hDX2, hnS, hnS1, hnS2, hgS, hgl, dgC, shTn]
    refine GoL_call rfl (by first | rfl | (simp only [push_cast, seval, tkR_tk, tkR_ts]; rfl)) kT rfl rfl ?_
    simp only [Try.ntmps147, Try.results147, push_cast, seval, setA_setA, hcs, hcl, hne, hr1, hu, hv, hDD, hneS, hneT, hDS1, hDS2, hDS3, hDS4, hDE1, hDE2, hDX1, hDX2, hnS, hnS1, hnS2, hgS, hgl]
    refine once_any (D + 2) r hc hp2 rfl (by simp only [push_cast, seval, setA_setA, hne, hr1, hneS, hDX1]) (by simp only; omega) (by simp only [push_cast, seval, setA_setA, hD2, hDl2, hDl3, hDX1]) fun p3 b3 hp3 => ?_
    cases b3
    · simp only [Try.ntmps147, Try.results147, push_cast, seval, setA_setA, hcs, hcl, hne, hr1, hu, hv, hDD, hneS, hneT, hDS1, hDS2, hDS3, hDS4, hDE1, hDE2, hDX1, hDX2, hnS, hnS1, hnS2, hgS, hgl, ht6]
      refine hK _ ⟨tp 192 [(4, .x (.one (.pt (D, 256) [] 8 0 0)))], D, [((D, 256), ⟨.box, 8, [(mkC 2 0 0 tx ⟨#[]⟩ 0 0 false).enc]⟩)], setA s r (curOb c p3)⟩ _ ?_ rfl rfl (by simp only [Try.ntmps147, Try.results147, push_cast, seval, mkC, Cmd.enc] <;> rfl) (H1 p3 2 0 0 tx ⟨#[]⟩ false hp3 (by decide) (by decide) (by decide) (by omega) (by decide))
      simp only [mkC, Cmd.enc]
      exact dropAny (by simp only [push_cast, seval]) (by simp only [push_cast, seval]) (by simp only [push_cast, seval, hdr]) (by simp only [push_cast, seval]) (hgo _ _)
    · simp only [Try.ntmps147, Try.results147, push_cast, seval, setA_setA, hcs, hcl, hne, hr1, hu, hv, hDD, hneS, hneT, hDS1, hDS2, hDS3, hDS4, hDE1, hDE2, hDX1, hDX2, hnS, hnS1, hnS2, hgS, hgl]
      refine l12Text_any (D + 2) r hc hp3 rfl (by simp only [push_cast, seval, setA_setA, hne, hr1, hneS, hneT, hDX1, hDX2]) (by simp only; omega) (by simp only [push_cast, seval, setA_setA, hD2, hDl2, hDl3, hDX1, hDX2]) (by simp only [push_cast, seval, hgo6, hrs3, hdr2, hDX1, hDX2, hDl2, hDl3, Bool.true_or]; try exact fun _ => trivial) fun p4 s4 hp4 hs4 => ?_
      by_cases h6 : (600 : Int) < (s4.size : Int)
      · simp only [Try.ntmps147, Try.results147, push_cast, seval, setA_setA, hcs, hcl, hne, hr1, hu, hv, hDD, hneS, hneT, hDS1, hDS2, hDS3, hDS4, hDE1, hDE2, hDX1, hDX2, hnS, hnS1, hnS2, hgS, hgl, h6]
        refine hK _ ⟨tp 192 [(4, .x (.one (.pt (D, 256) [] 8 0 0)))], D, [((D, 256), ⟨.box, 8, [(mkC 2 0 0 ⟨#[100, 97, 103]⟩ ⟨#[]⟩ 0 0 false).enc]⟩)], setA s r (curOb c p4)⟩ _ ?_ rfl rfl (by simp only [Try.ntmps147, Try.results147, push_cast, seval, mkC, Cmd.enc] <;> rfl) (H1 p4 2 0 0 ⟨#[100, 97, 103]⟩ ⟨#[]⟩ false hp4 (by decide) (by decide) (by decide) (by decide) (by decide))
        simp only [mkC, Cmd.enc]
        exact dropAny (by simp only [push_cast, seval]) (by simp only [push_cast, seval]) (by simp only [push_cast, seval, hdr]) (by simp only [push_cast, seval]) (hgo _ _)
      · simp only [Try.ntmps147, Try.results147, push_cast, seval, setA_setA, hcs, hcl, hne, hr1, hu, hv, hDD, hneS, hneT, hDS1, hDS2, hDS3, hDS4, hDE1, hDE2, hDX1, hDX2, hnS, hnS1, hnS2, hgS, hgl, h6]
        refine hK _ ⟨tp 192 [(4, .x (.one (.pt (D, 256) [] 8 0 0)))], D, [((D, 256), ⟨.box, 8, [(mkC 2 0 0 s4 ⟨#[]⟩ 0 0 false).enc]⟩)], setA s r (curOb c p4)⟩ _ ?_ rfl rfl (by simp only [Try.ntmps147, Try.results147, push_cast, seval, mkC, Cmd.enc] <;> rfl) (H1 p4 2 0 0 s4 ⟨#[]⟩ false hp4 (by decide) (by decide) (by decide) (by omega) (by decide))
        simp only [mkC, Cmd.enc]
        exact dropAny (by simp only [push_cast, seval]) (by simp only [push_cast, seval]) (by simp only [push_cast, seval, hdr]) (by simp only [push_cast, seval]) (hgo _ _)
end Go.Proofs.Ythhgmnpodgmlkaa
namespace Go.Proofs.Ythhgmnpodgmlkaa
open Go.RowKit Go.Rx
set_option linter.unusedSimpArgs false
set_option maxRecDepth 100000
variable {Q : Ex → St → Prop} {k : List Fr} {l : List SOp} {σ : St} {dst : Option Tmp} {a a2 : Operand} {ats : Array TypeId} {ty : TypeId}
theorem h4s : ∀ x ∈ ([⟨#[97]⟩, ⟨#[98]⟩, ⟨#[99]⟩, ⟨#[100]⟩] : List ByteArray), x.size ≤ 4 := by
  have : (([⟨#[97]⟩, ⟨#[98]⟩, ⟨#[99]⟩, ⟨#[100]⟩] : List ByteArray).all fun s => decide (s.size ≤ 4)) = true := by decide +kernel
  rw [List.all_eq_true] at this
  exact fun s hs => of_decide_eq_true (this s hs)
set_option maxHeartbeats 4000000 in
theorem l16OfB_any (D : Nat) (r rs1 rp rr : Root) (ck : Nat) (hck : ck ≤ 50) (tk la : Int) (hs1 : getA σ.o rs1 = some ⟨.sl, 3, ssR tk la⟩) (hrs : rs1.1 < D) (hp1' : getA σ.o rp = some ⟨.sl, 9, [plRow]⟩) (hrp : rp.1 < D) (hr1' : getA σ.o rr = some ⟨.sl, 5, []⟩) (hrr : rr.1 < D) {c : List UInt8} {p : Nat × Int} (hc : c.length ≤ 1048576) (hp : p.1 ≤ c.length)
    (ha : xsV [ev σ a, ev σ a2] = some [.one (.pt r [] 3 0 0), .agg [.rs rs1 [] 3 0 1, .rs rp [] 9 0 1, .rs rr [] 5 0 0, .v (.int .i64 ck), .v (.int .i64 1)]]) (hr : getA σ.o r = some (curOb c p)) (hrs0 : rs1 ≠ r) (hrp0 : rp ≠ r) (hrr0 : rr ≠ r) (hd : σ.d ≤ D) (hD : belowS D σ.o = true) (hG : ∀ l' : Store, (σ.o.all fun e => refOkO D l' e.2) = true)
    (H1 : ∀ (p' : Nat × Int) (o num to_ : Nat) (text task : ByteArray) (yes : Bool), p'.1 ≤ c.length → o ≤ 9 → num ≤ 1000 → to_ ≤ 1000 → text.size ≤ 600 → task.size ≤ 600 →
      GoL Try.prog l k (exitSt σ.t σ.d dst ⟨[], D, [((D, 256), ⟨.box, 8, [(mkC o 0 0 text task num to_ yes).enc]⟩)], setA σ.o r (curOb c p')⟩ [.agg (mkC o 0 0 text task num to_ yes).enc]) Q) :
    GoL Try.prog (⟨dst, .call { callee := .value (.func 147), args := #[a, a2], argTypes := ats }, ty, none⟩ :: l) k σ Q := by
  refine GoL_inl2X [6, 18, 38, 43] D Try.func147 rfl (by decide) mo (by decide +kernel) rfl ha hd hD fun K hK => ?_
  generalize σ.o = s at hr hD hG H1 hK hs1 hp1' hr1'
  have hgo : ∀ (l' : Store) (p' : Nat × Int), ((setA s r (curOb c p')).all fun e => refOkO D l' e.2) = true := fun l' p' => all_setA (fun _ => rfl) (hG l')
  have hgo1 : ∀ (l' : Store) (p' : Nat × Int), ((setA s r (curOb c p')).all fun e => refOkO (D + 1) l' e.2) = true := fun l' p' => all_mono (Nat.le_succ D) (hgo l' p')
  have hgo5 : ∀ (l' : Store) (p' : Nat × Int), ((setA s r (curOb c p')).all fun e => refOkO (D + 2) l' e.2) = true := fun l' p' => all_mono (by omega) (hgo l' p')
  have hgo2 := hgo
  simp only [refOkO] at hgo2
  have hgo3 := hgo1
  simp only [refOkO] at hgo3
  have hgo6 := hgo5
  simp only [refOkO] at hgo6
  have hr1 : ∀ ob, getA (setA s r ob) r = some ob := getA_here hr
  have hu : ∀ ob, upS D (setA s r ob) = [] := fun ob => upS_below (by rw [belowS_setA]; exact hD)
  have hv : ∀ ob, dnS D (setA s r ob) = setA s r ob := fun ob => dnS_below (by rw [belowS_setA]; exact hD)
  have hrD : r.1 < D := belowS_get hD r _ hr
  have hne : ∀ n, ((D, n) = r) = False := fun n => eq_false fun e => by rw [← e] at hrD; exact Nat.lt_irrefl _ hrD
  have hne2 : ∀ n, r ≠ (D, n) := fun n e => by rw [e] at hrD; exact Nat.lt_irrefl _ hrD
  have hneS : ∀ n, ((D + 1, n) = r) = False := fun n => eq_false fun e => by rw [← e] at hrD; simp only at hrD; omega
  have hneT : ∀ n, ((D + 2, n) = r) = False := fun n => eq_false fun e => by rw [← e] at hrD; simp only at hrD; omega
  have hnr : ∀ n, (r = (D, n)) = False := fun n => eq_false (hne2 n)
  have hdr : decide (r.1 < D) = true := decide_eq_true hrD
  have hdr1 : decide (r.1 < D + 1) = true := decide_eq_true (by omega)
  have hdr2 : decide (r.1 < D + 2) = true := decide_eq_true (by omega)
  have hDl : decide (D < D + 1) = true := decide_eq_true (Nat.lt_succ_self D)
  have hDl2 : decide (D < D + 2) = true := decide_eq_true (by omega)
  have hDl3 : decide (D + 1 < D + 2) = true := decide_eq_true (by omega)
  have hDS1 : (D + 1 = D) = False := eq_false (by omega)
  have hDS2 : (D = D + 1) = False := eq_false (by omega)
  have hDS3 : (D + 2 = D) = False := eq_false (by omega)
  have hDS4 : (D = D + 2) = False := eq_false (by omega)
  have hDX1 : (D + 1 < D) = False := eq_false (by omega)
  have hDX2 : (D + 2 < D) = False := eq_false (by omega)
  have hDE1 : (D ≤ D + 1) = True := eq_true (by omega)
  have hDE2 : (D ≤ D + 2) = True := eq_true (by omega)
  have hDD : (D < D) = False := eq_false (Nat.lt_irrefl D)
  have hD1 : ∀ ob, belowS (D + 1) (setA s r ob) = true := fun ob => by rw [belowS_setA]; exact belowS_mono (Nat.le_succ D) hD
  have hD2 : ∀ ob, belowS (D + 2) (setA s r ob) = true := fun ob => by rw [belowS_setA]; exact belowS_mono (by omega) hD
  have hs0 := setA_same hr
  rw [← hs0]
  clear hs0
  have hcs : ∀ p, (curOb c p).sz = 3 := fun _ => rfl
  have hcl : ∀ p, (curOb c p).rows.length = 1 := fun _ => rfl
  have hnS : ∀ n, ((D, n) = rs1) = False := fun n => eq_false fun e => by rw [← e] at hrs; exact Nat.lt_irrefl _ hrs
  have hnS1 : ∀ n, ((D + 1, n) = rs1) = False := fun n => eq_false fun e => by rw [← e] at hrs; simp only at hrs; omega
  have hnS2 : ∀ n, ((D + 2, n) = rs1) = False := fun n => eq_false fun e => by rw [← e] at hrs; simp only at hrs; omega
  have hgS : ∀ ob, getA (setA s r ob) rs1 = some ⟨.sl, 3, ssR tk la⟩ := fun ob => by rw [getA_setA, if_neg (Ne.symm hrs0)]; exact hs1
  have hgl : (ssR tk la).length = 1 := rfl
  have hrs1 : decide (rs1.1 < D) = true := decide_eq_true hrs
  have hrs2 : decide (rs1.1 < D + 1) = true := decide_eq_true (by omega)
  have hrs3 : decide (rs1.1 < D + 2) = true := decide_eq_true (by omega)
  have hnP : ∀ n, ((D, n) = rp) = False := fun n => eq_false fun e => by rw [← e] at hrp; exact Nat.lt_irrefl _ hrp
  have hnP1 : ∀ n, ((D + 1, n) = rp) = False := fun n => eq_false fun e => by rw [← e] at hrp; simp only at hrp; omega
  have hnP2 : ∀ n, ((D + 2, n) = rp) = False := fun n => eq_false fun e => by rw [← e] at hrp; simp only at hrp; omega
  have hgP : ∀ ob, getA (setA s r ob) rp = some ⟨.sl, 9, [plRow]⟩ := fun ob => by rw [getA_setA, if_neg (Ne.symm hrp0)]; exact hp1'
  have hrp1 : decide (rp.1 < D) = true := decide_eq_true hrp
  have hrp2 : decide (rp.1 < D + 1) = true := decide_eq_true (by omega)
  have hrp3 : decide (rp.1 < D + 2) = true := decide_eq_true (by omega)
  have hnR : ∀ n, ((D, n) = rr) = False := fun n => eq_false fun e => by rw [← e] at hrr; exact Nat.lt_irrefl _ hrr
  have hnR1 : ∀ n, ((D + 1, n) = rr) = False := fun n => eq_false fun e => by rw [← e] at hrr; simp only at hrr; omega
  have hnR2 : ∀ n, ((D + 2, n) = rr) = False := fun n => eq_false fun e => by rw [← e] at hrr; simp only at hrr; omega
  have hgR : ∀ ob, getA (setA s r ob) rr = some ⟨.sl, 5, []⟩ := fun ob => by rw [getA_setA, if_neg (Ne.symm hrr0)]; exact hr1'
  have hrr1 : decide (rr.1 < D) = true := decide_eq_true hrr
  have hrr2 : decide (rr.1 < D + 1) = true := decide_eq_true (by omega)
  have hrr3 : decide (rr.1 < D + 2) = true := decide_eq_true (by omega)
  have hpl0 : [plRow].getD 0 [] = plRow := rfl
  have hplL : [plRow].length = 1 := rfl
  simp only [Try.ntmps147, Try.results147, push_cast, seval, slimX, List.contains_cons, List.contains_nil, Nat.reduceBEq, Bool.or_false, Bool.and_true, Bool.and_false, Bool.true_and, Bool.false_and, if_true, if_false, Bool.false_eq_true, nilS, setA_setA, hcs, hcl, hne, hr1, hu, hv, hDD, hneS, hneT, hDS1, hDS2, hDS3, hDS4, hDE1, hDE2, hDX1, hDX2, hnS, hnS1, hnS2, hgS, hgl, hnP, hnP1, hnP2, hgP, hnR, hnR1, hnR2, hgR]
  refine pickInt_any (D + 1) r (D, 704) op18 hc hp (by decide) (by decide) (hne2 _) rfl (by simp only [push_cast, seval, setA_setA, hne, hr1]) (by simp only [push_cast, seval]; rfl) (by simp only; omega) (by simp only [push_cast, seval, setA_setA, hD1, hDl]) fun p1 op hp1 hop => ?_
  simp only [Try.ntmps147, Try.results147, push_cast, seval, setA_setA, hcs, hcl, hne, hr1, hu, hv, hDD, hneS, hneT, hDS1, hDS2, hDS3, hDS4, hDE1, hDE2, hDX1, hDX2, hnS, hnS1, hnS2, hgS, hgl, hnP, hnP1, hnP2, hgP, hnR, hnR1, hnR2, hgR]
  refine Go_anyF [0, 1, 2, 3, 4] (by decide +kernel) fun K2 hK2 => ?_
  refine AnyF_fl 0 (by decide +kernel) rfl rfl rfl ?_
  simp only [push_cast, seval, hgP, hnP, hpl0, hplL, plRow]
  refine AnyF_fl 1 (by decide +kernel) rfl rfl rfl ?_
  simp only [push_cast, seval, hgP, hnP, hpl0, hplL, plRow]
  refine AnyF_fl 2 (by decide +kernel) rfl rfl rfl ?_
  simp only [push_cast, seval, hgP, hnP, hpl0, hplL, plRow]
  refine AnyF_fl 3 (by decide +kernel) rfl rfl rfl ?_
  simp only [push_cast, seval, hgP, hnP, hpl0, hplL, plRow]
  refine AnyF_fl 4 (by decide +kernel) rfl rfl rfl ?_
  simp only [push_cast, seval, hgP, hnP, hpl0, hplL, plRow]
  refine AnyF_1 5 [0, 1, 2, 3] (by decide +kernel) rfl rfl (by decide +kernel) ?_
  simp only [push_cast, seval, setA_setA, hcs, hcl, hne, hr1, hu, hv, hDD, hneS, hneT, hDS1, hDS2, hDS3, hDS4, hDE1, hDE2, hDX1, hDX2, hnS, hnS1, hnS2, hgS, hgl, hnP, hnP1, hnP2, hgP, hnR, hnR1, hnR2, hgR, hpl0, hplL]
  refine AnyF_1 6 [0, 1, 3] (by decide +kernel) rfl rfl (by decide +kernel) ?_
  refine below_any (D + 1) r hc hp1 rfl (by simp only [push_cast, seval, setA_setA, hne, hr1, hneS, hDX1]) (by simp only; omega) (by simp only [push_cast, seval, setA_setA, hD1, hDl, hDX1]) fun p2 xb hp2 hxb _ => ?_
  obtain ⟨hb0, hb1⟩ := hxb (by decide)
  have hxe : xb = 0 := by omega
  subst hxe
  simp only [push_cast, seval, setA_setA, hcs, hcl, hne, hr1, hu, hv, hDD, hneS, hneT, hDS1, hDS2, hDS3, hDS4, hDE1, hDE2, hDX1, hDX2, hnS, hnS1, hnS2, hgS, hgl, hnP, hnP1, hnP2, hgP, hnR, hnR1, hnR2, hgR, hpl0, hplL]
  refine AnyF_1 7 [0, 3] (by decide +kernel) rfl rfl (by decide +kernel) ?_
  simp only [push_cast, seval, setA_setA, hcs, hcl, hne, hr1, hu, hv, hDD, hneS, hneT, hDS1, hDS2, hDS3, hDS4, hDE1, hDE2, hDX1, hDX2, hnS, hnS1, hnS2, hgS, hgl, hnP, hnP1, hnP2, hgP, hnR, hnR1, hnR2, hgR, hpl0, hplL]
  refine AnyF_1 8 [0, 3] (by decide +kernel) rfl rfl (by decide +kernel) ?_
  simp only [push_cast, seval, setA_setA, hcs, hcl, hne, hr1, hu, hv, hDD, hneS, hneT, hDS1, hDS2, hDS3, hDS4, hDE1, hDE2, hDX1, hDX2, hnS, hnS1, hnS2, hgS, hgl, hnP, hnP1, hnP2, hgP, hnR, hnR1, hnR2, hgR, hpl0, hplL, plRow]
  refine AnyF_1 9 [0, 3] (by decide +kernel) rfl rfl (by decide +kernel) ?_
  simp only [push_cast, seval, setA_setA, hcs, hcl, hne, hr1, hu, hv, hDD, hneS, hneT, hDS1, hDS2, hDS3, hDS4, hDE1, hDE2, hDX1, hDX2, hnS, hnS1, hnS2, hgS, hgl, hnP, hnP1, hnP2, hgP, hnR, hnR1, hnR2, hgR, hpl0, hplL, plRow]
  refine AnyF_1 10 [0, 3] (by decide +kernel) rfl rfl (by decide +kernel) ?_
  simp only [push_cast, seval, setA_setA, hcs, hcl, hne, hr1, hu, hv, hDD, hneS, hneT, hDS1, hDS2, hDS3, hDS4, hDE1, hDE2, hDX1, hDX2, hnS, hnS1, hnS2, hgS, hgl, hnP, hnP1, hnP2, hgP, hnR, hnR1, hnR2, hgR, hpl0, hplL, plRow]
  refine AnyF_1 11 [] (by decide +kernel) rfl rfl (by decide +kernel) ?_
  simp only [push_cast, seval, setA_setA, hcs, hcl, hne, hr1, hu, hv, hDD, hneS, hneT, hDS1, hDS2, hDS3, hDS4, hDE1, hDE2, hDX1, hDX2, hnS, hnS1, hnS2, hgS, hgl, hnP, hnP1, hnP2, hgP, hnR, hnR1, hnR2, hgR]
  refine AnyF_end (by decide +kernel) (hK2 _ ?_)
  simp only [Try.ntmps147, Try.results147, push_cast, seval, setA_setA, hcs, hcl, hne, hr1, hu, hv, hDD, hneS, hneT, hDS1, hDS2, hDS3, hDS4, hDE1, hDE2, hDX1, hDX2, hnS, hnS1, hnS2, hgS, hgl, hnP, hnP1, hnP2, hgP, hnR, hnR1, hnR2, hgR]
  have hops : op = 2 ∨ op = 3 ∨ op = 4 ∨ op = 5 ∨ op = 6 ∨ op = 7 ∨ op = 8 ∨ op = 9 := by
    simp only [op18, List.mem_cons, List.not_mem_nil, or_false] at hop
    omega
  rcases hops with rfl | rfl | rfl | rfl | rfl | rfl | rfl | rfl
  · have h22 : decide ((2 : Int) = 2) = true := rfl
    simp only [Try.ntmps147, Try.results147, push_cast, seval, setA_setA, hcs, hcl, hne, hr1, hu, hv, hDD, hneS, hneT, hDS1, hDS2, hDS3, hDS4, hDE1, hDE2, hDX1, hDX2, hnS, hnS1, hnS2, hgS, hgl, hnP, hnP1, hnP2, hgP, hnR, hnR1, hnR2, hgR, h22]
    refine l12Dag_any (D + 1) r hc hp2 rfl (by simp only [push_cast, seval, setA_setA, hne, hr1]) (by simp only; omega) (by simp only [push_cast, seval, setA_setA, hD1, hDl]) (by simp only [push_cast, seval, hgo3, hrs2, hrp2, hrr2]; try exact fun _ => trivial) fun p12 d cell ex hp12 hdrw haf hcell => ?_
    have ht1 := drw_tsize hdrw haf
    have kT := dagText_okN d (drw_sm hdrw fun i hi => by have := haf i hi; omega)
    obtain ⟨tx, htx⟩ : ∃ tx, tx = dtT d := ⟨_, rfl⟩
    rw [← htx] at ht1 kT
    have ht6 : ¬ (600 : Int) < (tx.size : Int) := by omega
    rcases hcell with ⟨rfl, rfl⟩ | ⟨rfl, rfl⟩
    all_goals
      simp only [Try.ntmps147, Try.results147, push_cast, seval, setA_setA, hcs, hcl, hne, hr1, hu, hv, hDD, hneS, hneT, hDS1, hDS2, hDS3, hDS4, hDE1, hDE2, hDX1, hDX2, hnS, hnS1, hnS2, hgS, hgl, hnP, hnP1, hnP2, hgP, hnR, hnR1, hnR2, hgR, dgC, shTn]
      refine GoL_call rfl (by first | rfl | (simp only [push_cast, seval, tkR_tk, tkR_ts]; rfl)) kT rfl rfl ?_
      simp only [Try.ntmps147, Try.results147, push_cast, seval, setA_setA, hcs, hcl, hne, hr1, hu, hv, hDD, hneS, hneT, hDS1, hDS2, hDS3, hDS4, hDE1, hDE2, hDX1, hDX2, hnS, hnS1, hnS2, hgS, hgl, hnP, hnP1, hnP2, hgP, hnR, hnR1, hnR2, hgR]
      refine once_any (D + 2) r hc hp12 rfl (by simp only [push_cast, seval, setA_setA, hne, hr1, hneS, hDX1]) (by simp only; omega) (by simp only [push_cast, seval, setA_setA, hD2, hDl2, hDl3, hDX1]) fun p3 b3 hp3 => ?_
      cases b3
      · simp only [Try.ntmps147, Try.results147, push_cast, seval, setA_setA, hcs, hcl, hne, hr1, hu, hv, hDD, hneS, hneT, hDS1, hDS2, hDS3, hDS4, hDE1, hDE2, hDX1, hDX2, hnS, hnS1, hnS2, hgS, hgl, hnP, hnP1, hnP2, hgP, hnR, hnR1, hnR2, hgR, ht6]
        refine hK _ ⟨tp 192 [(4, .x (.one (.pt (D, 256) [] 8 0 0)))], D, [((D, 256), ⟨.box, 8, [(mkC 2 0 0 tx ⟨#[]⟩ 0 0 false).enc]⟩)], setA s r (curOb c p3)⟩ _ ?_ rfl rfl (by simp only [Try.ntmps147, Try.results147, push_cast, seval, mkC, Cmd.enc] <;> rfl) (H1 p3 2 0 0 tx ⟨#[]⟩ false hp3 (by decide) (by decide) (by decide) (by omega) (by decide))
        simp only [mkC, Cmd.enc]
        exact dropAny (by simp only [push_cast, seval, Int.ofNat_zero]) (by simp only [push_cast, seval, Int.ofNat_zero]) (by simp only [push_cast, seval, hdr, Int.ofNat_zero]) (by simp only [push_cast, seval, Int.ofNat_zero]) (hgo _ _)
      · simp only [Try.ntmps147, Try.results147, push_cast, seval, setA_setA, hcs, hcl, hne, hr1, hu, hv, hDD, hneS, hneT, hDS1, hDS2, hDS3, hDS4, hDE1, hDE2, hDX1, hDX2, hnS, hnS1, hnS2, hgS, hgl, hnP, hnP1, hnP2, hgP, hnR, hnR1, hnR2, hgR]
        refine l12Text_any (D + 2) r hc hp3 rfl (by simp only [push_cast, seval, setA_setA, hne, hr1, hneS, hneT, hDX1, hDX2]) (by simp only; omega) (by simp only [push_cast, seval, setA_setA, hD2, hDl2, hDl3, hDX1, hDX2]) (by simp only [push_cast, seval, hgo6, hrs3, hdr2, hDX1, hDX2, hDl2, hDl3, Bool.true_or, hrp3, hrr3]; try exact fun _ => trivial) fun p4 s4 hp4 hs4 => ?_
        by_cases h6 : (600 : Int) < (s4.size : Int)
        · simp only [Try.ntmps147, Try.results147, push_cast, seval, setA_setA, hcs, hcl, hne, hr1, hu, hv, hDD, hneS, hneT, hDS1, hDS2, hDS3, hDS4, hDE1, hDE2, hDX1, hDX2, hnS, hnS1, hnS2, hgS, hgl, hnP, hnP1, hnP2, hgP, hnR, hnR1, hnR2, hgR, h6]
          refine hK _ ⟨tp 192 [(4, .x (.one (.pt (D, 256) [] 8 0 0)))], D, [((D, 256), ⟨.box, 8, [(mkC 2 0 0 ⟨#[100, 97, 103]⟩ ⟨#[]⟩ 0 0 false).enc]⟩)], setA s r (curOb c p4)⟩ _ ?_ rfl rfl (by simp only [Try.ntmps147, Try.results147, push_cast, seval, mkC, Cmd.enc] <;> rfl) (H1 p4 2 0 0 ⟨#[100, 97, 103]⟩ ⟨#[]⟩ false hp4 (by decide) (by decide) (by decide) (by decide) (by decide))
          simp only [mkC, Cmd.enc]
          exact dropAny (by simp only [push_cast, seval, Int.ofNat_zero]) (by simp only [push_cast, seval, Int.ofNat_zero]) (by simp only [push_cast, seval, hdr, Int.ofNat_zero]) (by simp only [push_cast, seval, Int.ofNat_zero]) (hgo _ _)
        · simp only [Try.ntmps147, Try.results147, push_cast, seval, setA_setA, hcs, hcl, hne, hr1, hu, hv, hDD, hneS, hneT, hDS1, hDS2, hDS3, hDS4, hDE1, hDE2, hDX1, hDX2, hnS, hnS1, hnS2, hgS, hgl, hnP, hnP1, hnP2, hgP, hnR, hnR1, hnR2, hgR, h6]
          refine hK _ ⟨tp 192 [(4, .x (.one (.pt (D, 256) [] 8 0 0)))], D, [((D, 256), ⟨.box, 8, [(mkC 2 0 0 s4 ⟨#[]⟩ 0 0 false).enc]⟩)], setA s r (curOb c p4)⟩ _ ?_ rfl rfl (by simp only [Try.ntmps147, Try.results147, push_cast, seval, mkC, Cmd.enc] <;> rfl) (H1 p4 2 0 0 s4 ⟨#[]⟩ false hp4 (by decide) (by decide) (by decide) (by omega) (by decide))
          simp only [mkC, Cmd.enc]
          exact dropAny (by simp only [push_cast, seval, Int.ofNat_zero]) (by simp only [push_cast, seval, Int.ofNat_zero]) (by simp only [push_cast, seval, hdr, Int.ofNat_zero]) (by simp only [push_cast, seval, Int.ofNat_zero]) (hgo _ _)
  · simp only [Try.ntmps147, Try.results147, push_cast, seval, setA_setA, hcs, hcl, hne, hr1, hu, hv, hDD, hneS, hneT, hDS1, hDS2, hDS3, hDS4, hDE1, hDE2, hDX1, hDX2, hnS, hnS1, hnS2, hgS, hgl, hnP, hnP1, hnP2, hgP, hnR, hnR1, hnR2, hgR]
    refine once_any (D + 1) r hc hp2 rfl (by simp only [push_cast, seval, setA_setA, hne, hr1, hneS, hDX1]) (by simp only; omega) (by simp only [push_cast, seval, setA_setA, hD1, hDl, hDX1]) fun p3 b3 hp3 => ?_
    simp only [Try.ntmps147, Try.results147, push_cast, seval, setA_setA, hcs, hcl, hne, hr1, hu, hv, hDD, hneS, hneT, hDS1, hDS2, hDS3, hDS4, hDE1, hDE2, hDX1, hDX2, hnS, hnS1, hnS2, hgS, hgl, hnP, hnP1, hnP2, hgP, hnR, hnR1, hnR2, hgR]
    refine hK _ ⟨tp 192 [(4, .x (.one (.pt (D, 256) [] 8 0 0)))], D, [((D, 256), ⟨.box, 8, [(mkC 3 0 0 ⟨#[97, 110, 110]⟩ ⟨#[]⟩ 0 0 b3).enc]⟩)], setA s r (curOb c p3)⟩ _ ?_ rfl rfl (by simp only [Try.ntmps147, Try.results147, push_cast, seval, mkC, Cmd.enc] <;> rfl) (H1 p3 3 0 0 ⟨#[97, 110, 110]⟩ ⟨#[]⟩ b3 hp3 (by decide) (by decide) (by decide) (by decide) (by decide))
    simp only [mkC, Cmd.enc]
    exact dropAny (by simp only [push_cast, seval, Int.ofNat_zero]) (by simp only [push_cast, seval, Int.ofNat_zero]) (by simp only [push_cast, seval, hdr, Int.ofNat_zero]) (by simp only [push_cast, seval, Int.ofNat_zero]) (hgo _ _)
  · simp only [Try.ntmps147, Try.results147, push_cast, seval, setA_setA, hcs, hcl, hne, hr1, hu, hv, hDD, hneS, hneT, hDS1, hDS2, hDS3, hDS4, hDE1, hDE2, hDX1, hDX2, hnS, hnS1, hnS2, hgS, hgl, hnP, hnP1, hnP2, hgP, hnR, hnR1, hnR2, hgR]
    have hc60 : (ck : Int) < 60 := by omega
    refine Go_anyF [0, 1, 2] (by decide +kernel) fun K2 hK2 => ?_
    refine AnyF_fl 0 (by decide +kernel) rfl rfl rfl ?_
    simp only [push_cast, seval]
    refine AnyF_fl 1 (by decide +kernel) rfl rfl rfl ?_
    simp only [push_cast, seval]
    refine AnyF_fl 2 (by decide +kernel) rfl rfl rfl ?_
    simp only [push_cast, seval]
    refine AnyF_1 3 [0, 1, 2] (by decide +kernel) rfl rfl (by decide +kernel) ?_
    simp only [push_cast, seval, setA_setA, hcs, hcl, hne, hr1, hu, hv, hDD, hneS, hneT, hDS1, hDS2, hDS3, hDS4, hDE1, hDE2, hDX1, hDX2, hnS, hnS1, hnS2, hgS, hgl, hnP, hnP1, hnP2, hgP, hnR, hnR1, hnR2, hgR]
    refine AnyF_1 4 [0, 1] (by decide +kernel) rfl rfl (by decide +kernel) ?_
    refine pickInt_any (D + 1) r (D, 4288) [0, 1, 2, 5, 10, 30] hc hp2 (by decide) (by decide) (hne2 _) rfl (by simp only [push_cast, seval, setA_setA, hne, hr1]) (by simp only [push_cast, seval]; rfl) (by simp only; omega) (by simp only [push_cast, seval, setA_setA, hD1, hDl]) fun p3 xq hp3 hxq => ?_
    have hxq2 : 0 ≤ xq ∧ xq ≤ 30 := by
      simp only [List.mem_cons, List.not_mem_nil, or_false] at hxq
      omega
    obtain ⟨nq, rfl⟩ := Int.eq_ofNat_of_zero_le hxq2.1
    obtain ⟨m1, hm1⟩ : ∃ m, m = ck + nq := ⟨_, rfl⟩
    have wq : IntKind.i64.wrap ((ck : Int) + (nq : Int)) = (m1 : Int) := wN (by omega) (by omega)
    obtain ⟨m4, hm4⟩ : ∃ m, m = ck + 40 := ⟨_, rfl⟩
    have w4 : IntKind.i64.wrap ((ck : Int) + 40) = (m4 : Int) := wN (by omega) (by omega)
    simp only [push_cast, seval, setA_setA, hcs, hcl, hne, hr1, hu, hv, hDD, hneS, hneT, hDS1, hDS2, hDS3, hDS4, hDE1, hDE2, hDX1, hDX2, hnS, hnS1, hnS2, hgS, hgl, hnP, hnP1, hnP2, hgP, hnR, hnR1, hnR2, hgR]
    refine AnyF_1 5 [0] (by decide +kernel) rfl rfl (by decide +kernel) ?_
    simp only [push_cast, seval, setA_setA, hcs, hcl, hne, hr1, hu, hv, hDD, hneS, hneT, hDS1, hDS2, hDS3, hDS4, hDE1, hDE2, hDX1, hDX2, hnS, hnS1, hnS2, hgS, hgl, hnP, hnP1, hnP2, hgP, hnR, hnR1, hnR2, hgR, wq]
    refine AnyF_1 6 [] (by decide +kernel) rfl rfl (by decide +kernel) ?_
    simp only [push_cast, seval, setA_setA, hcs, hcl, hne, hr1, hu, hv, hDD, hneS, hneT, hDS1, hDS2, hDS3, hDS4, hDE1, hDE2, hDX1, hDX2, hnS, hnS1, hnS2, hgS, hgl, hnP, hnP1, hnP2, hgP, hnR, hnR1, hnR2, hgR]
    refine AnyF_1 7 [] (by decide +kernel) rfl rfl (by decide +kernel) ?_
    simp only [push_cast, seval, setA_setA, hcs, hcl, hne, hr1, hu, hv, hDD, hneS, hneT, hDS1, hDS2, hDS3, hDS4, hDE1, hDE2, hDX1, hDX2, hnS, hnS1, hnS2, hgS, hgl, hnP, hnP1, hnP2, hgP, hnR, hnR1, hnR2, hgR]
    refine AnyF_end (by decide +kernel) (hK2 _ ?_)
    simp only [Try.ntmps147, Try.results147, push_cast, seval, setA_setA, hcs, hcl, hne, hr1, hu, hv, hDD, hneS, hneT, hDS1, hDS2, hDS3, hDS4, hDE1, hDE2, hDX1, hDX2, hnS, hnS1, hnS2, hgS, hgl, hnP, hnP1, hnP2, hgP, hnR, hnR1, hnR2, hgR, hc60]
    refine once_any (D + 1) r hc hp3 rfl (by simp only [push_cast, seval, setA_setA, hne, hr1, hneS, hDX1]) (by simp only; omega) (by simp only [push_cast, seval, setA_setA, hD1, hDl, hDX1]) fun p4 b4 hp4 => ?_
    cases b4
    · simp only [Try.ntmps147, Try.results147, push_cast, seval, setA_setA, hcs, hcl, hne, hr1, hu, hv, hDD, hneS, hneT, hDS1, hDS2, hDS3, hDS4, hDE1, hDE2, hDX1, hDX2, hnS, hnS1, hnS2, hgS, hgl, hnP, hnP1, hnP2, hgP, hnR, hnR1, hnR2, hgR, hc60, w4]
      refine once_any (D + 1) r hc hp4 rfl (by simp only [push_cast, seval, setA_setA, hne, hr1, hneS, hDX1]) (by simp only; omega) (by simp only [push_cast, seval, setA_setA, hD1, hDl, hDX1]) fun p5 b5 hp5 => ?_
      cases b5
      · simp only [Try.ntmps147, Try.results147, push_cast, seval, setA_setA, hcs, hcl, hne, hr1, hu, hv, hDD, hneS, hneT, hDS1, hDS2, hDS3, hDS4, hDE1, hDE2, hDX1, hDX2, hnS, hnS1, hnS2, hgS, hgl, hnP, hnP1, hnP2, hgP, hnR, hnR1, hnR2, hgR]
        refine hK _ ⟨tp 192 [(4, .x (.one (.pt (D, 256) [] 8 0 0)))], D, [((D, 256), ⟨.box, 8, [(mkC 4 0 0 ⟨#[]⟩ ⟨#[]⟩ m1 0 false).enc]⟩)], setA s r (curOb c p5)⟩ _ ?_ rfl rfl (by simp only [Try.ntmps147, Try.results147, push_cast, seval, mkC, Cmd.enc] <;> rfl) (H1 p5 4 m1 0 ⟨#[]⟩ ⟨#[]⟩ false hp5 (by decide) (by omega) (by decide) (by decide) (by decide))
        simp only [mkC, Cmd.enc]
        exact dropAny (by simp only [push_cast, seval, Int.ofNat_zero]) (by simp only [push_cast, seval, Int.ofNat_zero]) (by simp only [push_cast, seval, hdr, Int.ofNat_zero]) (by simp only [push_cast, seval, Int.ofNat_zero]) (hgo _ _)
      · simp only [Try.ntmps147, Try.results147, push_cast, seval, setA_setA, hcs, hcl, hne, hr1, hu, hv, hDD, hneS, hneT, hDS1, hDS2, hDS3, hDS4, hDE1, hDE2, hDX1, hDX2, hnS, hnS1, hnS2, hgS, hgl, hnP, hnP1, hnP2, hgP, hnR, hnR1, hnR2, hgR]
        refine below_any (D + 1) r hc hp5 rfl (by simp only [push_cast, seval, setA_setA, hne, hr1, hneS, hDX1]) (by simp only; omega) (by simp only [push_cast, seval, setA_setA, hD1, hDl, hDX1]) fun p6 xz hp6 hxz _ => ?_
        obtain ⟨xz0, xz1⟩ := hxz (by decide)
        obtain ⟨nz, rfl⟩ := Int.eq_ofNat_of_zero_le xz0
        simp only [Try.ntmps147, Try.results147, push_cast, seval, setA_setA, hcs, hcl, hne, hr1, hu, hv, hDD, hneS, hneT, hDS1, hDS2, hDS3, hDS4, hDE1, hDE2, hDX1, hDX2, hnS, hnS1, hnS2, hgS, hgl, hnP, hnP1, hnP2, hgP, hnR, hnR1, hnR2, hgR]
        refine hK _ ⟨tp 192 [(4, .x (.one (.pt (D, 256) [] 8 0 0)))], D, [((D, 256), ⟨.box, 8, [(mkC 4 0 0 ⟨#[]⟩ ⟨#[]⟩ nz 0 false).enc]⟩)], setA s r (curOb c p6)⟩ _ ?_ rfl rfl (by simp only [Try.ntmps147, Try.results147, push_cast, seval, mkC, Cmd.enc] <;> rfl) (H1 p6 4 nz 0 ⟨#[]⟩ ⟨#[]⟩ false hp6 (by decide) (by omega) (by decide) (by decide) (by decide))
        simp only [mkC, Cmd.enc]
        exact dropAny (by simp only [push_cast, seval, Int.ofNat_zero]) (by simp only [push_cast, seval, Int.ofNat_zero]) (by simp only [push_cast, seval, hdr, Int.ofNat_zero]) (by simp only [push_cast, seval, Int.ofNat_zero]) (hgo _ _)
    · simp only [Try.ntmps147, Try.results147, push_cast, seval, setA_setA, hcs, hcl, hne, hr1, hu, hv, hDD, hneS, hneT, hDS1, hDS2, hDS3, hDS4, hDE1, hDE2, hDX1, hDX2, hnS, hnS1, hnS2, hgS, hgl, hnP, hnP1, hnP2, hgP, hnR, hnR1, hnR2, hgR, hc60, w4]
      refine once_any (D + 1) r hc hp4 rfl (by simp only [push_cast, seval, setA_setA, hne, hr1, hneS, hDX1]) (by simp only; omega) (by simp only [push_cast, seval, setA_setA, hD1, hDl, hDX1]) fun p5 b5 hp5 => ?_
      cases b5
      · simp only [Try.ntmps147, Try.results147, push_cast, seval, setA_setA, hcs, hcl, hne, hr1, hu, hv, hDD, hneS, hneT, hDS1, hDS2, hDS3, hDS4, hDE1, hDE2, hDX1, hDX2, hnS, hnS1, hnS2, hgS, hgl, hnP, hnP1, hnP2, hgP, hnR, hnR1, hnR2, hgR]
        refine hK _ ⟨tp 192 [(4, .x (.one (.pt (D, 256) [] 8 0 0)))], D, [((D, 256), ⟨.box, 8, [(mkC 4 0 0 ⟨#[]⟩ ⟨#[]⟩ m4 0 false).enc]⟩)], setA s r (curOb c p5)⟩ _ ?_ rfl rfl (by simp only [Try.ntmps147, Try.results147, push_cast, seval, mkC, Cmd.enc] <;> rfl) (H1 p5 4 m4 0 ⟨#[]⟩ ⟨#[]⟩ false hp5 (by decide) (by omega) (by decide) (by decide) (by decide))
        simp only [mkC, Cmd.enc]
        exact dropAny (by simp only [push_cast, seval, Int.ofNat_zero]) (by simp only [push_cast, seval, Int.ofNat_zero]) (by simp only [push_cast, seval, hdr, Int.ofNat_zero]) (by simp only [push_cast, seval, Int.ofNat_zero]) (hgo _ _)
      · simp only [Try.ntmps147, Try.results147, push_cast, seval, setA_setA, hcs, hcl, hne, hr1, hu, hv, hDD, hneS, hneT, hDS1, hDS2, hDS3, hDS4, hDE1, hDE2, hDX1, hDX2, hnS, hnS1, hnS2, hgS, hgl, hnP, hnP1, hnP2, hgP, hnR, hnR1, hnR2, hgR]
        refine below_any (D + 1) r hc hp5 rfl (by simp only [push_cast, seval, setA_setA, hne, hr1, hneS, hDX1]) (by simp only; omega) (by simp only [push_cast, seval, setA_setA, hD1, hDl, hDX1]) fun p6 xz hp6 hxz _ => ?_
        obtain ⟨xz0, xz1⟩ := hxz (by decide)
        obtain ⟨nz, rfl⟩ := Int.eq_ofNat_of_zero_le xz0
        simp only [Try.ntmps147, Try.results147, push_cast, seval, setA_setA, hcs, hcl, hne, hr1, hu, hv, hDD, hneS, hneT, hDS1, hDS2, hDS3, hDS4, hDE1, hDE2, hDX1, hDX2, hnS, hnS1, hnS2, hgS, hgl, hnP, hnP1, hnP2, hgP, hnR, hnR1, hnR2, hgR]
        refine hK _ ⟨tp 192 [(4, .x (.one (.pt (D, 256) [] 8 0 0)))], D, [((D, 256), ⟨.box, 8, [(mkC 4 0 0 ⟨#[]⟩ ⟨#[]⟩ nz 0 false).enc]⟩)], setA s r (curOb c p6)⟩ _ ?_ rfl rfl (by simp only [Try.ntmps147, Try.results147, push_cast, seval, mkC, Cmd.enc] <;> rfl) (H1 p6 4 nz 0 ⟨#[]⟩ ⟨#[]⟩ false hp6 (by decide) (by omega) (by decide) (by decide) (by decide))
        simp only [mkC, Cmd.enc]
        exact dropAny (by simp only [push_cast, seval, Int.ofNat_zero]) (by simp only [push_cast, seval, Int.ofNat_zero]) (by simp only [push_cast, seval, hdr, Int.ofNat_zero]) (by simp only [push_cast, seval, Int.ofNat_zero]) (hgo _ _)
  · simp only [Try.ntmps147, Try.results147, push_cast, seval, setA_setA, hcs, hcl, hne, hr1, hu, hv, hDD, hneS, hneT, hDS1, hDS2, hDS3, hDS4, hDE1, hDE2, hDX1, hDX2, hnS, hnS1, hnS2, hgS, hgl, hnP, hnP1, hnP2, hgP, hnR, hnR1, hnR2, hgR]
    refine hK _ ⟨tp 192 [(4, .x (.one (.pt (D, 256) [] 8 0 0)))], D, [((D, 256), ⟨.box, 8, [(mkC 5 0 0 ⟨#[]⟩ ⟨#[]⟩ 0 0 false).enc]⟩)], setA s r (curOb c p2)⟩ _ ?_ rfl rfl (by simp only [Try.ntmps147, Try.results147, push_cast, seval, mkC, Cmd.enc] <;> rfl) (H1 p2 5 0 0 ⟨#[]⟩ ⟨#[]⟩ false hp2 (by decide) (by decide) (by decide) (by decide) (by decide))
    simp only [mkC, Cmd.enc]
    exact dropAny (by simp only [push_cast, seval, Int.ofNat_zero]) (by simp only [push_cast, seval, Int.ofNat_zero]) (by simp only [push_cast, seval, hdr, Int.ofNat_zero]) (by simp only [push_cast, seval, Int.ofNat_zero]) (hgo _ _)
  · have w3 : IntKind.i64.wrap 3 = 3 := by decide
    simp only [Try.ntmps147, Try.results147, push_cast, seval, setA_setA, hcs, hcl, hne, hr1, hu, hv, hDD, hneS, hneT, hDS1, hDS2, hDS3, hDS4, hDE1, hDE2, hDX1, hDX2, hnS, hnS1, hnS2, hgS, hgl, hnP, hnP1, hnP2, hgP, hnR, hnR1, hnR2, hgR, w3]
    refine below_any (D + 1) r hc hp2 rfl (by simp only [push_cast, seval, setA_setA, hne, hr1, hneS, hDX1]) (by simp only; omega) (by simp only [push_cast, seval, setA_setA, hD1, hDl, hDX1]) fun p3 xn hp3 hxn _ => ?_
    obtain ⟨xn0, xn1⟩ := hxn (by decide)
    obtain ⟨nn, rfl⟩ := Int.eq_ofNat_of_zero_le xn0
    simp only [Try.ntmps147, Try.results147, push_cast, seval, setA_setA, hcs, hcl, hne, hr1, hu, hv, hDD, hneS, hneT, hDS1, hDS2, hDS3, hDS4, hDE1, hDE2, hDX1, hDX2, hnS, hnS1, hnS2, hgS, hgl, hnP, hnP1, hnP2, hgP, hnR, hnR1, hnR2, hgR]
    refine Go_loop (α := Unit) (fun _ => ⟨tp 192 [(0, .x (.one (.pt r [] 3 0 0))), (3, .x (.one (.pt (D, 192) [] 5 0 0))), (4, .x (.one (.pt (D, 256) [] 8 0 0))), (5, .x (.one (.pt (D, 320) [] 8 0 0))), (7, int 0)], D,
        [((D, 320), ⟨.box, 8, [[.v (.int .i64 6), .v (.int .i64 0), .v (.int .i64 0), .v (.string ⟨#[]⟩), .v (.string ⟨#[]⟩), .v (.int .i64 nn), .v (.int .i64 0), .v (.bool false)]]⟩), ((D, 256), ⟨.box, 8, [[.v (.int .i64 0), .v (.int .i64 0), .v (.int .i64 0), .v (.string ⟨#[]⟩), .v (.string ⟨#[]⟩), .v (.int .i64 0), .v (.int .i64 0), .v (.bool false)]]⟩), ((D, 192), ⟨.box, 5, [[.rs rs1 [] 3 0 1, .rs rp [] 9 0 1, .rs rr [] 5 0 0, .v (.int .i64 ck), .v (.int .i64 1)]]⟩)], setA s r (curOb c p3)⟩) (fun _ => 0) () ?_ ?_
    · exact dropAny (by simp only [push_cast, seval]) (by simp only [push_cast, seval]) (by simp only [push_cast, seval, hdr, hrs1, hrp1, hrr1]) (by simp only [push_cast, seval, hrs1, hrp1, hrr1]) (hgo _ _)
    · rintro _ X hX
      simp only [Try.ntmps147, Try.results147, push_cast, seval, setA_setA, hcs, hcl, hne, hr1, hu, hv, hDD, hneS, hneT, hDS1, hDS2, hDS3, hDS4, hDE1, hDE2, hDX1, hDX2, hnS, hnS1, hnS2, hgS, hgl, hnP, hnP1, hnP2, hgP, hnR, hnR1, hnR2, hgR]
      refine hK _ ⟨tp 192 [(4, .x (.one (.pt (D, 256) [] 8 0 0)))], D, [((D, 256), ⟨.box, 8, [(mkC 6 0 0 ⟨#[]⟩ ⟨#[]⟩ nn 0 false).enc]⟩)], setA s r (curOb c p3)⟩ _ ?_ rfl rfl (by simp only [Try.ntmps147, Try.results147, push_cast, seval, mkC, Cmd.enc] <;> rfl) (H1 p3 6 nn 0 ⟨#[]⟩ ⟨#[]⟩ false hp3 (by decide) (by omega) (by decide) (by decide) (by decide))
      simp only [mkC, Cmd.enc]
      exact dropAny (by simp only [push_cast, seval, Int.ofNat_zero]) (by simp only [push_cast, seval, Int.ofNat_zero]) (by simp only [push_cast, seval, hdr, Int.ofNat_zero]) (by simp only [push_cast, seval, Int.ofNat_zero]) (hgo _ _)
  · have w3 : IntKind.i64.wrap 3 = 3 := by decide
    simp only [Try.ntmps147, Try.results147, push_cast, seval, setA_setA, hcs, hcl, hne, hr1, hu, hv, hDD, hneS, hneT, hDS1, hDS2, hDS3, hDS4, hDE1, hDE2, hDX1, hDX2, hnS, hnS1, hnS2, hgS, hgl, hnP, hnP1, hnP2, hgP, hnR, hnR1, hnR2, hgR, w3]
    refine below_any (D + 1) r hc hp2 rfl (by simp only [push_cast, seval, setA_setA, hne, hr1, hneS, hDX1]) (by simp only; omega) (by simp only [push_cast, seval, setA_setA, hD1, hDl, hDX1]) fun p3 xn hp3 hxn _ => ?_
    obtain ⟨xn0, xn1⟩ := hxn (by decide)
    obtain ⟨nn, rfl⟩ := Int.eq_ofNat_of_zero_le xn0
    simp only [Try.ntmps147, Try.results147, push_cast, seval, setA_setA, hcs, hcl, hne, hr1, hu, hv, hDD, hneS, hneT, hDS1, hDS2, hDS3, hDS4, hDE1, hDE2, hDX1, hDX2, hnS, hnS1, hnS2, hgS, hgl, hnP, hnP1, hnP2, hgP, hnR, hnR1, hnR2, hgR]
    refine Go_loop (α := Unit) (fun _ => ⟨tp 192 [(0, .x (.one (.pt r [] 3 0 0))), (3, .x (.one (.pt (D, 192) [] 5 0 0))), (4, .x (.one (.pt (D, 256) [] 8 0 0))), (5, .x (.one (.pt (D, 320) [] 8 0 0))), (7, int 0)], D,
        [((D, 320), ⟨.box, 8, [[.v (.int .i64 7), .v (.int .i64 0), .v (.int .i64 0), .v (.string ⟨#[]⟩), .v (.string ⟨#[]⟩), .v (.int .i64 nn), .v (.int .i64 0), .v (.bool false)]]⟩), ((D, 256), ⟨.box, 8, [[.v (.int .i64 0), .v (.int .i64 0), .v (.int .i64 0), .v (.string ⟨#[]⟩), .v (.string ⟨#[]⟩), .v (.int .i64 0), .v (.int .i64 0), .v (.bool false)]]⟩), ((D, 192), ⟨.box, 5, [[.rs rs1 [] 3 0 1, .rs rp [] 9 0 1, .rs rr [] 5 0 0, .v (.int .i64 ck), .v (.int .i64 1)]]⟩)], setA s r (curOb c p3)⟩) (fun _ => 0) () ?_ ?_
    · exact dropAny (by simp only [push_cast, seval]) (by simp only [push_cast, seval]) (by simp only [push_cast, seval, hdr, hrs1, hrp1, hrr1]) (by simp only [push_cast, seval, hrs1, hrp1, hrr1]) (hgo _ _)
    · rintro _ X hX
      simp only [Try.ntmps147, Try.results147, push_cast, seval, setA_setA, hcs, hcl, hne, hr1, hu, hv, hDD, hneS, hneT, hDS1, hDS2, hDS3, hDS4, hDE1, hDE2, hDX1, hDX2, hnS, hnS1, hnS2, hgS, hgl, hnP, hnP1, hnP2, hgP, hnR, hnR1, hnR2, hgR]
      refine once_any (D + 1) r hc hp3 rfl (by simp only [push_cast, seval, setA_setA, hne, hr1, hneS, hDX1]) (by simp only; omega) (by simp only [push_cast, seval, setA_setA, hD1, hDl, hDX1]) fun p4 b4 hp4 => ?_
      simp only [Try.ntmps147, Try.results147, push_cast, seval, setA_setA, hcs, hcl, hne, hr1, hu, hv, hDD, hneS, hneT, hDS1, hDS2, hDS3, hDS4, hDE1, hDE2, hDX1, hDX2, hnS, hnS1, hnS2, hgS, hgl, hnP, hnP1, hnP2, hgP, hnR, hnR1, hnR2, hgR]
      refine hK _ ⟨tp 192 [(4, .x (.one (.pt (D, 256) [] 8 0 0)))], D, [((D, 256), ⟨.box, 8, [(mkC 7 0 0 ⟨#[]⟩ ⟨#[]⟩ nn 0 (!b4)).enc]⟩)], setA s r (curOb c p4)⟩ _ ?_ rfl rfl (by simp only [Try.ntmps147, Try.results147, push_cast, seval, mkC, Cmd.enc] <;> rfl) (H1 p4 7 nn 0 ⟨#[]⟩ ⟨#[]⟩ (!b4) hp4 (by decide) (by omega) (by decide) (by decide) (by decide))
      simp only [mkC, Cmd.enc]
      exact dropAny (by simp only [push_cast, seval, Int.ofNat_zero]) (by simp only [push_cast, seval, Int.ofNat_zero]) (by simp only [push_cast, seval, hdr, Int.ofNat_zero]) (by simp only [push_cast, seval, Int.ofNat_zero]) (hgo _ _)
  · simp only [Try.ntmps147, Try.results147, push_cast, seval, setA_setA, hcs, hcl, hne, hr1, hu, hv, hDD, hneS, hneT, hDS1, hDS2, hDS3, hDS4, hDE1, hDE2, hDX1, hDX2, hnS, hnS1, hnS2, hgS, hgl, hnP, hnP1, hnP2, hgP, hnR, hnR1, hnR2, hgR]
    refine below_any (D + 1) r hc hp2 rfl (by simp only [push_cast, seval, setA_setA, hne, hr1, hneS, hDX1]) (by simp only; omega) (by simp only [push_cast, seval, setA_setA, hD1, hDl, hDX1]) fun p3 xn hp3 hxn _ => ?_
    obtain ⟨xn0, xn1⟩ := hxn (by decide)
    obtain ⟨nn, rfl⟩ := Int.eq_ofNat_of_zero_le xn0
    simp only [Try.ntmps147, Try.results147, push_cast, seval, setA_setA, hcs, hcl, hne, hr1, hu, hv, hDD, hneS, hneT, hDS1, hDS2, hDS3, hDS4, hDE1, hDE2, hDX1, hDX2, hnS, hnS1, hnS2, hgS, hgl, hnP, hnP1, hnP2, hgP, hnR, hnR1, hnR2, hgR]
    refine Go_anyF [0, 1, 2] (by decide +kernel) fun K2 hK2 => ?_
    refine AnyF_fl 0 (by decide +kernel) rfl rfl rfl ?_
    simp only [push_cast, seval]
    refine AnyF_fl 1 (by decide +kernel) rfl rfl rfl ?_
    simp only [push_cast, seval]
    refine AnyF_fl 2 (by decide +kernel) rfl rfl rfl ?_
    simp only [push_cast, seval]
    refine AnyF_1 3 [0, 1] (by decide +kernel) rfl rfl (by decide +kernel) ?_
    refine below_any (D + 1) r hc hp3 rfl (by simp only [push_cast, seval, setA_setA, hne, hr1, hneS, hDX1]) (by simp only; omega) (by simp only [push_cast, seval, setA_setA, hD1, hDl, hDX1]) fun p4 xm hp4 hxm _ => ?_
    obtain ⟨xm0, xm1⟩ := hxm (by decide)
    obtain ⟨nm, rfl⟩ := Int.eq_ofNat_of_zero_le xm0
    obtain ⟨m1, hm1⟩ : ∃ m, m = nn + nm := ⟨_, rfl⟩
    have wq : IntKind.i64.wrap ((nn : Int) + (nm : Int)) = (m1 : Int) := wN (by omega) (by omega)
    simp only [push_cast, seval, setA_setA, hcs, hcl, hne, hr1, hu, hv, hDD, hneS, hneT, hDS1, hDS2, hDS3, hDS4, hDE1, hDE2, hDX1, hDX2, hnS, hnS1, hnS2, hgS, hgl, hnP, hnP1, hnP2, hgP, hnR, hnR1, hnR2, hgR]
    refine AnyF_1 4 [0] (by decide +kernel) rfl rfl (by decide +kernel) ?_
    simp only [push_cast, seval, setA_setA, hcs, hcl, hne, hr1, hu, hv, hDD, hneS, hneT, hDS1, hDS2, hDS3, hDS4, hDE1, hDE2, hDX1, hDX2, hnS, hnS1, hnS2, hgS, hgl, hnP, hnP1, hnP2, hgP, hnR, hnR1, hnR2, hgR, wq]
    refine AnyF_1 5 [] (by decide +kernel) rfl rfl (by decide +kernel) ?_
    simp only [push_cast, seval, setA_setA, hcs, hcl, hne, hr1, hu, hv, hDD, hneS, hneT, hDS1, hDS2, hDS3, hDS4, hDE1, hDE2, hDX1, hDX2, hnS, hnS1, hnS2, hgS, hgl, hnP, hnP1, hnP2, hgP, hnR, hnR1, hnR2, hgR]
    refine AnyF_1 6 [] (by decide +kernel) rfl rfl (by decide +kernel) ?_
    simp only [push_cast, seval, setA_setA, hcs, hcl, hne, hr1, hu, hv, hDD, hneS, hneT, hDS1, hDS2, hDS3, hDS4, hDE1, hDE2, hDX1, hDX2, hnS, hnS1, hnS2, hgS, hgl, hnP, hnP1, hnP2, hgP, hnR, hnR1, hnR2, hgR]
    refine AnyF_end (by decide +kernel) (hK2 _ ?_)
    simp only [Try.ntmps147, Try.results147, push_cast, seval, setA_setA, hcs, hcl, hne, hr1, hu, hv, hDD, hneS, hneT, hDS1, hDS2, hDS3, hDS4, hDE1, hDE2, hDX1, hDX2, hnS, hnS1, hnS2, hgS, hgl, hnP, hnP1, hnP2, hgP, hnR, hnR1, hnR2, hgR]
    refine hK _ ⟨tp 192 [(4, .x (.one (.pt (D, 256) [] 8 0 0)))], D, [((D, 256), ⟨.box, 8, [(mkC 8 0 0 ⟨#[97, 110, 110]⟩ ⟨#[]⟩ nn m1 false).enc]⟩)], setA s r (curOb c p4)⟩ _ ?_ rfl rfl (by simp only [Try.ntmps147, Try.results147, push_cast, seval, mkC, Cmd.enc] <;> rfl) (H1 p4 8 nn m1 ⟨#[97, 110, 110]⟩ ⟨#[]⟩ false hp4 (by decide) (by omega) (by omega) (by decide) (by decide))
    simp only [mkC, Cmd.enc]
    exact dropAny (by simp only [push_cast, seval, Int.ofNat_zero]) (by simp only [push_cast, seval, Int.ofNat_zero]) (by simp only [push_cast, seval, hdr, Int.ofNat_zero]) (by simp only [push_cast, seval, Int.ofNat_zero]) (hgo _ _)
  · simp only [Try.ntmps147, Try.results147, push_cast, seval, setA_setA, hcs, hcl, hne, hr1, hu, hv, hDD, hneS, hneT, hDS1, hDS2, hDS3, hDS4, hDE1, hDE2, hDX1, hDX2, hnS, hnS1, hnS2, hgS, hgl, hnP, hnP1, hnP2, hgP, hnR, hnR1, hnR2, hgR]
    refine pick_any (D + 1) r (D, 10752) [⟨#[97]⟩, ⟨#[98]⟩, ⟨#[99]⟩, ⟨#[100]⟩] hc hp2 (by decide) (by decide) (hne2 _) rfl (by simp only [push_cast, seval, setA_setA, hne, hr1]) (by simp only [push_cast, seval]; rfl) (by simp only; omega) (by simp only [push_cast, seval, setA_setA, hD1, hDl]) fun p3 tk1 hp3 htk1 => ?_
    have htk2 := h4s tk1 htk1
    simp only [Try.ntmps147, Try.results147, push_cast, seval, setA_setA, hcs, hcl, hne, hr1, hu, hv, hDD, hneS, hneT, hDS1, hDS2, hDS3, hDS4, hDE1, hDE2, hDX1, hDX2, hnS, hnS1, hnS2, hgS, hgl, hnP, hnP1, hnP2, hgP, hnR, hnR1, hnR2, hgR]
    refine hK _ ⟨tp 192 [(4, .x (.one (.pt (D, 256) [] 8 0 0)))], D, [((D, 256), ⟨.box, 8, [(mkC 9 0 0 ⟨#[97, 110, 110]⟩ tk1 0 0 false).enc]⟩)], setA s r (curOb c p3)⟩ _ ?_ rfl rfl (by simp only [Try.ntmps147, Try.results147, push_cast, seval, mkC, Cmd.enc] <;> rfl) (H1 p3 9 0 0 ⟨#[97, 110, 110]⟩ tk1 false hp3 (by decide) (by decide) (by decide) (by decide) (by omega))
    simp only [mkC, Cmd.enc]
    exact dropAny (by simp only [push_cast, seval, Int.ofNat_zero]) (by simp only [push_cast, seval, Int.ofNat_zero]) (by simp only [push_cast, seval, hdr, Int.ofNat_zero]) (by simp only [push_cast, seval, Int.ofNat_zero]) (hgo _ _)
end Go.Proofs.Ythhgmnpodgmlkaa
