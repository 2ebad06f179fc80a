/- An abstract machine over data, part IV. -/
import Derived.Test.YthhgmnpodgmlkaaRxIII
import Derived.ChangeArms
import Derived.ChangeOld
import Derived.DataReads
import Derived.SizedLaws
import Derived.Deep.Slices
import Derived.WalkKit
import Derived.ProofKit
import Derived.OpenShut
import Derived.ShutString
import Derived.Below
import Derived.JoinedOf
import Derived.Laws.Strings
import Derived.MapKept
import Derived.Sort.Grow
namespace Go.Rx
open Go.RowKit
inductive Kt where
  | bool
  | int (k : IntKind)
  | str
  | sl (sz bytes : Nat) (e : Kt)
  | st (fs : List Kt)
  deriving Inhabited
def ktF (cells : TypeId → Nat) (rec : TypeId → Option Kt) : Nat → List Field → Option (List Kt × Nat)
  | off, [] => some ([], off)
  | off, f :: fs => if f.offset = off then
      match rec f.type, ktF cells rec (off + cells f.type) fs with
      | some K, some (Ks, e) => some (K :: Ks, e)
      | _, _ => none
    else none
def kt (P : Program) : Nat → TypeId → Option Kt
  | 0, _ => none
  | m + 1, t => match P.underlying t with
    | some .bool => some .bool
    | some (.int k) => some (.int k)
    | some .string => some .str
    | some (.slice e) => if 0 < P.cellsOf e then (kt P m e).map (.sl (P.cellsOf e) (P.bytesOf e)) else none
    | some (.struct fs) => match ktF P.cellsOf (kt P m) 0 fs.toList with
      | some (Ks, e) => if e = P.cellsOf t then some (.st Ks) else none
      | none => none
    | _ => none
mutual
def HasKt : Kt → List C → Prop
  | .bool, cs => ∃ b, cs = [.v (.bool b)]
  | .int k, cs => ∃ n, cs = [.v (.int k n)] ∧ (Lit.int k n).wf = true
  | .str, cs => ∃ s : ByteArray, cs = [.v (.string s)] ∧ s.size ≤ reachBytes
  | .sl sz bytes e, cs => ∃ R, cs = [.sh sz R] ∧ R.length * bytes ≤ reachBytes ∧ R.length ≤ maxLen ∧ ∀ r ∈ R, HasKt e r
  | .st fs, cs => HasKts fs cs
def HasKts : List Kt → List C → Prop
  | [], cs => cs = []
  | K :: Ks, cs => ∃ c1 c2, cs = c1 ++ c2 ∧ HasKt K c1 ∧ HasKts Ks c2
end
theorem cell_block_lt {w : World} {a : Addr} {v : Value} (h : w.cell? a = some v) : a.block < w.heap.size := by
  unfold World.cell? at h
  split at h
  · rename_i hb; exact (Array.getElem?_eq_some_iff.1 hb).1
  · cases h
structure ShAll (w : World) (S : Nat → Prop) (cs : List C) (vs : List Value) : Prop where
  len : cs.length = vs.length
  sh : ∀ j, j < cs.length → Sh w S (cs.getD j .bad) (vs.getD j undef)
theorem ShAll.nil {w : World} {S : Nat → Prop} : ShAll w S [] [] := ⟨rfl, fun _ h => absurd h (Nat.not_lt_zero _)⟩
theorem ShAll.one {w : World} {S : Nat → Prop} {c : C} {v : Value} (h : Sh w S c v) : ShAll w S [c] [v] := ⟨rfl, fun j hj => by
  match j, hj with
  | 0, _ => exact h⟩
theorem ShAll.append {w : World} {S : Nat → Prop} {cs ds : List C} {vs us : List Value} (h : ShAll w S cs vs) (h' : ShAll w S ds us) : ShAll w S (cs ++ ds) (vs ++ us) := by
  refine ⟨by simp [h.len, h'.len], fun j hj => ?_⟩
  by_cases e : j < cs.length
  · have := h.sh j e
    rw [List.getD_eq_getElem?_getD, List.getD_eq_getElem?_getD] at this ⊢
    rwa [List.getElem?_append_left e, List.getElem?_append_left (by rw [← h.len]; exact e)]
  · have := h'.sh (j - cs.length) (by simp at hj; omega)
    rw [List.getD_eq_getElem?_getD, List.getD_eq_getElem?_getD] at this ⊢
    rw [List.getElem?_append_right (by omega), List.getElem?_append_right (by rw [← h.len]; omega), ← h.len]; exact this
section
variable {H : Type} {enc : TypeId × Value → H} {P : Program} {w : World} {spare : Nat → Bool} {held : Bool}
theorem weightsAll_all {e : TypeId} : ∀ {ds : List (DataW H)}, (DataW.weightsAll P e ds).all (· ≤ reachBytes) = true → ∀ d ∈ ds, (d.weights P e).all (· ≤ reachBytes) = true
  | d0 :: ds, h, d, hd => by
    simp only [DataW.weightsAll, List.all_append, Bool.and_eq_true] at h
    cases hd with
    | head => exact h.1
    | tail _ hd => exact weightsAll_all h.2 d hd
theorem open_fields {rec : TypeId → Option Kt} {n : Nat} {vs : List Value}
    (ih : ∀ (t : TypeId) (K : Kt) (us : List Value) (x : DataW H × List MemPlace), rec t = some K → DataW.trod enc P w 0 spare held n t us = some x → (x.1.weights P t).all (· ≤ reachBytes) = true →
      ∃ cs, HasKt K cs ∧ ShAll w (fun k => k < w.heap.size) cs us) :
    ∀ (fs : List Field) (off : Nat) (Ks : List Kt) (e : Nat) (xs : List (DataW H × List MemPlace)), ktF P.cellsOf rec off fs = some (Ks, e) → xs.length = fs.length → e = vs.length →
      (∀ (i : Nat) (f : Field), fs[i]? = some f → DataW.trod enc P w 0 spare held n f.type ((vs.drop f.offset).take (P.cellsOf f.type)) = xs[i]?) →
      (DataW.weightsEach P (fs.map (·.type)) (xs.map (·.1))).all (· ≤ reachBytes) = true →
      off ≤ vs.length ∧ ∃ cs, HasKts Ks cs ∧ ShAll w (fun k => k < w.heap.size) cs (vs.drop off)
  | [], off, Ks, e, xs, h, _, he, _, _ => by
    simp only [ktF, Option.some.injEq, Prod.mk.injEq] at h
    obtain ⟨rfl, rfl⟩ := h
    refine ⟨by omega, [], by simp only [HasKts], ?_⟩
    rw [List.drop_eq_nil_of_le (by omega)]; exact .nil
  | f :: fs, off, Ks, e, [], _, hl, _, _, _ => by simp at hl
  | f :: fs, off, Ks, e, x :: xs, h, hl, he, hx, hw => by
    simp only [ktF] at h
    split at h
    · rename_i ho
      subst ho
      split at h
      · rename_i K Ks' e' hK hKs
        simp only [Option.some.injEq, Prod.mk.injEq] at h
        obtain ⟨rfl, rfl⟩ := h
        simp only [List.map_cons, DataW.weightsEach, List.all_append, Bool.and_eq_true] at hw
        obtain ⟨h1, cs2, h2, h3⟩ := open_fields ih fs _ Ks' e' xs hKs (by simpa using hl) he (fun i g hg => by
          have := hx (i + 1) g (by simpa using hg)
          simpa using this) hw.2
        have h0 := hx 0 f rfl
        simp only [List.getElem?_cons_zero] at h0
        obtain ⟨cs1, h4, h5⟩ := ih _ K _ x hK h0 hw.1
        refine ⟨by omega, cs1 ++ cs2, ?_, ?_⟩
        · simp only [HasKts]; exact ⟨cs1, cs2, rfl, h4, h2⟩
        · have := h5.append h3
          rwa [← List.drop_drop, List.take_append_drop] at this
      · cases h
    · cases h
theorem open_kt : ∀ (n : Nat) (m : Nat) (t : TypeId) (K : Kt) (vs : List Value) (x : DataW H × List MemPlace), kt P m t = some K → DataW.trod enc P w 0 spare held n t vs = some x → (x.1.weights P t).all (· ≤ reachBytes) = true →
    ∃ cs, HasKt K cs ∧ ShAll w (fun k => k < w.heap.size) cs vs := by
  intro n
  induction n with
  | zero => intro m t K vs x _ h; simp [DataW.trod] at h
  | succ n ih =>
    intro m t K vs x hK h hw
    match m with
    | 0 => simp [kt] at hK
    | m + 1 =>
      simp only [kt] at hK
      split at hK
      · rename_i ht
        cases hK
        obtain ⟨b, rfl, _⟩ := DataW.trod_bool ht h
        exact ⟨[.v (.bool b)], by simp only [HasKt]; exact ⟨b, rfl⟩, .one (.v _)⟩
      · rename_i k ht
        cases hK
        obtain ⟨z, rfl, _, hz⟩ := DataW.trod_int ht h
        exact ⟨[.v (.int k z)], by simp only [HasKt]; exact ⟨z, rfl, hz⟩, .one (.v _)⟩
      · rename_i ht
        cases hK
        obtain ⟨s, rfl, rfl, hs⟩ := DataW.trod_string ht h
        refine ⟨[.v (.string s)], ?_, .one (.v _)⟩
        simp only [HasKt]
        refine ⟨s, rfl, ?_⟩
        rw [List.all_eq_true] at hw
        have := hw s.data.toList.length (by simp only [DataW.weights, List.mem_singleton])
        rw [decide_eq_true_eq, Array.length_toList] at this
        exact this
      · rename_i e ht
        split at hK
        case isFalse => cases hK
        rename_i hpos
        simp only [Option.map_eq_some_iff] at hK
        obtain ⟨K', hK', rfl⟩ := hK
        rcases DataW.trod_slice ht h with ⟨rfl, _⟩ | ⟨a, len, cap, elems, rest, n', hn', rfl, rfl, hb, hl, hm, hlen, hel, -, -⟩
        · exact ⟨[.sh (P.cellsOf e) []], by simp only [HasKt]; exact ⟨[], rfl, by simp, by simp, fun r h => by cases h⟩, .one (.nil _)⟩
        · obtain rfl : n = n' := by omega
          simp only [DataW.weights, ht, List.all_cons, List.all_append, Bool.and_eq_true, decide_eq_true_eq, List.length_map] at hw
          obtain ⟨hw1, hw2, _⟩ := hw
          have hrow : ∀ i, i < len → ∃ p : List C × List Value, HasKt K' p.1 ∧ p.2.length = P.cellsOf e ∧ ShAll w (fun k => k < w.heap.size) p.1 p.2 ∧ ∀ j, j < P.cellsOf e → w.cell? ((a.add (i * P.cellsOf e)).add j) = some (p.2.getD j undef) := by
            intro i hi
            have h1 := hel i hi
            have hi' : i < elems.length := by omega
            rw [List.getElem?_eq_getElem hi', Option.bind_eq_some_iff] at h1
            obtain ⟨us, h2, h3⟩ := h1
            obtain ⟨_, h4, h5⟩ := World.cells?_some h2
            obtain ⟨cs, h6, h7⟩ := ih m e K' us elems[i] hK' h3 (weightsAll_all hw2 _ (List.mem_map_of_mem (List.getElem_mem hi')))
            refine ⟨(cs, us), h6, h4, h7, fun j hj => ?_⟩
            rw [h5 j hj, List.getD_eq_getElem?_getD, List.getElem?_eq_getElem (by omega)]; rfl
          obtain ⟨f, hf⟩ := Deep.choose_lt hrow
          refine ⟨[.sh (P.cellsOf e) ((List.range len).map fun i => (f i).1)], ?_, .one ?_⟩
          · simp only [HasKt]
            refine ⟨_, rfl, ?_, by simp; omega, fun r hr => ?_⟩
            · simp only [List.length_map, List.length_range]
              refine Nat.le_trans (Nat.mul_le_mul_right _ ?_) hw1; omega
            · simp only [List.mem_map, List.mem_range] at hr
              obtain ⟨i, hi, rfl⟩ := hr
              exact (hf i hi).1
          · have hg : ∀ i, i < len → ((List.range len).map fun i => (f i).1).getD i [] = (f i).1 := fun i hi => by
              simp [List.getD_eq_getElem?_getD, hi]
            refine .slice _ _ a len cap (fun i j => (f i).2.getD j undef) (by simp) hl hm (fun h0 => ?_) (fun i hi => ?_) (fun i j hi hj => (hf i hi).2.2.2 j hj) (fun i j hi hj => ?_)
            · have h1 := (hf 0 h0).2.2.2 0 hpos
              have hb : ((a.add (0 * P.cellsOf e)).add 0).block = a.block := by unfold Addr.add; split <;> split <;> rfl
              have := cell_block_lt h1
              rwa [hb] at this
            · rw [hg i hi, (hf i hi).2.2.1.len, (hf i hi).2.1]
            · unfold cellAt; rw [hg i hi]
              exact (hf i hi).2.2.1.sh j (by rw [(hf i hi).2.2.1.len, (hf i hi).2.1]; exact hj)
      · rename_i fs ht
        split at hK
        · rename_i Ks e hKs
          split at hK
          · rename_i he
            cases hK
            obtain ⟨xs, n', hn', rfl, h1, h2, h3⟩ := DataW.trod_struct ht h
            obtain rfl : n = n' := by omega
            simp only [DataW.weights, ht] at hw
            obtain ⟨_, cs, h4, h5⟩ := open_fields (vs := vs) (fun t K us x hr hx hw => ih m t K us x hr hx hw) fs.toList 0 Ks e xs hKs (by simpa using h2) (by omega) (fun i f hf => h3 i f (by simpa using hf)) hw
            exact ⟨cs, by simp only [HasKt]; exact h4, by simpa using h5⟩
          · cases hK
        · cases hK
      · cases hK
end
end Go.Rx
namespace Go.Rx
open Go.RowKit Go.ChangeShapes Go.WideShapes
def HasX : Kt → X → Prop
  | .st fs, x => ∃ cs, x = .agg cs ∧ HasKts fs cs
  | .bool, x => ∃ c, x = .one c ∧ HasKt .bool [c]
  | .int k, x => ∃ c, x = .one c ∧ HasKt (.int k) [c]
  | .str, x => ∃ c, x = .one c ∧ HasKt .str [c]
  | .sl sz b e, x => ∃ c, x = .one c ∧ HasKt (.sl sz b e) [c]
def HasXs : List Kt → List X → Prop
  | [], xs => xs = []
  | K :: Ks, xs => ∃ x ys, xs = x :: ys ∧ HasX K x ∧ HasXs Ks ys
def kts (P : Program) (m : Nat) : List TypeId → Option (List Kt)
  | [] => some []
  | t :: ts => match kt P m t, kts P m ts with
    | some K, some Ks => some (K :: Ks)
    | _, _ => none
section
variable {H : Type} {enc : TypeId × Value → H} {P : Program} {w : World} {spare : Nat → Bool} {held : Bool}
theorem XR_of_sh {c : C} {v : Value} (h : Sh w (fun k => k < w.heap.size) c v) : CR w [] (Sall w) none c v := by
  cases h with
  | v x => rfl
  | nil sz => exact Sh.nil sz
  | slice sz R a len cap vals h1 h2 h3 h4 h5 h6 h7 => exact Sh.slice sz R a len cap vals h1 h2 h3 h4 h5 h6 h7
  | ptr cs a vals h1 h2 h3 => exact Sh.ptr cs a vals h1 h2 h3
  | bad x => trivial
theorem cells_one {v : Value} (h : ∀ cs, v ≠ .agg cs) : v.cells.toList = [v] := by
  cases v <;> first | rfl | exact absurd rfl (h _)
theorem open_arg {m : Nat} {t : TypeId} {K : Kt} {v : Value} {d : DataW H} {ps : List MemPlace} {r : Reach} {b0 : Nat} (hk : kt P m t = some K) (hv : Value.okWide P w r b0 t v) (h : DataW.Trod enc P w 0 spare held t v d ps)
    (hw : (d.weights P t).all (· ≤ reachBytes) = true) : ∃ x, HasX K x ∧ XR w [] (Sall w) x v := by
  obtain ⟨n, hn⟩ := h
  obtain ⟨cs, h1, h2⟩ := open_kt n m t K _ _ hk hn hw
  have one : (∀ cs, v ≠ .agg cs) → ∃ c, cs = [c] ∧ CR w [] (Sall w) none c v := fun hne => by
    rw [cells_one hne] at h2
    have hl := h2.len
    match cs, hl with
    | [c], _ =>
      exact ⟨c, rfl, XR_of_sh (h2.sh 0 (by simp))⟩
  match m with
  | 0 => simp [kt] at hk
  | m + 1 =>
    simp only [kt] at hk
    split at hk
    · rename_i ht
      cases hk
      obtain ⟨b, rfl⟩ := okWide_bool ht hv
      obtain ⟨c, rfl, hc⟩ := one (fun _ h => by cases h)
      exact ⟨.one c, ⟨c, rfl, h1⟩, hc⟩
    · rename_i k ht
      cases hk
      obtain ⟨b, rfl⟩ := okWide_int ht hv
      obtain ⟨c, rfl, hc⟩ := one (fun _ h => by cases h)
      exact ⟨.one c, ⟨c, rfl, h1⟩, hc⟩
    · rename_i ht
      cases hk
      obtain ⟨b, rfl⟩ := okWide_string ht hv
      obtain ⟨c, rfl, hc⟩ := one (fun _ h => by cases h)
      exact ⟨.one c, ⟨c, rfl, h1⟩, hc⟩
    · rename_i e ht
      split at hk
      case isFalse => cases hk
      simp only [Option.map_eq_some_iff] at hk
      obtain ⟨K', hK', rfl⟩ := hk
      obtain ⟨a, l, c, rfl⟩ := okWide_slice ht hv
      obtain ⟨c, rfl, hc⟩ := one (fun _ h => by cases h)
      exact ⟨.one c, ⟨c, rfl, h1⟩, hc⟩
    · rename_i fs ht
      obtain ⟨vs, rfl, hvs⟩ := okWide_struct ht hv
      split at hk
      · split at hk
        · cases hk
          have e : (Value.agg vs).cells.toList = vs.toList := rfl
          rw [e] at h2
          refine ⟨.agg cs, ⟨cs, rfl, by simpa only [HasKt] using h1⟩, vs.toList, by simp, h2.len.symm, fun j hj => ?_⟩
          exact XR_of_sh (h2.sh j hj)
        · cases hk
      · cases hk
    · cases hk
theorem open_args {m : Nat} {r : Reach} {b0 : Nat} : ∀ {ts : List TypeId} {Ks : List Kt} {vs : List Value} {ds : List (DataW H)} {ps : List MemPlace}, kts P m ts = some Ks → DataW.TrodAll enc P w 0 spare held ts vs ds ps →
    (∀ (j : Nat) (t : TypeId) (v : Value), ts[j]? = some t → vs[j]? = some v → Value.okWide P w r b0 t v) → (DataW.weightsEach P ts ds).all (· ≤ reachBytes) = true →
    ds.length = ts.length ∧ ∃ xs, HasXs Ks xs ∧ vs.length = xs.length ∧ ∀ i, i < xs.length → XR w [] (Sall w) (xs.getD i (.one .bad)) (vs.getD i undef)
  | [], Ks, vs, ds, ps, hk, h, _, _ => by
    obtain rfl : Ks = [] := by simpa [kts] using hk.symm
    obtain ⟨rfl, rfl, rfl⟩ := trodAll_nil h
    exact ⟨rfl, [], by simp [HasXs], rfl, fun i hi => absurd hi (Nat.not_lt_zero _)⟩
  | t :: ts, Ks, vs, ds, ps, hk, h, hv, hw => by
    simp only [kts] at hk
    split at hk
    · rename_i K Ks' hK hKs
      cases hk
      obtain ⟨v, vs', d, ds', p, q, rfl, rfl, rfl, h1, h2⟩ := trodAll_cons h
      simp only [DataW.weightsEach, List.all_append, Bool.and_eq_true] at hw
      obtain ⟨x, hx, hr⟩ := open_arg hK (hv 0 t v rfl rfl) h1 hw.1
      obtain ⟨hl, xs, hxs, hlen, hrs⟩ := open_args hKs h2 (fun j t v ht hv' => hv (j + 1) t v (by simpa using ht) (by simpa using hv')) hw.2
      refine ⟨by simp [hl], x :: xs, ⟨x, xs, rfl, hx, hxs⟩, by simp [hlen], fun i hi => ?_⟩
      cases i with
      | zero => simpa using hr
      | succ i => simpa using hrs i (by simpa using hi)
    · cases hk
def rowsOk (P : Program) (ts : List TypeId) : Bool := ts.all fun t => P.readableRec t && decide (t < P.types.size)
theorem back_all (laid : laidOutB P = true) {w' : World} (hb : Below w.heap.size w w') : ∀ {ts : List TypeId} {vs : List Value} {ds : List (DataW H)} {ps : List MemPlace}, rowsOk P ts = true → DataW.TrodAll enc P w 0 (fun _ => true) true ts vs ds ps →
    DataW.TrodAll enc P w' 0 (fun b => decide (b < w.heap.size)) true ts vs ds ps
  | [], vs, ds, ps, _, h => by obtain ⟨rfl, rfl, rfl⟩ := trodAll_nil h; rfl
  | t :: ts, vs, ds, ps, hr, h => by
    obtain ⟨v, vs', d, ds', p, q, rfl, rfl, rfl, h1, h2⟩ := trodAll_cons h
    simp only [rowsOk, List.all_cons, Bool.and_eq_true, decide_eq_true_eq] at hr
    obtain ⟨m, hm⟩ := h1
    exact trodAll_cons_mk (Below.trod laid hr.1.1 hr.1.2 ⟨m, hm⟩ hb (fun x hx => DataW.trod_lt m _ _ _ hm x hx)) (back_all laid hb (by simpa only [rowsOk] using hr.2) h2)
end
theorem keep_below {w w' : World} {g : Gh} (h : Keep (Sall w) w g w') : Below w.heap.size w w' := ⟨h.os, h.tape, h.output, h.size, fun k hk => h.block k hk⟩
theorem law_lifted {a : Assume} {C : Checked} {f : FuncId} {fn : Func} {s : ChangeSpec} {conds : List PathCond} {H : Type} {enc : TypeId × Value → H} {apart : Bool} (os : Os) (started : os.Started)
    (own : ownKnob C.prog.godebug = none) (laid : laidOutB C.prog = true) (noInit : C.prog.inits.idxOf? f = none) (hfn : C.prog.funcs[f]? = some fn)
    (witness : ∃ (w : World) (tape : Tape) (i : Input), w.os = os ∧ (w.forCall tape i).Shaped C.prog ∧ i.vars = [] ∧ Input.okWide C.prog (w.forCall tape i) .any w.heap.size f i ∧
      s.pre6 enc C.prog fn conds apart (w.forCall tape i).memory i.args ∧ a.holds C.prog (lone (Frame.enter C.prog f i.args .normal) [] (w.forCall tape i)))
    {m : Nat} {Ks : List Kt} {ts : List TypeId} {rt : TypeId} (hts : fn.params = ts.toArray) (hkt : kts C.prog m ts = some Ks) (hrows : rowsOk C.prog ts = true) (hres : fn.resultTypes = #[rt]) (hrt : C.prog.underlying rt = some .bool)
    (hvars : s.vars = []) (hspec : ∀ ds : List (DataW H), ds.length = ts.length → s.fn H ds = { results := [.lit (.bool true)], args := ds })
    (htb : (tabs.all fun t => (C.prog.globalNamed t.1).isNone) = true) (law : ∀ xs, HasXs Ks xs → PureFn C.prog f xs [.one (.v (.bool true))]) :
    ReturnsInHanded a C os f .any (s.pre6 enc C.prog fn conds apart) (s.post enc C.prog fn apart true false false) := by
  refine returnsInHanded_of_change_sized own started noInit hfn witness ?_
  intro W base args ds gs before hval hW _ hsz _
  have hW' := hW
  obtain ⟨p, q, hA, hV, rfl, _, _⟩ := hW
  rw [hvars] at hV
  obtain ⟨rfl, rfl⟩ := trodVars_none hV
  have hpl : s.plain.varTypes C.prog = [] := by simp [ChangeSpec.plain, DataSpec.varTypes, hvars]
  rw [hts] at hA hval
  rw [hpl, hts] at hsz
  simp only [List.append_nil] at hsz
  obtain ⟨hl, xs, hxs, hlen, hr⟩ := open_args hkt hA (fun j t v ht hv => hval j t v (by simpa using ht) (by simpa using hv)) hsz
  have := Tb.of_none htb (Sall W) W
  have hc := (law xs hxs).2 W args.toList hlen hr
  rw [show args.toList.toArray = args by simp] at hc
  refine hc.mono fun e W' h => ?_
  obtain ⟨g, zs, rfl, hret, hk⟩ := h
  have hb := keep_below hk
  have hz1 : zs.length = 1 := hret.len
  have hz0 : zs.getD 0 undef = .bool true := hret.cells 0 (by simp [retRow, cellsOf])
  obtain ⟨z, rfl⟩ : ∃ z, zs = [z] := by
    match zs, hz1 with
    | [z], _ => exact ⟨z, rfl⟩
  obtain rfl : z = .bool true := hz0
  refine ⟨_, rfl, ds, [], p ++ [], [], p, [], hW', ?_, ?_, ?_, hb.frame _, fun h => by cases h⟩
  · rw [List.append_nil, hspec ds hl, hres]
    exact trodAll_mk1 (shut_bool hrt _)
  · rw [List.append_nil, hspec ds hl, hts]
    exact back_all laid hb hrows hA
  · rw [List.append_nil, hspec ds hl, hvars]; rfl
end Go.Rx
namespace Go.Rx
open Go.RowKit
theorem Weak.drop {t t' : List V} {d : Nat} {l l' g : Store} (h : T2 t t') (hs : SubS l l') (hd : dropOk d l' g t' = true) : Weak ⟨t, d, l, g⟩ ⟨t', d, l', g⟩ := fun _ _ gh _ _ hr => ⟨gh, Rel.drop h (SubS_get hs) hd hr⟩
theorem setRange_eq (row : List C) (off : Nat) (cs : List C) : setRange row off cs = row.take off ++ cs ++ row.drop (off + cs.length) := rfl
attribute [push_cast] allF_nil allF_cons fOkS_eq List.getElem?_cons_zero List.getElem?_cons_succ
attribute [push_cast] setRange_eq List.all_cons List.all_nil Option.isNone_none Option.isNone_some Prod.mk.injEq and_true true_and and_false false_and true_or or_true false_or or_false not_true_eq_false not_false_eq_true noOwns below refRoot nrR nr
  List.set_cons_zero List.set_cons_succ List.getD_cons_zero List.getD_cons_succ Nat.zero_le Nat.le_refl decide_true decide_false SubS dropOk refOkV refOkX refOkC refOkO cellOk
end Go.Rx
namespace Go.Rx
open Go.RowKit
variable {P : Program} {t : TypeId} {x y : Operand}
def binV' := @binV
theorem beq_data (a b : ByteArray) : (a.toList == b.toList) = decide (a = b) := by
  by_cases h : a = b
  · subst h; simp
  · have : ¬ a.toList = b.toList := fun e => h (by
      rw [ByteArray.toList_eq, ByteArray.toList_eq] at e
      cases a; cases b; simp_all)
    simp [h, this]
theorem bin_eqs (a b : ByteArray) : binV P .eql t x y (one (.v (.string a))) (one (.v (.string b))) = some (one (.v (.bool (decide (a = b))))) := by
  simp only [binV, plain2, plain, eqGuard, binOp, Op.stringOp, bind, pure, beq_data]; rfl
theorem bin_nes (a b : ByteArray) : binV P .neq t x y (one (.v (.string a))) (one (.v (.string b))) = some (one (.v (.bool (!decide (a = b))))) := by
  simp only [binV, plain2, plain, eqGuard, binOp, Op.stringOp, bind, pure, beq_data]; rfl
theorem equalB (a b : Bool) (h : P.underlying t = some .bool) : pureIn P (Op.equal t (.bool a) (.bool b)) = some (decide (a = b)) := by
  show pureIn P (Op.equalIn (9999 + 1) t (.bool a) (.bool b)) = _
  unfold Op.equalIn
  have hu : pureIn P (underlying t) = some .bool := by
    show pureIn P (match P.underlying t with | some d => Sem.pure d | none => stuck "no such type") = _
    rw [h]; rfl
  refine (pure_bind' hu).trans ?_
  cases a <;> cases b <;> rfl
theorem bin_eqb (a b : Bool) : binV P .eql t x y (one (.v (.bool a))) (one (.v (.bool b))) = match P.underlying t with
    | some .bool => some (one (.v (.bool (decide (a = b)))))
    | _ => binV' P .eql t x y (one (.v (.bool a))) (one (.v (.bool b))) := by
  split
  · rename_i h
    show Option.map ofVal (pureIn P ((Op.equal t (.bool a) (.bool b)).bind fun r => Sem.pure (.bool r))) = _
    rw [pure_bind' (equalB a b h)]; rfl
  · rfl
theorem bin_neb (a b : Bool) : binV P .neq t x y (one (.v (.bool a))) (one (.v (.bool b))) = match P.underlying t with
    | some .bool => some (one (.v (.bool (!decide (a = b)))))
    | _ => binV' P .neq t x y (one (.v (.bool a))) (one (.v (.bool b))) := by
  split
  · rename_i h
    show Option.map ofVal (pureIn P ((Op.equal t (.bool a) (.bool b)).bind fun r => Sem.pure (.bool !r))) = _
    rw [pure_bind' (equalB a b h)]; rfl
  · rfl
def makeS' := @makeS
theorem make_nat (σ : St) (N k : Nat) : makeS P σ (some N) t (int k) (int k) = match tyElem P t with
    | some e => match tyZero P e, tySz P e, tyBytes P e with
      | some zs, some s, some b => if fresh σ N = true ∧ zs.length = s ∧ 0 < s ∧ k * b ≤ 281474976710656 ∧ k ≤ 9223372036854775807 then
          some (put (newSt σ N ⟨.sl, s, List.replicate k (zs.map .v)⟩) (some N) (slV σ N s k)) else makeS' P σ (some N) t (int k) (int k)
      | _, _, _ => makeS' P σ (some N) t (int k) (int k)
    | none => makeS' P σ (some N) t (int k) (int k) := by
  split
  · rename_i e he
    split
    · rename_i zs s b h1 h2 h3
      split
      · rename_i hc
        obtain ⟨c1, c2, c3, c4, c5⟩ := hc
        have c6 : (b : Int) * (k : Int) ≤ 281474976710656 := by
          rw [← Int.natCast_mul, Nat.mul_comm]; omega
        simp only [makeS, he, plain_v, h1, h2, h3]
        rw [if_pos ⟨c1, c2, c3, by omega, by omega, by omega, c6⟩]
        simp
      · rfl
    · rfl
  · rfl
def fr (n : Nat) (vs : List V) : List V := vs ++ List.replicate (n - vs.length) (.x (.one .bad))
attribute [push_cast] make_nat
theorem nrRR_map {α : Type} (f : α → List C) (h : ∀ x, nrR (f x) = true) (xs : List α) : nrRR (xs.map f) = true := by
  induction xs with
  | nil => rfl
  | cons x xs ih => simp only [List.map_cons, nrRR, h x, ih, Bool.and_self]
theorem poRR_map {α : Type} (f : α → List C) (h : ∀ x, poR (f x) = true) (xs : List α) : poRR (xs.map f) = true := by
  induction xs with
  | nil => rfl
  | cons x xs ih => simp only [List.map_cons, poRR, h x, ih, Bool.and_self]
theorem toShRR_map {α : Type} (f : α → List C) (h : ∀ x, toShR (f x) = f x) (xs : List α) : toShRR (xs.map f) = xs.map f := by
  induction xs with
  | nil => rfl
  | cons x xs ih => simp only [List.map_cons, toShRR, h x, ih]
theorem take_map_all {α β : Type} (f : α → β) (xs : List α) : (xs.map f).take xs.length = xs.map f := List.take_of_length_le (by simp)
theorem take_all {α : Type} (xs : List α) : xs.take xs.length = xs := List.take_of_length_le (Nat.le_refl _)
attribute [push_cast] take_map_all take_all Option.isSome_some Option.isSome_none Bool.or_true Bool.true_or Bool.false_or Bool.or_false List.length_map
attribute [push_cast] bin_eqs bin_nes bin_eqb bin_neb viewVs viewV viewX viewCs viewC newRoots impXs impCs impC packT freshR impSt poR po retRow cellsOf
end Go.Rx
namespace Go.Rx
open Go.RowKit
variable {P : Program} {k : List Fr} {σ : St} {Q : Ex → St → Prop} {l : List SOp} {L : Store} {d : Option Tmp} {ty : TypeId}
theorem gL_callG {f : FuncId} {as : Array Operand} {ats : Array TypeId} {n : Tmp} {b : Bool} : GoL P (⟨d, .call { callee := .value (.func f), args := as, argTypes := ats }, ty, some (n, b)⟩ :: l) k σ Q =
    match plain (σ.t.getD n (.x (.one .bad))) with
    | some (.bool x) => if x = b then GoL P (⟨d, .call { callee := .value (.func f), args := as, argTypes := ats }, ty, none⟩ :: l) k σ Q else GoL P l k (put σ d (.x (.one (.v (.tuple #[]))))) Q
    | some (.tuple _) => GoL P l k (put σ d (.x (.one (.v (.tuple #[]))))) Q
    | _ => False := by
  show (match (match plain (σ.t.getD n (.x (.one .bad))) with | some (.bool x) => some (x == b) | some (.tuple _) => some false | _ => none) with
    | some true => wop P (SOp.oper ⟨d, .call { callee := .value (.func f), args := as, argTypes := ats }, ty, some (n, b)⟩) σ fun σ' => GoL P l k σ' Q
    | some false => GoL P l k (put σ d (.x (.one (.v (.tuple #[]))))) Q
    | none => False) = _
  generalize plain (σ.t.getD n (.x (.one .bad))) = q
  cases q with
  | none => rfl
  | some y =>
    cases y with
    | bool x => cases x <;> cases b <;> rfl
    | _ => rfl
theorem gD_callG {f : FuncId} {as : Array Operand} {ats : Array TypeId} {n : Tmp} {b : Bool} : GoD P (⟨d, .call { callee := .value (.func f), args := as, argTypes := ats }, ty, some (n, b)⟩ :: l) L k σ Q =
    match plain (σ.t.getD n (.x (.one .bad))) with
    | some (.bool x) => if x = b then GoD P (⟨d, .call { callee := .value (.func f), args := as, argTypes := ats }, ty, none⟩ :: l) L k σ Q else GoD P l L k (put σ d (.x (.one (.v (.tuple #[]))))) Q
    | some (.tuple _) => GoD P l L k (put σ d (.x (.one (.v (.tuple #[]))))) Q
    | _ => False := by
  show (match (match plain (σ.t.getD n (.x (.one .bad))) with | some (.bool x) => some (x == b) | some (.tuple _) => some false | _ => none) with
    | some true => ∃ v m, OpE P σ L (SOp.oper ⟨d, .call { callee := .value (.func f), args := as, argTypes := ats }, ty, some (n, b)⟩) v m ∧ freshR (L ++ σ.l) m = true ∧ GoD P l (m ++ L) k (put σ d v) Q
    | some false => GoD P l L k (put σ d (.x (.one (.v (.tuple #[]))))) Q
    | none => False) = _
  generalize plain (σ.t.getD n (.x (.one .bad))) = q
  cases q with
  | none => rfl
  | some y =>
    cases y with
    | bool x => cases x <;> cases b <;> rfl
    | _ => rfl
theorem opT_tmp {t n : Nat} : opT (.tmp t) n = (decide (t * 64 ≤ n) && decide (n < t * 64 + 64)) := rfl
theorem opT_const {v : Value} {n : Nat} : opT (.const v) n = false := rfl
attribute [push_cast] gL_callG gD_callG opT_tmp opT_const hasA selA short List.length_cons List.length_nil
end Go.Rx
namespace Go.Rx
open Go.RowKit
def renG (ρ : Root → Path → Option (Root × Path)) (g : Gh) : Gh := { G := fun r p => (ρ r p).bind fun q => g.G q.1 q.2, S := g.S }
theorem renG_some {ρ : Root → Path → Option (Root × Path)} {g : Gh} {r r0 : Root} {p p0 : Path} (h : ρ r p = some (r0, p0)) : (renG ρ g).G r p = g.G r0 p0 := by
  simp [renG, h]
theorem renG_none {ρ : Root → Path → Option (Root × Path)} {g : Gh} {r : Root} {p : Path} (h : ρ r p = none) : (renG ρ g).G r p = none := by
  simp [renG, h]
theorem SlAt.ren {w : World} {g g' : Gh} {r r0 : Root} {p p0 : Path} {sz off len : Nat} {y : Value} (hG : g'.G r p = g.G r0 p0) (h : SlAt g w r0 p0 sz off len y) : SlAt g' w r p sz off len y := by
  unfold SlAt at *
  rw [hG]; exact h
structure Ren (w : World) (o o' : Store) (ρ : Root → Path → Option (Root × Path)) (g : Gh) : Prop where
  live : ∀ r p sz R', Live o' r p sz R' → (ρ r p = none ∧ R' = []) ∨ ∃ r0 p0 R, ρ r p = some (r0, p0) ∧ Live o r0 p0 sz R ∧ R'.length = R.length ∧
    (∀ i, i < R.length → (R'.getD i []).length = (R.getD i []).length) ∧
    ∀ i j y, i < R.length → j < sz → CR w o g (some (r0, p0, i, j)) (cellAt R i j) y → CR w o' (renG ρ g) (some (r, p, i, j)) (cellAt R' i j) y
  inj : ∀ r p sz R r' p' sz' R' q, Live o' r p sz R → Live o' r' p' sz' R' → ρ r p = some q → ρ r' p' = some q → r = r' ∧ p = p'
  plain : ∀ r ob, getA o r = some ob → ob.kind ≠ .vr
theorem HeapRel.ren {w : World} {o o' : Store} {ρ : Root → Path → Option (Root × Path)} {g : Gh} (h : HeapRel w o g) (hr : Ren w o o' ρ g) : HeapRel w o' (renG ρ g) := by
  refine ⟨fun r p sz R' b hl hb => ?_, fun r p ob sz R' h1 h2 hb => ?_, fun r p sz R r' p' sz' R' b h1 h2 h3 h4 => ?_, h.S⟩
  · rcases hr.live r p sz R' hl with ⟨hn, rfl⟩ | ⟨r0, p0, R, hs, hl0, e1, e2, e3⟩
    · rw [renG_none hn] at hb; cases hb
    · rw [renG_some hs] at hb
      obtain ⟨k1, k2, cells, e, f, k3, k4, k5, k6⟩ := h.rows r0 p0 sz R b hl0 hb
      refine ⟨k1, fun i hi => ?_, cells, e, f, k3, k4, by rw [e1]; exact k5, fun i j hi hj => ?_⟩
      · rw [e1] at hi; rw [e2 i hi]; exact k2 i hi
      · rw [e1] at hi; exact e3 i j _ hi hj (k6 i j hi hj)
  · rcases hr.live r p sz R' ⟨ob, h1, h2⟩ with ⟨hn, rfl⟩ | ⟨r0, p0, R, hs, ⟨ob0, q1, q2⟩, e1, e2, e3⟩
    · exact .inl rfl
    · rw [renG_some hs] at hb
      rcases h.none r0 p0 ob0 sz R q1 q2 hb with rfl | ⟨hk, _⟩
      · exact .inl (List.eq_nil_of_length_eq_zero (by rw [e1]; rfl))
      · exact absurd hk (hr.plain _ _ q1)
  · have get : ∀ r p sz R, Live o' r p sz R → (renG ρ g).G r p = some b → ∃ r0 p0 R0, ρ r p = some (r0, p0) ∧ Live o r0 p0 sz R0 ∧ g.G r0 p0 = some b := fun r p sz R hl hb => by
      rcases hr.live r p sz R hl with ⟨hn, rfl⟩ | ⟨r0, p0, R0, hs, hl0, _⟩
      · rw [renG_none hn] at hb; cases hb
      · rw [renG_some hs] at hb; exact ⟨r0, p0, R0, hs, hl0, hb⟩
    obtain ⟨r0, p0, R0, s1, l1, b1⟩ := get r p sz R h1 h3
    obtain ⟨r1, p1, R1, s2, l2, b2⟩ := get r' p' sz' R' h2 h4
    obtain ⟨rfl, rfl⟩ := h.inj r0 p0 _ _ r1 p1 _ _ b l1 l2 b1 b2
    exact hr.inj r p sz R r' p' sz' R' _ h1 h2 s1 s2
theorem Rel.nilRoot {t : List V} {d : Nat} {l g : Store} {g0 gh : Gh} {w0 w : World} {a : Act} {r : Root} {sz : Nat} (hr : Rel g0 w0 ⟨t, d, l, g⟩ gh a w) (hd : r.1 = d) (hf : getA l r = none) (i : Nat)
    (hi : t[i]? = some (.x (.one (.v (.slice none 0 0))))) :
    ∃ gh', Rel g0 w0 ⟨t.set i (.x (.one (.rs r [] sz 0 0))), d, (r, ⟨.sl, sz, []⟩) :: l, g⟩ gh' a w := by
  have hfo : getA (l ++ g) r = none := by
    rw [getA_append, hf]
    cases hg : getA g r with
    | none => rfl
    | some ob => have := hr.out r ob hg; simp only at this; omega
  let gh' : Gh := { G := fun r' p' => if r' = r then none else gh.G r' p', S := gh.S }
  have hne : ∀ r' p' s R, Live (l ++ g) r' p' s R → r' ≠ r := fun r' p' s R ⟨ob, h1, _⟩ e => by subst e; rw [hfo] at h1; cases h1
  have hget : ∀ r', r' ≠ r → getA ((r, (⟨.sl, sz, []⟩ : Obj')) :: l ++ g) r' = getA (l ++ g) r' := fun r' h => by
    show (if r = r' then _ else _) = _
    rw [if_neg (Ne.symm h)]; rfl
  have hsame : getA ((r, (⟨.sl, sz, []⟩ : Obj')) :: l ++ g) r = some ⟨.sl, sz, []⟩ := by
    show (if r = r then _ else _) = _
    rw [if_pos rfl]
  have goes : Goes w (l ++ g) gh w ((r, (⟨.sl, sz, []⟩ : Obj')) :: l ++ g) gh' := by
    refine ⟨fun k hk => ⟨hk, rfl⟩, fun r' p s R hl => ⟨⟨R, ?_, Nat.le_refl _⟩, ?_, fun b cells e f _ hb => ⟨cells, hb, rfl⟩⟩⟩
    · obtain ⟨ob, h1, h2⟩ := hl
      exact ⟨ob, by rw [hget r' (hne r' p s R ⟨ob, h1, h2⟩)]; exact h1, h2⟩
    · show (if r' = r then none else gh.G r' p) = _
      rw [if_neg (hne r' p s R hl)]
  have old : ∀ r' p s R, Live ((r, (⟨.sl, sz, []⟩ : Obj')) :: l ++ g) r' p s R → r' ≠ r → Live (l ++ g) r' p s R := fun r' p s R ⟨ob, h1, h2⟩ h => ⟨ob, by rw [← hget r' h]; exact h1, h2⟩
  have crl : ∀ loc c y, CR w (l ++ g) gh (some loc) c y → loc.1 ≠ r → CR w ((r, (⟨.sl, sz, []⟩ : Obj')) :: l ++ g) gh' (some loc) c y := fun loc c y hc hl => by
    obtain ⟨r1, p1, i1, j1⟩ := loc
    cases c with
    | own s R =>
      have hc' : SlAt gh w r1 (p1 ++ [(i1, j1)]) s 0 R.length y := hc
      refine SlAt.ren (g := gh) ?_ hc'
      show (if r1 = r then none else gh.G r1 _) = _
      rw [if_neg hl]
    | v x => exact hc
    | sh s R => exact hc
    | ps cs => exact hc
    | bad => trivial
    | rs r2 p2 s off len => exact CR.goes (c := .rs r2 p2 s off len) goes hc
    | pt r2 p2 s row off => exact CR.goes (c := .pt r2 p2 s row off) goes hc
  refine ⟨gh', hr.defers, by rw [List.length_set]; exact hr.size, fun k hk => ?_, ⟨fun r' p s R b hl hb => ?_, fun r' p ob s R h1 h2 hb => ?_, fun r1 p1 s1 R1 r2 p2 s2 R2 b l1 l2 b1 b2 => ?_, hr.heap.S⟩, ?_, fun r' ob h => ?_, hr.out, fun r' ob h => ?_, hr.maps.mono (fun r' ob h1 h2 => (by
      change getA ((r, (⟨.sl, sz, []⟩ : Obj')) :: l ++ g) r' = some ob at h1
      by_cases e : r' = r
      · rw [e, hsame] at h1; cases h1; cases h2
      · rw [hget r' e] at h1; exact ⟨ob, h1, rfl⟩)) (fun b arr cl h1 h2 => ⟨h1, h2⟩) (.ext (fun _ _ _ => rfl) (fun _ _ hs => hs) fun r' p s R k hl hG _ => (by
      have hn : r' ≠ r := fun e => by subst e; rw [show gh'.G r' p = none from if_pos rfl] at hG; cases hG
      rw [show gh'.G r' p = gh.G r' p from if_neg hn] at hG
      exact ⟨_, _, _, _, old _ _ _ _ hl hn, hG⟩)), hr.pin.goes goes fun _ ob h => ⟨ob, h⟩⟩
  · rw [List.length_set] at hk
    show VR w _ gh' ((t.set i _).getD k _) _
    by_cases e : k = i
    · subst e
      have hv := hr.tmps k hk
      have ht : t.getD k (.x (.one .bad)) = .x (.one (.v (.slice none 0 0))) := by rw [List.getD_eq_getElem?_getD, hi]; rfl
      rw [ht] at hv
      have hv' : a.tmps.getD k undef = .slice none 0 0 := hv
      rw [List.getD_eq_getElem?_getD, List.getElem?_set_self (by exact hk), hv']
      refine ⟨[], ⟨_, hsame, rfl⟩, Nat.le_refl _, ?_⟩
      unfold SlAt
      rw [show gh'.G r [] = none from if_pos rfl]
      exact ⟨rfl, rfl⟩
    · rw [List.getD_eq_getElem?_getD, List.getElem?_set_ne (Ne.symm e), ← List.getD_eq_getElem?_getD]
      exact VR.goes goes (hr.tmps k hk)
  · have hn : r' ≠ r := fun e => by subst e; rw [show gh'.G r' p = none from if_pos rfl] at hb; cases hb
    rw [show gh'.G r' p = gh.G r' p from if_neg hn] at hb
    obtain ⟨k1, k2, cells, e, f, k3, k4, k5, k6⟩ := hr.heap.rows r' p s R b (old _ _ _ _ hl hn) hb
    exact ⟨k1, k2, cells, e, f, k3, k4, k5, fun i j hi hj => crl _ _ _ (k6 i j hi hj) hn⟩
  · by_cases e : r' = r
    · subst e
      have hob : ob = ⟨.sl, sz, []⟩ := by
        have := hsame
        rw [show getA ((r', (⟨.sl, sz, []⟩ : Obj')) :: l ++ g) r' = some ob from h1] at this
        exact Option.some.inj this
      subst hob
      cases p with
      | nil => simp only [rowsAt, Option.some.injEq, Prod.mk.injEq] at h2; exact .inl h2.2.symm
      | cons q p => simp [rowsAt] at h2
    · rw [show gh'.G r' p = gh.G r' p from if_neg e] at hb
      exact hr.heap.none r' p ob s R ((hget r' e).symm.trans h1) h2 hb
  · have n1 : r1 ≠ r := fun e => by subst e; rw [show gh'.G r1 p1 = none from if_pos rfl] at b1; cases b1
    have n2 : r2 ≠ r := fun e => by subst e; rw [show gh'.G r2 p2 = none from if_pos rfl] at b2; cases b2
    rw [show gh'.G r1 p1 = gh.G r1 p1 from if_neg n1] at b1
    rw [show gh'.G r2 p2 = gh.G r2 p2 from if_neg n2] at b2
    exact hr.heap.inj r1 p1 s1 R1 r2 p2 s2 R2 b (old _ _ _ _ l1 n1) (old _ _ _ _ l2 n2) b1 b2
  · exact ⟨hr.keep.os, hr.keep.tape, hr.keep.output, hr.keep.size, hr.keep.S, hr.keep.block⟩
  · by_cases e : r' = r
    · rw [e]; exact Nat.le_of_eq hd.symm
    · refine hr.loc r' ob ?_
      have h' : (if r = r' then some (⟨.sl, sz, []⟩ : Obj') else getA l r') = some ob := h
      rwa [if_neg (Ne.symm e)] at h'
  · by_cases e : r' = r
    · subst e
      have := hsame
      rw [show getA ((r', (⟨.sl, sz, []⟩ : Obj')) :: l ++ g) r' = some ob from h] at this
      cases this; rfl
    · exact hr.obj r' ob ((hget r' e).symm.trans h)
theorem Weak.nilRoot {t : List V} {d : Nat} {l g : Store} (r : Root) (sz i : Nat) (hd : r.1 = d) (hf : getA l r = none) (hi : t[i]? = some (.x (.one (.v (.slice none 0 0))))) :
    Weak ⟨t, d, l, g⟩ ⟨t.set i (.x (.one (.rs r [] sz 0 0))), d, (r, ⟨.sl, sz, []⟩) :: l, g⟩ := fun _ _ _ _ _ hr => hr.nilRoot hd hf i hi
theorem tyZero_eq {P : Program} {e : TypeId} {zs : List Value} (h : tyZero P e = some zs) : ∃ z, (P.info? e).bind (·.zero) = some z ∧ z.cells.size = zs.length := by
  unfold tyZero at h
  obtain ⟨z, h1, rfl⟩ := Option.map_eq_some_iff.1 h
  exact ⟨z, h1, by simp⟩
def appendS' := @appendS
theorem append_rs {P : Program} (t2 : List V) (d : Nat) (l g : Store) (N : Tmp) (t tx : TypeId) (r : Root) (sz len : Nat) (x : V) :
    appendS P ⟨t2, d, l, g⟩ (some N) t tx (.x (.one (.rs r [] sz 0 len))) x = match tyElem P t with
      | some e => match tyZero P e, tySz P e, tyBytes P e, srcRows P (l ++ g) tx x, getA l r with
        | some zs, some s, some bytes, some (szx, X), some ⟨.sl, sz2, R⟩ =>
          if zs.length = s ∧ 0 < s ∧ szx = s ∧ sz = s ∧ sz2 = s ∧ len = R.length ∧ flatRows X = true ∧ dropOk d (delA (killL r l) r) g (t2.map (killV r)) = true ∧ (getA (delA (killL r l) r) (d, N * 64)).isNone = true ∧
              R.length + X.length ≤ 9223372036854775807 ∧ ((R.length + X.length) + (R.length + X.length) / 4 + 192) * bytes ≤ 281474976710656 then
              some (put ⟨t2.map (killV r), d, ((d, N * 64), ⟨.sl, s, R ++ X⟩) :: delA (killL r l) r, g⟩ (some N) (.x (.one (.rs (d, N * 64) [] s 0 (R.length + X.length)))))
          else appendS' P ⟨t2, d, l, g⟩ (some N) t tx (.x (.one (.rs r [] sz 0 len))) x
        | _, _, _, _, _ => appendS' P ⟨t2, d, l, g⟩ (some N) t tx (.x (.one (.rs r [] sz 0 len))) x
      | none => appendS' P ⟨t2, d, l, g⟩ (some N) t tx (.x (.one (.rs r [] sz 0 len))) x := by
  split
  · rename_i e he
    split
    · rename_i zs s bytes szx X sz2 R h1 h2 h3 h4 h5
      split
      · rename_i hc
        obtain ⟨z, hz, hzs⟩ := tyZero_eq h1
        have hs : (P.info? e).map (·.size) = some s := h2
        have hb : (P.info? e).map (·.bytes) = some bytes := h3
        obtain ⟨c1, c2⟩ := hc
        unfold appendS
        simp only [he, hz, hs, hb]
        rw [show srcRows P (St.o ⟨t2, d, l, g⟩) tx x = some (szx, X) from h4]
        simp only [h5]
        rw [if_pos ⟨hzs.trans c1, c2⟩]
      · rfl
    · rfl
  · rfl
theorem room_le {n b : Nat} (h : n ≤ 4294967296) (hb : b ≤ 4096) : (n + n / 4 + 192) * b ≤ 281474976710656 := by
  have h1 : n + n / 4 + 192 ≤ 8589934592 := by omega
  exact Nat.le_trans (Nat.mul_le_mul h1 hb) (by decide)
theorem drop_zero' {α : Type} (l : List α) : l.drop 0 = l := rfl
theorem take_one' {α : Type} (a : α) (l : List α) : (a :: l).take 1 = [a] := by simp
theorem max_len {n : Nat} (h : n ≤ 4294967296) : n ≤ 9223372036854775807 := Nat.le_trans h (by decide)
attribute [push_cast] drop_zero' take_one' List.any_cons List.any_nil Bool.or_self
theorem killO_box (r : Root) (sz : Nat) (R : List (List C)) : killO r ⟨.box, sz, R⟩ = if hasRows r R = true then ⟨.box, sz, R.map fun row => row.map (killC r)⟩ else ⟨.box, sz, R⟩ := rfl
theorem killO_sl (r : Root) (sz : Nat) (R : List (List C)) : killO r ⟨.sl, sz, R⟩ = ⟨.sl, sz, R⟩ := rfl
attribute [push_cast] killO_box killO_sl killL hasRows killC
attribute [push_cast] append_rs buildV buildCells buildS partsOk sized flatRows flatRow srcRows killV hasV hasX hasC delA
end Go.Rx
namespace Go.Rx
open Go.RowKit
variable {P : Program} {t : TypeId} {x y : Operand}
theorem bin_adds (a b : ByteArray) : binV P .add t x y (one (.v (.string a))) (one (.v (.string b))) = if a.size + b.size ≤ 9223372036854775807 then some (one (.v (.string (a ++ b)))) else binV' P .add t x y (one (.v (.string a))) (one (.v (.string b))) := by
  split
  · rename_i h
    have hn : ¬ (((a.size + b.size : Nat) : Int) > IntKind.i64.max) := by
      have : IntKind.i64.max = 9223372036854775807 := by decide
      rw [this]; omega
    simp only [binV, plain2, plain, eqGuard, binOp, Op.stringOp, bind, pure, if_neg hn]; rfl
  · rfl
def un2' := @un2
theorem index_str (s : ByteArray) (i : Nat) (k : IntKind) : un2 P (Instr.index t) (one (.v (.string s))) (one (.v (.int k (i : Int)))) = match P.underlying t with
    | some .string => match s[i]? with
      | some b => some (one (.v (.int .u8 b.toNat)))
      | none => un2' P (Instr.index t) (one (.v (.string s))) (one (.v (.int k (i : Int))))
    | _ => un2' P (Instr.index t) (one (.v (.string s))) (one (.v (.int k (i : Int)))) := by
  split
  · rename_i h
    split
    · rename_i b hb
      have hu : pureIn P (underlying t) = some .string := by
        show pureIn P (match P.underlying t with | some d => Sem.pure d | none => stuck "no such type") = _
        rw [h]; rfl
      have hi : pureIn P (asIntOf (.int k (i : Int))) = some (k, (i : Int)) := rfl
      have e : pureIn P (Instr.index t (.string s) (.int k (i : Int))) = some (.int .u8 b.toNat) := by
        unfold Instr.index
        refine (pure_bind' hi).trans ((pure_bind' hu).trans ?_)
        simp only [Int.natCast_nonneg, if_true, Int.toNat_natCast, hb]; rfl
      show Option.map ofVal (pureIn P (Instr.index t (.string s) (.int k (i : Int)))) = _
      rw [e]; rfl
    · rfl
  · rfl
attribute [push_cast] bin_adds index_str
end Go.Rx
namespace Go.Rx
open Go.RowKit
def Sbut (w : World) (b : Option Nat) : Gh := ⟨fun _ _ => none, fun k => k < w.heap.size ∧ some k ≠ b⟩
def ioR : Root := (0, 1)
def isV : C → Bool
  | .v _ => true
  | _ => false
def isVX : X → Bool
  | .one c => isV c
  | .agg cs => cs.all isV
def vR (R : List (List Value)) : List (List C) := R.map (·.map .v)
def Gat (w : World) (b : Option Nat) : Gh := ⟨fun r p => if r = ioR ∧ p = [] then b else if r = ioR ∧ p = [(0, 0)] ∧ b = none then some 0 else none, fun k => k < w.heap.size ∧ some k ≠ b⟩
def ioOb (k : Kind) (sz : Nat) (R : List (List Value)) : Obj' := ⟨k, sz, vR R⟩
def ioC (k : Kind) (sz len : Nat) : C := match k with | .box => .pt ioR [] sz 0 0 | _ => .rs ioR [] sz 0 len
def ioOk (k : Kind) (sz : Nat) (R : List (List Value)) : Prop := (k = .box ∧ 0 < R.length ∨ k = .sl) ∧ ∀ i, i < R.length → (R.getD i []).length = sz
def IoAt (w : World) (b : Option Nat) (k : Kind) (sz len : Nat) (y : Value) : Prop := match k with
  | .box => ∃ b', b = some b' ∧ y = .pointer (some ⟨b', 0, none⟩)
  | _ => SlAt (Gat w b) w ioR [] sz 0 len y
def IoFn (P : Program) (f : FuncId) (k : Kind) (sz : Nat) (R : List (List Value)) (args : List X) (R' : List (List Value)) (ret : List X) : Prop :=
  Callable P f ∧ R'.length = R.length ∧ ioOk k sz R' ∧ ∀ (w : World) (b : Option Nat) [Tb P (Gat w b) w] (y : Value) (ys : List Value), IoAt w b k sz R.length y → (b = none → R = []) →
    (∀ b', b = some b' → ∃ cells e fz, w.heap[b']? = some (.cells cells e fz) ∧ Thaw fz cells.size ∧ R.length * sz ≤ cells.size ∧ ∀ i j, i < R.length → j < sz → cells.getD (i * sz + j) undef = (R.getD i []).getD j undef) →
    ys.length = args.length → (∀ i, i < args.length → XR w [] (Sbut w b) (args.getD i (.one .bad)) (ys.getD i undef)) →
    Calls P f (y :: ys).toArray w fun en w' => ∃ g zs, en = .returned (packV (packX ret zs)) ∧ RetR w' g ret zs ∧ Keep (Sbut w b) w g w' ∧
      ∀ b', b = some b' → ¬ g.S b' ∧ (∀ r p m K, Live (retStore ret) r p m K → g.G r p ≠ some b') ∧ ∀ cells e fz, w.heap[b']? = some (.cells cells e fz) →
        ∃ cells', w'.heap[b']? = some (.cells cells' e fz) ∧ cells'.size = cells.size ∧ ∀ i j, i < R'.length → j < sz → cells'.getD (i * sz + j) undef = (R'.getD i []).getD j undef
section
variable {P : Program} {w w0 w' : World} {g g0 gr : Gh} {σ : St} {a : Act} {o : Store}
theorem XR.ofV {o o' : Store} {g g' : Gh} {w w' : World} {x : X} {y : Value} (h : isVX x = true) (hx : XR w o g x y) : XR w' o' g' x y := by
  have cell : ∀ {c : C} {y : Value}, isV c = true → CR w o g none c y → CR w' o' g' none c y := fun {c y} h hc => by
    cases c <;> first | exact hc | cases h
  cases x with
  | one c => exact cell h hx
  | agg cs =>
    obtain ⟨ys, e1, e2, e3⟩ := hx
    refine ⟨ys, e1, e2, fun j hj => cell ?_ (e3 j hj)⟩
    have := List.all_eq_true.1 h (cs.getD j .bad)
    refine this ?_
    rw [List.getD_eq_getElem?_getD, List.getElem?_eq_getElem hj]; exact List.getElem_mem hj
theorem vR_length (R : List (List Value)) : (vR R).length = R.length := by simp [vR]
theorem vR_getD (R : List (List Value)) (i : Nat) : (vR R).getD i [] = (R.getD i []).map .v := by
  simp only [vR, List.getD_eq_getElem?_getD, List.getElem?_map]
  cases R[i]? <;> rfl
theorem vs_getD (r : List Value) (j : Nat) (hj : j < r.length) : (r.map C.v).getD j .bad = .v (r.getD j undef) := by
  simp [List.getD_eq_getElem?_getD, List.getElem?_map, List.getElem?_eq_getElem hj]
theorem cellAt_vR {R : List (List Value)} {i j : Nat} (hj : j < (R.getD i []).length) : cellAt (vR R) i j = .v ((R.getD i []).getD j undef) := by
  unfold cellAt; rw [vR_getD, vs_getD _ _ hj]
theorem noOwn_vR (R : List (List Value)) : noOwn (vR R) := by
  intro i j m Q hi hj hq
  rw [vR_getD, List.length_map] at hj
  rw [cellAt_vR hj] at hq; cases hq
theorem okObj_io {k : Kind} {sz : Nat} {R : List (List Value)} (h : ioOk k sz R) : okObj (ioOb k sz R) = true := by
  rcases h.1 with ⟨rfl, _⟩ | rfl
  · simp only [okObj, ioOb, vR, List.all_map, List.all_eq_true, Function.comp_apply]
    intro r _ c _; rfl
  · simp only [okObj, ioOb, vR]
    rw [nrRR_all]
    simp only [List.all_map, List.all_eq_true, Function.comp_apply]
    intro r hr
    clear hr
    induction r with
    | nil => rfl
    | cons x r ih => simp [nrR, nr, ih]
theorem Gat_G (w : World) (b : Option Nat) : (Gat w b).G ioR [] = b := by simp [Gat]
def enterIO (fn : Func) (k : Kind) (sz : Nat) (R : List (List Value)) (args : List X) : St :=
  ⟨.x (.one (ioC k sz R.length)) :: (args.map .x ++ List.replicate (fn.ntmps - (args.length + 1)) (.x (.one .bad))), 1, [], [(ioR, ioOb k sz R)]⟩
theorem retG_some {cs : List C} {p : Path} {b : Nat} (h : (retG g cs).G rho p = some b) : ∃ j q r' p' s o l, p = (0, j) :: q ∧ cs.getD j .bad = .rs r' p' s o l ∧ g.G r' (p' ++ q) = some b := by
  simp only [retG, if_true] at h
  split at h
  · rename_i j q
    split at h
    · rename_i r' p' s o l hc
      exact ⟨j, q, r', p', s, o, l, rfl, hc, h⟩
    · cases h
  · cases h
theorem Rel.enterIO (fn : Func) {k : Kind} {sz : Nat} {R : List (List Value)} {args : List X} {y : Value} {ys : List Value} {b : Option Nat} (hok : ioOk k sz R) (hy : IoAt w b k sz R.length y) (hn : b = none → R = [])
    (hb : ∀ b', b = some b' → ∃ cells e fz, w.heap[b']? = some (.cells cells e fz) ∧ Thaw fz cells.size ∧ R.length * sz ≤ cells.size ∧ ∀ i j, i < R.length → j < sz → cells.getD (i * sz + j) undef = (R.getD i []).getD j undef)
    (hl : ys.length = args.length) (hx : ∀ i, i < args.length → XR w [] (Sbut w b) (args.getD i (.one .bad)) (ys.getD i undef)) (hv : args.all isVX = true) :
    Rel (Gat w b) w (enterIO fn k sz R args) (Gat w b) { tmps := (y :: ys).toArray ++ Array.replicate (fn.ntmps - (y :: ys).toArray.size) undef, defers := [] } w := by
  have hget : ∀ r, getA (Rx.enterIO fn k sz R args).o r = if ioR = r then some (ioOb k sz R) else none := fun r => rfl
  have hlive : Live (Rx.enterIO fn k sz R args).o ioR [] sz (vR R) := ⟨ioOb k sz R, by rw [hget, if_pos rfl], rfl⟩
  have hall : ∀ r p m Q, Live (Rx.enterIO fn k sz R args).o r p m Q → r = ioR ∧ p = [] ∧ m = sz ∧ Q = vR R := fun r p m Q ⟨ob, h1, h2⟩ => by
    rw [hget] at h1
    split at h1
    · rename_i e'
      cases h1
      exact ⟨e'.symm, rowsAt_noOwn (noOwn_vR R) h2⟩
    · cases h1
  have hG := Gat_G w b
  refine ⟨rfl, by simp [Rx.enterIO, hl]; omega, fun i hi => ?_, ⟨?_, ?_, ?_, ?_⟩, ⟨rfl, rfl, rfl, Nat.le_refl _, fun _ h => h, fun _ _ => rfl⟩, fun _ _ h => (by cases h), ?_, ?_, ?_, ?_⟩
  · cases i with
    | zero =>
      show XR w _ _ (.one (ioC k sz R.length)) _
      rcases hok.1 with ⟨rfl, hpos⟩ | rfl
      · obtain ⟨b', e1, e2⟩ := hy
        exact ⟨_, b', hlive, by rw [vR_length]; exact hpos, by rw [hG, e1], by simp [Array.getD, e2]⟩
      · exact ⟨_, hlive, by rw [vR_length, Nat.zero_add]; exact Nat.le_refl _, by
          have : (((y :: ys).toArray ++ Array.replicate (fn.ntmps - (y :: ys).toArray.size) undef).getD 0 undef) = y := by simp [Array.getD]
          rw [this]; exact hy⟩
    | succ i =>
      show VR w _ _ ((args.map V.x ++ List.replicate (fn.ntmps - (args.length + 1)) (V.x (.one .bad))).getD i (V.x (.one .bad))) _
      by_cases h : i < args.length
      · have := XR.ofV (o' := (Rx.enterIO fn k sz R args).o) (g' := Gat w b) (w' := w) (by
          refine List.all_eq_true.1 hv _ ?_
          rw [List.getD_eq_getElem?_getD, List.getElem?_eq_getElem h]; exact List.getElem_mem h) (hx i h)
        have h2 : i < ys.length := by omega
        simpa [List.getD_eq_getElem?_getD, List.getElem?_append_left, List.getElem?_map, h, Array.getD_eq_getD_getElem?, Array.getElem?_append, h2, VR] using this
      · have : (args.map V.x ++ List.replicate (fn.ntmps - (args.length + 1)) (V.x (.one .bad))).getD i (V.x (.one .bad)) = .x (.one .bad) := by
          rw [List.getD_eq_getElem?_getD, List.getElem?_append_right (by simpa using h)]
          simp only [List.getElem?_replicate]
          split <;> rfl
        rw [this]; trivial
  · intro r p m Q b' hlv hg
    obtain ⟨rfl, rfl, rfl, rfl⟩ := hall r p m Q hlv
    rw [hG] at hg; subst hg
    obtain ⟨cells, e, fz, h1, h2, h3, h4⟩ := hb b' rfl
    refine ⟨fun h => h.2 rfl, fun i hi => ?_, cells, e, fz, h1, h2, by rw [vR_length]; exact h3, fun i j hi hj => ?_⟩
    · rw [vR_length] at hi; rw [vR_getD, List.length_map]; exact hok.2 i hi
    · rw [vR_length] at hi
      rw [cellAt_vR (by rw [hok.2 i hi]; exact hj)]
      exact h4 i j hi hj
  · intro r p ob m Q h1 h2 hg
    obtain ⟨rfl, rfl, _, rfl⟩ := hall r p m Q ⟨ob, h1, h2⟩
    rw [hG] at hg
    rw [hn hg]; exact .inl rfl
  · intro r p m Q r' p' m' Q' b' hl1 hl2 _ _
    obtain ⟨rfl, rfl, _⟩ := hall _ _ _ _ hl1
    obtain ⟨rfl, rfl, _⟩ := hall _ _ _ _ hl2
    exact ⟨rfl, rfl⟩
  · exact fun k hk => hk.1
  · intro r ob h
    have h' : (if ioR = r then some (ioOb k sz R) else none) = some ob := h
    split at h'
    · rename_i e'; rw [← e']; exact Nat.zero_lt_one
    · cases h'
  · intro r ob h
    rw [hget] at h
    split at h
    · cases h; exact okObj_io hok
    · cases h
  · refine MapsOk.of_none fun r ob h1 => ?_
    rw [hget] at h1
    split at h1
    · cases h1
      rcases hok.1 with ⟨e, _⟩ | e <;> rw [show (ioOb k sz R).kind = k from rfl, e] <;> rfl
    · cases h1
  · have er : ∀ r ob, getA [(ioR, ioOb k sz R)] r = some ob → r = ioR := fun r ob ho => by
      have h0 : (if ioR = r then some (ioOb k sz R) else none) = some ob := ho
      split at h0
      · rename_i e; exact e.symm
      · cases h0
    refine ⟨fun r b' hb' ob ho => ⟨hb', fun cs e2 f2 hcs => ⟨cs, hcs, rfl⟩⟩, fun r hb' ob ho => ?_, fun r ob ho => ?_⟩
    · obtain rfl := er r ob ho
      rw [Gat_G]
      cases b with
      | none => rfl
      | some b' => simp [Gat] at hb'
    · obtain rfl := er r ob ho
      cases b with
      | none => exact .inr (by simp [Gat])
      | some b' => exact .inl ⟨b', Gat_G w _⟩
def notIo (cs : List C) : Bool := cs.all fun c => match c with | .rs r _ _ _ _ => decide (r ≠ ioR) | _ => true
theorem IoFn_of_WW {f : FuncId} {fn : Func} {c : Code} (hf : P.funcs[f]? = some fn) (hb : fn.body = some c) (hn : fn.name ≠ "runtime.NumGoroutine") {k : Kind} {sz : Nat} {R R' : List (List Value)} {args ret : List X}
    (hok : ioOk k sz R) (hok' : ioOk k sz R') (hv : args.all isVX = true) (hlen : R'.length = R.length)
    (h : W wop wdraw P c (enterIO fn k sz R args) fun e σ0 => (e = .normal ∨ e = .ret) ∧ ∃ σ, Weak σ0 σ ∧ getA σ.g ioR = some (ioOb k sz R') ∧ ∃ xr, resXs P σ fn.results.toList = some xr ∧ expXs σ.o xr = some ret ∧ apartAll ((retRow xr).map locC) = true ∧ notIo (retRow xr) = true) : IoFn P f k sz R args R' ret := by
  refine ⟨⟨fn, hf, hn, by rw [hb]; rfl⟩, hlen, hok', fun w b _ y ys hy hnone hbl hl hx => ?_⟩
  refine calls_of_wp hf hb (wp_mono (W_sound (g0 := Gat w b) (w0 := w) wop_sound wdraw_sound c _ _ _ _ _ h (Rel.enterIO fn hok hy hnone hbl hl hx hv)) fun e' a' w' hp => ?_)
  obtain ⟨e1, h1, σ0, g0, ⟨h2, σ, hwk, hio, xr, h4, h5, h6, h7⟩, h30⟩ := hp
  obtain ⟨g, h3⟩ := hwk _ _ _ _ _ h30
  have fin : a'.defers = [] ∧ ∃ v, (results fn a'.tmps).run P w' = .ok v w' ∧ ∃ gr zs, Ending.returned v = .returned (packV (packX ret zs)) ∧ RetR w' gr ret zs ∧ Keep (Sbut w b) w gr w' ∧
      ∀ b', b = some b' → ¬ gr.S b' ∧ (∀ r p m K, Live (retStore ret) r p m K → gr.G r p ≠ some b') ∧ ∀ cells e fz, w.heap[b']? = some (.cells cells e fz) →
        ∃ cells', w'.heap[b']? = some (.cells cells' e fz) ∧ cells'.size = cells.size ∧ ∀ i j, i < R'.length → j < sz → cells'.getD (i * sz + j) undef = (R'.getD i []).getD j undef := by
    refine ⟨h3.defers, ?_⟩
    obtain ⟨us, k1, k2, k3⟩ := resXs_run (P := P) h3 (F := resF a'.tmps) (fun _ => rfl) (fun _ _ => rfl) fn.results.toList xr h4
    obtain ⟨f1, f2, f3, f4⟩ := flatY_rel xr ret us h5 k2 k3
    have hdg : 0 < σ.d := h3.out ioR _ hio
    have hlo : getA σ.l ioR = none := by
      cases hq : getA σ.l ioR with
      | none => rfl
      | some ob => have := h3.loc _ _ hq; simp [ioR] at this; omega
    have hgo : getA σ.o ioR = some (ioOb k sz R') := by
      show getA (σ.l ++ σ.g) ioR = _
      rw [getA_append, hlo]; exact hio
    have hlv : Live σ.o ioR [] sz (vR R') := ⟨_, hgo, rfl⟩
    refine ⟨packV us, ?_, retG g (retRow xr), flatY xr us, by rw [f3], export_rel h3.heap (fun r ob hr hk => by have := h3.obj r ob hr; simp [okObj, hk] at this) f2 h6 f1 f4, ?_, fun b' hbb => ?_⟩
    · have hm : ∀ F : ResultVar → Sem Value, (∀ t, F (.tmp t) = pure (a'.tmps.getD t undef)) → (∀ b t, F (.cell b t) = do loadVar t (← asAddr (a'.tmps.getD b undef))) → (fn.results.mapM F).run P w' = .ok us.toArray w' := by
        intro F F1 F2
        have : F = resF a'.tmps := funext fun r => by
          cases r with
          | tmp t => exact F1 t
          | cell b t => exact F2 b t
        rw [this, Array.mapM_eq_mapM_toList, Sem.run_map, k1]; rfl
      unfold results
      rw [Sem.run_bind, hm _ (fun _ => rfl) (fun _ _ => rfl), Result.andThen_ok, Sem.run_pure]
      congr 1
      match us with
      | [] => rfl
      | [u] => rfl
      | u :: v :: us => simp [packV]
    · exact ⟨h3.keep.os, h3.keep.tape, h3.keep.output, h3.keep.size, h3.keep.S, h3.keep.block⟩
    · subst hbb
      obtain ⟨p2, p3⟩ := h3.pin.at_ ioR b' (Gat_G w (some b')) _ hio
      obtain ⟨r1, r2, cells2, e2, fz2, r3, r4, r5, r6⟩ := h3.heap.rows ioR [] _ _ b' hlv p2
      refine ⟨r1, fun r p m K hlr hg => ?_, fun cells e fz hcells => ?_⟩
      · by_cases hr : r = rho
        · subst hr
          obtain ⟨j, q, r', p', s', o', l', rfl, hcell, hg'⟩ := retG_some hg
          have hmem : (retRow xr).getD j .bad ∈ retRow xr := by
            by_cases hj : j < (retRow xr).length
            · rw [List.getD_eq_getElem?_getD, List.getElem?_eq_getElem hj]; exact List.getElem_mem hj
            · rw [List.getD_eq_getElem?_getD, List.getElem?_eq_none (by omega)] at hcell; cases hcell
          have hne := List.all_eq_true.1 h7 _ hmem
          rw [hcell] at hne
          have hne' : r' ≠ ioR := by simpa using hne
          have hjl : j < (retRow xr).length := by
            rcases Nat.lt_or_ge j (retRow xr).length with h' | h'
            · exact h'
            · rw [List.getD_eq_getElem?_getD, List.getElem?_eq_none h'] at hcell; cases hcell
          obtain ⟨ob, hb1, hb2⟩ := hlr
          have hob : ob = ⟨.vr, (retRow ret).length, [retRow ret]⟩ := by
            simp only [retStore, getA, if_true] at hb1; exact (Option.some.inj hb1).symm
          subst hob
          simp only [rowsAt] at hb2
          split at hb2
          · rename_i s R hbnd
            obtain ⟨_, m2, m3⟩ := bind_cell hbnd
            have m3' : (retRow ret).getD j .bad = .own s R := by simpa [cellAt] using m3
            have hexp := expR_get f2 j hjl
            rw [m3'] at hexp
            obtain ⟨r3, p3', e3, e4, _⟩ := expC_own hexp
            rw [hcell] at e3
            cases e3
            obtain ⟨ob3, o1, o2⟩ := e4
            have hlv2 : Live σ.o r' (p' ++ q) m K := ⟨ob3, o1, rowsAt_append o2 hb2⟩
            exact hne' (h3.heap.inj _ _ _ _ _ _ _ _ b' hlv2 hlv hg' p2).1
          · cases hb2
        · simp [retG, hr] at hg
      · obtain ⟨cells', q1, q2⟩ := p3 cells e fz hcells
        rw [q1] at r3
        cases r3
        refine ⟨_, q1, q2, fun i j hi hj => ?_⟩
        have := r6 i j (by rw [vR_length]; exact hi) hj
        rw [cellAt_vR (by rw [hok'.2 i hi]; exact hj)] at this
        exact this
  cases e' with
  | normal => exact fin
  | ret => exact fin
  | exit id => cases h1; rcases h2 with h2 | h2 <;> cases h2
  | _ => cases h1
def ioFin (P : Program) (fn : Func) (k : Kind) (sz : Nat) (R' : List (List Value)) (ret : List X) (σ : St) : Prop :=
  getA σ.g ioR = some (ioOb k sz R') ∧ ∃ xr, resXs P σ fn.results.toList = some xr ∧ expXs σ.o xr = some ret ∧ apartAll ((retRow xr).map locC) = true ∧ notIo (retRow xr) = true
theorem IoFn_of_Go {f : FuncId} {fn : Func} {c : Code} (hf : P.funcs[f]? = some fn) (hb : fn.body = some c) (hn : fn.name ≠ "runtime.NumGoroutine") (hm : P.follows .mixedOrders = true) (hd : drawsOk c = true) {k : Kind} {sz : Nat} {R R' : List (List Value)} {args ret : List X}
    (hok : ioOk k sz R) (hok' : ioOk k sz R') (hv : args.all isVX = true) (hlen : R'.length = R.length)
    (h : Go P (slim c) [] (enterIO fn k sz R args) fun e σ => (e = .normal ∨ e = .ret) ∧ ioFin P fn k sz R' ret σ) : IoFn P f k sz R args R' ret :=
  IoFn_of_WW hf hb hn hok hok' hv hlen (Wmono c _ _ _ (fun _ _ hq => ⟨hq.1, _, Weak.refl _, hq.2⟩) (WS_sound hm c hd _ _ h))
end
end Go.Rx
namespace Go.Rx
open Go.RowKit
section
variable {P : Program} {w w0 w' : World} {g g0 gr : Gh} {σ : St} {a : Act} {o : Store}
def ioSt (σ : St) (r : Root) (R' : List (List Value)) : St := setRows σ r [] (vR R')
theorem CR.moreS {S' : Nat → Prop} {r : Root} {p : Path} {i j : Nat} {c : C} {y : Value} (hS : ∀ k, g.S k → S' k) (h : CR w o g (some (r, p, i, j)) c y) : CR w o { g with S := S' } (some (r, p, i, j)) c y := by
  cases c with
  | v x => exact h
  | sh s R => exact Sh.mono (fun k hk => ⟨hS k hk, rfl⟩) h
  | ps cs => exact Sh.mono (fun k hk => ⟨hS k hk, rfl⟩) h
  | own s R => exact h
  | rs r p s o l => exact h
  | pt r p s row off => exact h
  | bad => trivial
theorem Rel.ext' {τ τ' : St} (ht : τ'.t = τ.t ∧ τ'.d = τ.d) (hl : (∀ r, getA τ'.l r = getA τ.l r) ∧ ∀ r, getA τ'.g r = getA τ.g r) (h : Rel g0 w0 τ g a w) : Rel g0 w0 τ' g a w := by
  have ho : ∀ r, getA τ'.o r = getA τ.o r := fun r => by
    show getA (τ'.l ++ τ'.g) r = getA (τ.l ++ τ.g) r
    rw [getA_append, getA_append, hl.1, hl.2]
  have hlive : ∀ r p m K, Live τ'.o r p m K ↔ Live τ.o r p m K := fun r p m K => by unfold Live; rw [ho]
  have hgoes : Goes w τ.o g w τ'.o g := ⟨fun k hk => ⟨hk, rfl⟩, fun r p m K hK => ⟨⟨K, (hlive r p m K).2 hK, Nat.le_refl _⟩, rfl, fun b cs e f _ hb => ⟨cs, hb, rfl⟩⟩⟩
  refine ⟨h.defers, by rw [ht.1]; exact h.size, fun i hi => ?_, ⟨?_, ?_, ?_, h.heap.S⟩, h.keep, ?_, ?_, ?_, ?_, h.pin.goes hgoes fun r ob hr => ⟨ob, by rw [← hl.2]; exact hr⟩⟩
  · rw [ht.1] at hi ⊢; exact VR.goes hgoes (h.tmps i hi)
  · intro r p m K b hK hb
    have hK' := (hlive r p m K).1 hK
    obtain ⟨k1, k2, cs, e, f, k3, kf, k4, k5⟩ := h.heap.rows r p m K b hK' hb
    exact ⟨k1, k2, cs, e, f, k3, kf, k4, fun i j hi hj => CR.goesAt hgoes hK' hi (by rw [k2 i hi]; exact hj) (k5 i j hi hj)⟩
  · intro r p ob m K h1 h2 h3
    rw [ho] at h1; exact h.heap.none r p ob m K h1 h2 h3
  · intro r p m K r' p' m' K' b h1 h2
    exact h.heap.inj _ _ _ _ _ _ _ _ b ((hlive _ _ _ _).1 h1) ((hlive _ _ _ _).1 h2)
  · intro r ob hr; rw [hl.1] at hr; rw [ht.2]; exact h.loc r ob hr
  · intro r ob hr; rw [hl.2] at hr; rw [ht.2]; exact h.out r ob hr
  · intro r ob hr; rw [ho] at hr; exact h.obj r ob hr
  · exact h.maps.mono (fun r ob h1 h2 => ⟨ob, by rw [← ho]; exact h1, rfl⟩) (fun b arr cl h1 h2 => ⟨h1, h2⟩) (.same fun r p m K hl => ⟨_, _, (hlive r p m K).1 hl⟩)
theorem Rel.turn (h : Rel g0 w0 σ g a w) {r : Root} {kd : Kind} {sz : Nat} {R R' : List (List Value)} {b : Nat} {cells cells' : Array Value} {e : TypeId} {fz : Nat × Nat} (hob : getA σ.o r = some (ioOb kd sz R)) (hok' : ioOk kd sz R') (hlen : R'.length = R.length) (hg : g.G r [] = some b)
    (hb : w.heap[b]? = some (.cells cells e fz)) {w1 : World} (hb' : w1.heap[b]? = some (.cells cells' e fz)) (hcs : cells'.size = cells.size)
    (hcv : ∀ i j, i < R'.length → j < sz → cells'.getD (i * sz + j) undef = (R'.getD i []).getD j undef)
    (wos : w1.os = w.os) (wtape : w1.tape = w.tape) (wout : w1.output = w.output) (wsize : w1.heap.size = w.heap.size) (wother : ∀ k, k ≠ b → w1.heap[k]? = w.heap[k]?) :
    Rel g0 w0 (ioSt σ r R') g a w1 := by
  have hlv : Live σ.o r [] sz (vR R) := ⟨_, hob, rfl⟩
  obtain ⟨hnS, hrl, cells0, e0, fz0, hbl, hth, hsz, hcell⟩ := h.heap.rows r [] sz (vR R) b hlv hg
  rw [hb] at hbl
  cases hbl
  have hget : ∀ r', getA (ioSt σ r R').o r' = if r = r' then some (ioOb kd sz R') else getA σ.o r' := setRows_get hob [] (vR R')
  have hback : ∀ r' p m Q, Live (ioSt σ r R').o r' p m Q → (r' = r ∧ p = [] ∧ m = sz ∧ Q = vR R') ∨ (r' ≠ r ∧ Live σ.o r' p m Q) := by
    rintro r' p m Q ⟨ob, h1, h2⟩
    rw [hget] at h1
    by_cases er : r = r'
    · rw [if_pos er] at h1
      cases h1
      exact .inl ⟨er.symm, rowsAt_noOwn (noOwn_vR R') h2⟩
    · rw [if_neg er] at h1
      exact .inr ⟨fun e' => er e'.symm, ob, h1, h2⟩
  have hgoes : Goes w σ.o g w1 (ioSt σ r R').o g := by
    refine ⟨fun k hk => ⟨hk, wother k (fun e' => hnS (e' ▸ hk))⟩, fun r' p m K hl => ⟨?_, rfl, fun b' cs' e' f' _ hb2 => ?_⟩⟩
    · obtain ⟨ob, h1, h2⟩ := hl
      by_cases er : r = r'
      · subst er
        rw [hob] at h1
        cases h1
        obtain ⟨rfl, rfl, rfl⟩ := rowsAt_noOwn (noOwn_vR R) h2
        exact ⟨vR R', ⟨ioOb kd _ R', by rw [hget, if_pos rfl], rfl⟩, by show (vR R).length ≤ _; rw [vR_length, vR_length, hlen]; exact Nat.le_refl _⟩
      · exact ⟨K, ⟨ob, by rw [hget, if_neg er]; exact h1, h2⟩, Nat.le_refl _⟩
    · by_cases eb : b' = b
      · subst eb
        rw [hb] at hb2
        cases hb2
        exact ⟨cells', hb', hcs⟩
      · exact ⟨cs', by rw [wother b' eb]; exact hb2, rfl⟩
  refine ⟨h.defers, ?_, fun i hi => ?_, ⟨?_, ?_, ?_, ?_⟩, ⟨wos.trans h.keep.os, wtape.trans h.keep.tape, wout.trans h.keep.output, by rw [wsize]; exact h.keep.size, h.keep.S, fun k hk => ?_⟩, ?_, ?_, ?_, ?_, h.pin.goes hgoes fun r' ob' h' => ?_⟩
  · rw [show (ioSt σ r R').t = σ.t from (setRows_t r [] _).1]; exact h.size
  · rw [show (ioSt σ r R').t = σ.t from (setRows_t r [] _).1] at hi ⊢
    exact VR.goes hgoes (h.tmps i hi)
  · intro r' p m Q b' hl hg'
    rcases hback r' p m Q hl with ⟨rfl, rfl, rfl, rfl⟩ | ⟨hne, hl'⟩
    · rw [hg] at hg'; cases hg'
      refine ⟨hnS, fun i hi => by rw [vR_length] at hi; rw [vR_getD, List.length_map]; exact hok'.2 i hi, cells', e, fz, hb', by rw [hcs]; exact hth, by rw [hcs, vR_length, hlen, ← vR_length R]; exact hsz, fun i j hi hj => ?_⟩
      rw [vR_length] at hi
      rw [cellAt_vR (by rw [hok'.2 i hi]; exact hj)]
      exact hcv i j hi hj
    · obtain ⟨k1, k2, cs, e', f', k3, kf, k4, k5⟩ := h.heap.rows r' p m Q b' hl' hg'
      have hbb : b' ≠ b := fun e1 => by subst e1; exact hne (h.heap.inj _ _ _ _ _ _ _ _ _ hl' hlv hg' hg).1
      exact ⟨k1, k2, cs, e', f', by rw [wother b' hbb]; exact k3, kf, k4, fun i j hi hj => CR.goesAt hgoes hl' hi (by rw [k2 i hi]; exact hj) (k5 i j hi hj)⟩
  · intro r' p ob m Q h1 h2 hg'
    rcases hback r' p m Q ⟨ob, h1, h2⟩ with ⟨rfl, rfl, rfl, rfl⟩ | ⟨hne, ob', h1', h2'⟩
    · rw [hg] at hg'; cases hg'
    · have : getA σ.o r' = some ob := by rw [hget, if_neg (fun e' => hne e'.symm)] at h1; exact h1
      rw [this] at h1'; cases h1'
      exact h.heap.none r' p ob m Q this h2' hg'
  · intro r1 p1 m1 Q1 r2 p2 m2 Q2 b' hl1 hl2 hg1 hg2
    have old : ∀ r' p m Q, Live (ioSt σ r R').o r' p m Q → ∃ m' Q', Live σ.o r' p m' Q' := fun r' p m Q hl => by
      rcases hback r' p m Q hl with ⟨rfl, rfl, rfl, rfl⟩ | ⟨_, hl'⟩
      · exact ⟨_, _, hlv⟩
      · exact ⟨_, _, hl'⟩
    obtain ⟨_, _, k1⟩ := old _ _ _ _ hl1
    obtain ⟨_, _, k2⟩ := old _ _ _ _ hl2
    exact h.heap.inj _ _ _ _ _ _ _ _ b' k1 k2 hg1 hg2
  · intro k hk; rw [wsize]; exact h.heap.S k hk
  · rw [wother k (fun e' => hnS (e' ▸ h.keep.S k hk))]; exact h.keep.block k hk
  · rw [show (ioSt σ r R').d = σ.d from (setRows_t r [] _).2]; exact (setRows_loc h.loc h.out r [] (vR R')).1
  · rw [show (ioSt σ r R').d = σ.d from (setRows_t r [] _).2]; exact (setRows_loc h.loc h.out r [] (vR R')).2
  · intro r' ob hr
    rw [hget] at hr
    split at hr
    · cases hr; exact okObj_io hok'
    · exact h.obj r' ob hr
  · refine h.maps.mono (fun r' ob' h1 h2 => ?_) (fun b2 arr cl h1 h2 => ⟨?_, h2⟩) (.ext (fun k _ hk => wother k fun e => hk r [] sz (vR R) hlv (e ▸ hg)) (fun _ _ hs => hs) fun r' p m Q k hl hG _ => (by
      rcases hback r' p m Q hl with ⟨rfl, rfl, rfl, rfl⟩ | ⟨_, hl'⟩
      · exact ⟨_, _, _, _, hlv, hG⟩
      · exact ⟨_, _, _, _, hl', hG⟩))
    · rw [hget] at h1
      split at h1
      · rename_i er
        cases h1
        exact ⟨ioOb kd sz R, er ▸ hob, rfl⟩
      · exact ⟨ob', h1, rfl⟩
    · rw [wother b2 (fun e' => by subst e'; rw [hb] at h1; cases h1)]; exact h1
  · unfold ioSt setRows at h'
    split at h'
    · exact ⟨ob', h'⟩
    · split at h'
      · simp only [getA_setA] at h'
        split at h'
        · cases hq : getA σ.g r' with
          | some x => exact ⟨x, rfl⟩
          | none => rw [hq] at h'; cases h'
        · exact ⟨ob', h'⟩
      · exact ⟨ob', h'⟩
theorem Rel.io (h : Rel g0 w0 σ g a w) {r : Root} {kd : Kind} {sz : Nat} {R R' : List (List Value)} {b : Option Nat} {ret : List X} {zs : List Value} (hob : getA σ.o r = some (ioOb kd sz R)) (hg : g.G r [] = b) (hbn : b = none → R = [])
    (hlen : R'.length = R.length) (hok' : ioOk kd sz R') (hk : Keep (Sbut w b) w gr w') (hr : RetR w' gr ret zs)
    (hb : ∀ b', b = some b' → ¬ gr.S b' ∧ (∀ r p m K, Live (retStore ret) r p m K → gr.G r p ≠ some b') ∧ ∀ cells e fz, w.heap[b']? = some (.cells cells e fz) →
        ∃ cells', w'.heap[b']? = some (.cells cells' e fz) ∧ cells'.size = cells.size ∧ ∀ i j, i < R'.length → j < sz → cells'.getD (i * sz + j) undef = (R'.getD i []).getD j undef)
    (hpo : poR (retRow ret) = true) (N : Nat) (hf : freshR (ioSt σ r R').l (newRoots σ.d N 0 (retRow ret)) = true) :
    ∃ g', Rel g0 w0 (impSt (ioSt σ r R') N ret) g' a w' ∧ VR w' (impSt (ioSt σ r R') N ret).o g' (packT (impXs σ.d N 0 ret)) (packV (packX ret zs)) := by
  have hd : (ioSt σ r R').d = σ.d := (setRows_t r [] _).2
  -- the caller, with the rows turned, in a world between
  have mid : ∃ w1 : World, w1.os = w.os ∧ w1.tape = w.tape ∧ w1.output = w.output ∧ w1.heap.size = w.heap.size ∧ (∀ k, some k ≠ b → w1.heap[k]? = w.heap[k]?) ∧ (∀ k, some k = b → w1.heap[k]? = w'.heap[k]?) ∧ Rel g0 w0 (ioSt σ r R') g a w1 := by
    cases b with
    | none =>
      refine ⟨w, rfl, rfl, rfl, rfl, fun _ _ => rfl, fun k hk => (by cases hk), ?_⟩
      have hR := hbn rfl
      subst hR
      have hR' : R' = [] := List.eq_nil_of_length_eq_zero hlen
      subst hR'
      refine Rel.ext' ?_ ?_ h
      · show (setRows σ r [] (vR [])).t = σ.t ∧ (setRows σ r [] (vR [])).d = σ.d; exact setRows_t r [] _
      · unfold ioSt setRows
        have h0 : getA (σ.l ++ σ.g) r = some (ioOb kd sz []) := hob
        rw [getA_append] at h0
        cases hl : getA σ.l r with
        | some ob =>
          rw [hl] at h0
          cases h0
          refine ⟨fun r' => ?_, fun r' => rfl⟩
          simp only [getA_setA]
          split
          · rename_i e'; subst e'; rw [hl]; rfl
          · rfl
        | none =>
          rw [hl] at h0
          have h0' : getA σ.g r = some (ioOb kd sz []) := h0
          refine ⟨fun r' => (by simp only [h0']), fun r' => ?_⟩
          simp only [h0', getA_setA]
          split
          · rename_i e'; subst e'; rw [h0']; rfl
          · rfl
    | some b =>
      obtain ⟨_, _, hbv⟩ := hb b rfl
      have hlv : Live σ.o r [] sz (vR R) := ⟨_, hob, rfl⟩
      obtain ⟨hnS, hrl, cells, e, fz, hbl, hth, hsz, hcell⟩ := h.heap.rows r [] sz (vR R) b hlv hg
      obtain ⟨cells', hb', hcs, hcv⟩ := hbv cells e fz hbl
      let w1 : World := { w with heap := w.heap.setIfInBounds b (.cells cells' e fz) }
      have hlt := block_lt hbl
      have h1b : w1.heap[b]? = some (.cells cells' e fz) := by simp [w1, hlt]
      have h1o : ∀ k, k ≠ b → w1.heap[k]? = w.heap[k]? := fun k hk' => by
        simp only [w1]; rw [Array.getElem?_setIfInBounds_ne (Ne.symm hk')]
      refine ⟨w1, rfl, rfl, rfl, by simp [w1], fun k hk' => h1o k fun e' => hk' (by rw [e']), fun k hk' => by cases hk'; rw [h1b, hb'], ?_⟩
      exact h.turn hob hok' hlen hg hbl h1b hcs hcv rfl rfl rfl (by simp [w1]) h1o
  obtain ⟨w1, wos, wtape, wout, wsize, wother, wblk, hst⟩ := mid
  let gr' : Gh := { gr with S := fun k => gr.S k ∨ some k = b }
  have hS : ∀ k, gr.S k → gr'.S k := fun k h => .inl h
  have hk1 : Keep (Sall w1) w1 gr' w' := by
    refine ⟨hk.os.trans wos.symm, hk.tape.trans wtape.symm, hk.output.trans wout.symm, by rw [wsize]; exact hk.size, fun k hk' => ?_, fun k hk' => ?_⟩
    · have hk2 : k < w.heap.size := by have : k < w1.heap.size := hk'; rwa [wsize] at this
      by_cases e1 : some k = b
      · exact .inr e1
      · exact .inl (hk.S k ⟨hk2, e1⟩)
    · have hk2 : k < w.heap.size := by have : k < w1.heap.size := hk'; rwa [wsize] at this
      by_cases e1 : some k = b
      · exact (wblk k e1).symm
      · rw [wother k e1]; exact hk.block k ⟨hk2, e1⟩
  have hr1 : RetR w' gr' ret zs := by
    refine ⟨⟨fun r p m K b2 hl2 hg2 => ?_, hr.heap.none, hr.heap.inj, fun k hk' => ?_⟩, hr.nr, hr.len, fun j hj => CR.moreS hS (hr.cells j hj)⟩
    · obtain ⟨k1, k2, cs, e2, f2, k3, k4, k5, k6⟩ := hr.heap.rows r p m K b2 hl2 hg2
      refine ⟨fun hs => ?_, k2, cs, e2, f2, k3, k4, k5, fun i j hi hj => CR.moreS hS (k6 i j hi hj)⟩
      rcases hs with hs | hs
      · exact k1 hs
      · exact (hb b2 hs.symm).2.1 r p m K hl2 hg2
    · rcases hk' with hs | hs
      · exact hr.heap.S k hs
      · have hlv : Live σ.o r [] sz (vR R) := ⟨_, hob, rfl⟩
        obtain ⟨_, _, cells, e, fz, hbl, _⟩ := h.heap.rows r [] sz (vR R) k hlv (hg.trans hs.symm)
        exact Nat.lt_of_lt_of_le (block_lt hbl) hk.size
  obtain ⟨g', k1, k2, _⟩ := hst.take (N := N) hk1 hr1 hpo (by rw [hd]; exact hf)
  rw [hd] at k2
  exact ⟨g', k1, k2⟩
variable {k : List Fr} {Q : Ex → St → Prop}
def plainXs : List V → Option (List X)
  | [] => some []
  | .x x :: vs => if isVX x then (plainXs vs).map (x :: ·) else none
  | .tup _ :: _ => none
theorem plainXs_rel (h : Rel g0 w0 σ g a w) : ∀ (as : List Operand) (xs : List X), plainXs (as.map (ev σ)) = some xs →
    xs.length = as.length ∧ ∀ i, i < xs.length → ∀ (o' : Store) (g' : Gh), XR w o' g' (xs.getD i (.one .bad)) ((as.map a.eval).getD i undef)
  | [], xs, hv => by
    simp only [List.map_nil, plainXs, Option.some.injEq] at hv
    subst hv
    exact ⟨rfl, fun i hi => absurd hi (Nat.not_lt_zero _)⟩
  | q :: as, xs, hv => by
    have hr := ev_rel h q
    simp only [List.map_cons] at hv
    generalize ev σ q = v at hv hr
    cases v with
    | tup _ => simp [plainXs] at hv
    | x x =>
      simp only [plainXs] at hv
      split at hv
      · rename_i hp
        obtain ⟨xs', h2, rfl⟩ := Option.map_eq_some_iff.1 hv
        obtain ⟨e1, e2⟩ := plainXs_rel h as xs' h2
        refine ⟨by simp [e1], fun i hi o' g' => ?_⟩
        cases i with
        | zero => exact XR.ofV hp hr
        | succ i => simpa using e2 i (by simpa using hi) o' g'
      · cases hv
def ioArg (r : Root) (k : Kind) (sz len : Nat) : C := match k with | .box => .pt r [] sz 0 0 | _ => .rs r [] sz 0 len
theorem Rel.tbAt [Tb P g0 w0] (h : Rel g0 w0 σ g a w) {r : Root} {sz : Nat} {R : List (List C)} (hl : Live σ.o r [] sz R) : Tb P (Gat w (g.G r [])) w := (Tb.keep (P := P) h.keep).on fun x hx => ⟨⟨h.heap.S x hx, fun e => (h.heap.rows r [] sz R x hl e.symm).1 hx⟩, rfl⟩
theorem GoL_io {N : Tmp} {f : FuncId} {q : Operand} {as : List Operand} {as0 : Array Operand} {ats : Array TypeId} {ty : TypeId} {gd : Option (Tmp × Bool)} {l : List SOp} (r : Root) (kd : Kind) (sz : Nat) (R : List (List Value)) {args : List X} {R' : List (List Value)} {ret : List X}
    (has : as0.toList = q :: as) (hg : gdS σ.t ⟨some N, .call { callee := .value (.func f), args := as0, argTypes := ats }, ty, gd⟩ = some true) (hq : ev σ q = .x (.one (ioArg r kd sz R.length))) (hob : getA σ.o r = some ⟨kd, sz, vR R⟩) (hkd : kd = .box ∨ kd = .sl)
    (hv : plainXs (as.map (ev σ)) = some args) (hf : IoFn P f kd sz R args R' ret)
    (hp : poR (retRow ret) = true) (hr : freshR (ioSt σ r R').l (newRoots σ.d N 0 (retRow ret)) = true) (hk : GoL P l k (put (impSt (ioSt σ r R') N ret) (some N) (packT (impXs σ.d N 0 ret))) Q) :
    GoL P (⟨some N, .call { callee := .value (.func f), args := as0, argTypes := ats }, ty, gd⟩ :: l) k σ Q := by
  refine GoL_sem hg rfl fun g0 w0 _ g a w N' Q' hrel hnext => ?_
  obtain ⟨⟨fn, hfn, hname, hbody⟩, hlen, hok', h2⟩ := hf
  have hb : fn.body ≠ none := fun e => by simp [e] at hbody
  have hrun : (execOp a.eval (SOp.oper ⟨some N, .call { callee := .value (.func f), args := as0, argTypes := ats }, ty, gd⟩)).run P w = .ok (.enter f (as0.map a.eval)) w := by
    simp [SOp.oper, execOp, resolve, Deferred.ofValue, Act.eval, invoke, callFunc, program, hfn, hname, hb, Sem.run]
  have hpt := ev_rel hrel q
  rw [hq] at hpt
  have hlv2 : Live σ.o r [] sz (vR R) := ⟨_, hob, rfl⟩
  have hobk := hrel.obj r _ hob
  have hnone : g.G r [] = none → R = [] := fun hgn => by
    rcases hrel.heap.none r [] _ sz (vR R) hob rfl hgn with h | ⟨h, _⟩
    · have := congrArg List.length h; rw [vR_length] at this; exact List.eq_nil_of_length_eq_zero this
    · rcases hkd with e | e <;> rw [e] at h <;> cases h
  have hio : IoAt w (g.G r []) kd sz R.length (a.eval q) := by
    rcases hkd with rfl | rfl
    · obtain ⟨R2, b, hlv, _, hgb, hy⟩ := hpt
      exact ⟨b, hgb, by simpa using hy⟩
    · obtain ⟨R2, hlv, _, hs⟩ := hpt
      show SlAt _ w ioR [] sz 0 R.length _
      unfold SlAt at hs ⊢
      rw [Gat_G]
      exact hs
  obtain ⟨e1, e2⟩ := plainXs_rel hrel as args hv
  have := hrel.tbAt (P := P) (r := r) hlv2
  have hc := h2 w (g.G r []) (a.eval q) (as.map a.eval) hio hnone (fun b' hb' => by
    obtain ⟨_, hrl, cells, e, fz, hbl, hth, hsz, hcell⟩ := hrel.heap.rows r [] sz (vR R) b' hlv2 hb'
    rw [vR_length] at hsz hrl hcell
    refine ⟨cells, e, fz, hbl, hth, hsz, fun i j hi hj => ?_⟩
    have hj' : j < (R.getD i []).length := by have := hrl i hi; rw [vR_getD, List.length_map] at this; rw [this]; exact hj
    have := hcell i j hi hj
    rw [cellAt_vR hj'] at this
    exact this) (by simp [e1]) (fun i hi => e2 i hi _ _)
  have hargs : (a.eval q :: as.map a.eval).toArray = as0.map a.eval := by
    apply Array.ext'
    rw [Array.toList_map, has]; rfl
  rw [hargs] at hc
  unfold Oper.wp
  rw [hrun, Oper.upon_enter]
  refine hc.mono fun en w' he => ?_
  obtain ⟨gr, zs, rfl, hret, hkeep, c1⟩ := he
  obtain ⟨g', k1, k2⟩ := hrel.io (kd := kd) (sz := sz) hob rfl hnone hlen hok' hkeep hret c1 hp N hr
  exact hnext _ _ _ _ hk (k1.put (some N) k2)
end
end Go.Rx
namespace Go.Rx
open Go.RowKit
section
variable {P : Program} {t u : TypeId} {x y : Operand}
theorem bin_rem (k : IntKind) (a b : Int) : binV P .rem t x y (one (.v (.int k a))) (one (.v (.int k b))) = if b = 0 then binV' P .rem t x y (one (.v (.int k a))) (one (.v (.int k b))) else some (one (.v (.int k (a.tmod b)))) := by
  by_cases h : b = 0
  · rw [if_pos h]; rfl
  · simp [binV, plain2, plain, pureIn, eqGuard, binOp, Op.intDiv, ofVal, bind, pure, Sem.bind, h]
theorem bin_quo (k : IntKind) (a b : Int) : binV P .quo t x y (one (.v (.int k a))) (one (.v (.int k b))) = if b = 0 then binV' P .quo t x y (one (.v (.int k a))) (one (.v (.int k b))) else some (one (.v (.int k (k.wrap (a.tdiv b))))) := by
  by_cases h : b = 0
  · rw [if_pos h]; rfl
  · simp [binV, plain2, plain, pureIn, eqGuard, binOp, Op.intDiv, ofVal, bind, pure, Sem.bind, h]
theorem bin_and (k : IntKind) (a b : Int) : binV P .and t x y (one (.v (.int k a))) (one (.v (.int k b))) = some (one (.v (.int k (bits .and k a b)))) := by
  simp [binV, plain2, plain, pureIn, eqGuard, binOp, Op.intBits, ofVal, bind, pure, Sem.bind, bits]
theorem bin_or (k : IntKind) (a b : Int) : binV P .or t x y (one (.v (.int k a))) (one (.v (.int k b))) = some (one (.v (.int k (bits .or k a b)))) := by
  simp [binV, plain2, plain, pureIn, eqGuard, binOp, Op.intBits, ofVal, bind, pure, Sem.bind, bits]
theorem bin_xor (k : IntKind) (a b : Int) : binV P .xor t x y (one (.v (.int k a))) (one (.v (.int k b))) = some (one (.v (.int k (bits .xor k a b)))) := by
  simp [binV, plain2, plain, pureIn, eqGuard, binOp, Op.intBits, ofVal, bind, pure, Sem.bind, bits]
def shlI (k : IntKind) (a b : Int) : Int := k.wrap (a * 2 ^ (min b.toNat k.bits))
def shrI (k : IntKind) (a b : Int) : Int := a.fdiv (2 ^ (min b.toNat k.bits))
theorem bin_shl (k k' : IntKind) (a b : Int) : binV P .shl t x y (one (.v (.int k a))) (one (.v (.int k' b))) = if b < 0 then binV' P .shl t x y (one (.v (.int k a))) (one (.v (.int k' b))) else some (one (.v (.int k (shlI k a b)))) := by
  by_cases h : b < 0
  · rw [if_pos h]; rfl
  · simp [binV, plain2, plain, pureIn, eqGuard, binOp, Op.shift, ofVal, bind, pure, Sem.bind, h, shlI]
theorem bin_shr (k k' : IntKind) (a b : Int) : binV P .shr t x y (one (.v (.int k a))) (one (.v (.int k' b))) = if b < 0 then binV' P .shr t x y (one (.v (.int k a))) (one (.v (.int k' b))) else some (one (.v (.int k (shrI k a b)))) := by
  by_cases h : b < 0
  · rw [if_pos h]; rfl
  · simp [binV, plain2, plain, pureIn, eqGuard, binOp, Op.shift, ofVal, bind, pure, Sem.bind, h, shrI]
theorem un_neg (k : IntKind) (a : Int) : un1 P (Op.unary .neg) (one (.v (.int k a))) = some (one (.v (.int k (k.wrap (0 - a))))) := by
  simp [un1, plain, pureIn, Op.unary, Op.intArith, ofVal, pure]
section
variable (σ : St) (d : Option Tmp) (o : Store)
theorem cS_int (k : IntKind) (n : Int) : convS P σ d t u (one (.v (.int k n))) = (convV P σ.o t u (one (.v (.int k n)))).map (put σ d) := by
  unfold convS; cases tyElem P u <;> rfl
theorem cS_rs (r : Root) (p : Path) (sz off len : Nat) : convS P σ d t u (one (.rs r p sz off len)) = (convV P σ.o t u (one (.rs r p sz off len))).map (put σ d) := by
  unfold convS; cases tyElem P u <;> rfl
theorem cS_sh (sz : Nat) (R : List (List C)) : convS P σ d t u (one (.sh sz R)) = (convV P σ.o t u (one (.sh sz R))).map (put σ d) := by
  unfold convS; cases tyElem P u <;> rfl
theorem cS_str (s : ByteArray) (N : Tmp) : convS P σ (some N) t u (one (.v (.string s))) = match tyElem P u with
    | some e => match P.underlying t, P.underlying e with
      | some .string, some (.int .u8) => if fresh σ N = true ∧ s.size ≤ 281474976710656 then some (put (newSt σ N ⟨.sl, 1, byteRows s⟩) (some N) (slV σ N 1 s.size)) else none
      | _, _ => none
    | none => (convV P σ.o t u (one (.v (.string s)))).map (put σ (some N)) := by
  unfold convS
  cases tyElem P u with
  | none => rfl
  | some e =>
    simp only
    cases P.underlying t with
    | none => rfl
    | some a => cases P.underlying e with
      | none => cases a <;> rfl
      | some b => cases a <;> first | rfl | (cases b <;> first | rfl | (rename_i k; cases k <;> rfl))
def un1' := @un1
theorem cV_int (k : IntKind) (n : Int) : convV P o t u (one (.v (.int k n))) = match P.underlying t, P.underlying u with
    | some (.int _), some (.int k') => some (one (.v (.int k' (k'.wrap n))))
    | _, _ => un1' P (convert t u) (one (.v (.int k n))) := by
  show un1 P (convert t u) (one (.v (.int k n))) = _
  split
  · rename_i k2 k' h1 h2
    have e1 : pureIn P (underlying t) = some (.int k2) := by
      show pureIn P (match P.underlying t with | some d => Sem.pure d | none => stuck "no such type") = _
      rw [h1]; rfl
    have e2 : pureIn P (underlying u) = some (.int k') := by
      show pureIn P (match P.underlying u with | some d => Sem.pure d | none => stuck "no such type") = _
      rw [h2]; rfl
    have : pureIn P (convert t u (.int k n)) = some (.int k' (k'.wrap n)) := by
      unfold convert
      exact (pure_bind' e1).trans ((pure_bind' e2).trans rfl)
    simp only [un1, plain, this, Option.map_some]; rfl
  · rfl
theorem cV_rs (r : Root) (len : Nat) : convV P o t u (one (.rs r [] 1 0 len)) = match getA o r with
    | some ⟨_, 1, R⟩ => match nums (R.take len) with
      | some ns => match tyElem P t with
        | some e => match P.underlying e, P.underlying u with
          | some (.int .u8), some .string => some (one (.v (.string (strOfNums ns))))
          | _, _ => none
        | none => none
      | none => none
    | _ => none := by
  unfold convV
  simp only [bytesV]
  cases h : getA o r with
  | none => rfl
  | some ob =>
    obtain ⟨kd, sz, R⟩ := ob
    simp only [rowsAt]
    match sz with
    | 1 => simp only [if_true]; cases nums (R.take len) <;> rfl
    | 0 => rfl
    | n + 2 => rfl
theorem cV_sh (R : List (List C)) : convV P o t u (one (.sh 1 R)) = match nums R with
      | some ns => match tyElem P t with
        | some e => match P.underlying e, P.underlying u with
          | some (.int .u8), some .string => some (one (.v (.string (strOfNums ns))))
          | _, _ => none
        | none => none
      | none => none := by
  unfold convV
  simp only [bytesV]
  cases nums R <;> rfl
end
end
def byR (l : List UInt8) : List (List C) := l.map fun b => [.v (.int .u8 b.toNat)]
def natsOf (l : List UInt8) : List Int := l.map fun b => (b.toNat : Int)
theorem byR_length (l : List UInt8) : (byR l).length = l.length := by simp [byR]
theorem byR_nr (l : List UInt8) : nrRR (byR l) = true := nrRR_map _ (fun _ => rfl) l
theorem byR_po (l : List UInt8) : poRR (byR l) = true := poRR_map _ (fun _ => rfl) l
theorem byR_ts (l : List UInt8) : toShRR (byR l) = byR l := toShRR_map _ (fun _ => rfl) l
theorem byR_take (l : List UInt8) : (byR l).take l.length = byR l := List.take_of_length_le (by simp [byR])
theorem byR_nil : byR [] = [] := rfl
theorem byR_snoc (l : List UInt8) (b : UInt8) : byR l ++ [[.v (.int .u8 b.toNat)]] = byR (l ++ [b]) := by simp [byR]
theorem byteRows_byR (s : ByteArray) : byteRows s = byR s.data.toList := rfl
theorem nums_byR (l : List UInt8) : nums (byR l) = some (natsOf l) := by
  induction l with
  | nil => rfl
  | cons b l ih => show (nums (byR l)).map _ = _; rw [ih]; rfl
theorem str_natsOf (l : List UInt8) : strOfNums (natsOf l) = ⟨l.toArray⟩ := by
  unfold strOfNums natsOf
  congr 2
  rw [List.map_map]
  conv => rhs; rw [← List.map_id l]
  apply List.map_congr_left
  intro b _
  simp
def tp (n : Nat) (l : List (Nat × V)) : List V := l.foldl (fun t p => t.set p.1 p.2) (List.replicate n (.x (.one .bad)))
def bu (s : ByteArray) (i : Nat) : UInt8 := s.data.toList.getD i 0
theorem bu_get {s : ByteArray} {i : Nat} (h : i < s.size) : s[i]? = some (bu s i) := by
  have h2 : i < s.data.size := h
  rw [getElem?_pos s i h]
  show some (s.data[i]) = _
  unfold bu
  rw [List.getD_eq_getElem?_getD, Array.getElem?_toList, Array.getElem?_eq_getElem h2]; rfl
theorem wN {x : Int} {m : Nat} (h : x = (m : Int)) (hm : m ≤ 9223372036854775807) : IntKind.i64.wrap x = (m : Int) := by rw [h, IntKind.wrap_i64]; omega
theorem wu8 {n : Nat} : IntKind.u8.wrap (n : Int) = ((UInt8.ofNat n).toNat : Int) := by
  rw [IntKind.wrap_u8]; simp
theorem tmodN (a b : Nat) : (a : Int).tmod (b : Int) = ((a % b : Nat) : Int) := (Int.ofNat_tmod a b).symm
theorem tdivN (a b : Nat) : (a : Int).tdiv (b : Int) = ((a / b : Nat) : Int) := (Int.ofNat_tdiv a b).symm
attribute [push_cast] tp List.foldl_cons List.foldl_nil bin_shl bin_shr
attribute [push_cast] bin_rem bin_quo bin_and bin_or bin_xor un_neg cS_int cS_rs cS_sh cS_str cV_int cV_rs cV_sh nums byR_length byR_take nums_byR str_natsOf byR_nr byR_po byR_ts
attribute [push_cast] ioSt ioOb ioC ioArg enterIO ioFin notIo plainXs isVX isV ioR
end Go.Rx
namespace Go.Rx
open Go.RowKit
def renR (a b q : Root) : Root := if q = a then b else q
def renC (a b : Root) : C → C
  | .rs r p sz off len => .rs (renR a b r) p sz off len
  | .pt r p sz row off => .pt (renR a b r) p sz row off
  | c => c
def renX (a b : Root) : X → X
  | .one c => .one (renC a b c)
  | .agg cs => .agg (cs.map (renC a b))
def renV (a b : Root) : V → V
  | .x x => .x (renX a b x)
  | .tup xs => .tup (xs.map (renX a b))
def renO (a b : Root) (ob : Obj') : Obj' := { ob with rows := ob.rows.map (·.map (renC a b)) }
def renL (a b : Root) : Store → Store
  | [] => []
  | (k, ob) :: l => (renR a b k, renO a b ob) :: renL a b l
section
variable {a b : Root}
theorem renR_back {q : Root} (h : q ≠ b) : renR b a (renR a b q) = q := by
  unfold renR
  by_cases e : q = a
  · subst e; simp
  · simp [e, h]
theorem getA_renL {l : Store} (hb : getA l b = none) (q : Root) : getA (renL a b l) q = if q = a ∧ a ≠ b then none else (getA l (renR b a q)).map (renO a b) := by
  induction l with
  | nil => simp [renL, getA]
  | cons x l ih =>
    obtain ⟨k, ob⟩ := x
    have hkb : k ≠ b := fun e => by subst e; simp [getA] at hb
    have hb' : getA l b = none := by simp only [getA, if_neg hkb] at hb; exact hb
    have ih := ih hb'
    simp only [renL, getA]
    by_cases hk : k = a
    · subst hk
      have e1 : renR k b k = b := by simp [renR]
      rw [e1]
      by_cases hq : b = q
      · subst hq
        have e2 : renR b k b = k := by simp [renR]
        rw [e2, if_pos rfl, if_pos rfl, if_neg (fun h => hkb h.1.symm)]; rfl
      · rw [if_neg hq, ih]
        have hq' : q ≠ b := fun e => hq e.symm
        have e2 : renR b k q = q := by simp [renR, hq']
        rw [e2]
        by_cases hqk : q = k
        · subst hqk; rw [if_pos ⟨rfl, hkb⟩, if_pos ⟨rfl, hkb⟩]
        · rw [if_neg (fun h => hqk h.1), if_neg (fun h => hqk h.1), if_neg (fun e => hqk e.symm)]
    · have e1 : renR a b k = k := by simp [renR, hk]
      rw [e1, ih]
      by_cases hq : k = q
      · subst hq
        have e2 : renR b a k = k := by simp [renR, hkb]
        rw [if_pos rfl, e2, if_pos rfl, if_neg (fun h => hk h.1)]; rfl
      · rw [if_neg hq]
        by_cases hqa : q = a ∧ a ≠ b
        · rw [if_pos hqa, if_pos hqa]
        · rw [if_neg hqa, if_neg hqa]
          have : k ≠ renR b a q := by
            unfold renR
            by_cases e : q = b
            · rw [if_pos e]; exact hk
            · rw [if_neg e]; exact hq
          rw [if_neg this]
end
theorem nr_renC {a b : Root} {c : C} (h : nr c = true) : renC a b c = c := by cases c <;> first | rfl | simp [nr] at h
theorem renC_own {a b : Root} {c : C} {sz : Nat} {R : List (List C)} : renC a b c = .own sz R ↔ c = .own sz R := by cases c <;> simp [renC]
theorem renC_ne {a b : Root} {c : C} {r : Root} (h : refRoot c = some r) (hn : r ≠ a) : renC a b c = c := by
  cases c with
  | rs r2 p sz off len =>
    have : r2 = r := by simpa [refRoot] using h
    subst this; simp [renC, renR, hn]
  | pt r2 p sz row off =>
    have : r2 = r := by simpa [refRoot] using h
    subst this; simp [renC, renR, hn]
  | _ => rfl
theorem cellAt_ren {a b : Root} {R : List (List C)} {i j : Nat} : cellAt (R.map (·.map (renC a b))) i j = renC a b (cellAt R i j) := by
  unfold cellAt
  simp only [List.getD_eq_getElem?_getD, List.getElem?_map]
  cases hi : R[i]? with
  | none => rfl
  | some row =>
    simp only [Option.map_some, Option.getD_some, List.getElem?_map]
    cases row[j]? <;> rfl
theorem rowsAt_ren {a b : Root} {p : Path} {sz n : Nat} {R Q : List (List C)} (h : rowsAt sz (R.map (·.map (renC a b))) p = some (n, Q)) : ∃ Q0, rowsAt sz R p = some (n, Q0) ∧ ((p = [] ∧ Q = Q0.map (·.map (renC a b))) ∨ (p ≠ [] ∧ Q = Q0)) := by
  cases p with
  | nil =>
    simp only [rowsAt, Option.some.injEq, Prod.mk.injEq] at h ⊢
    obtain ⟨rfl, rfl⟩ := h
    exact ⟨R, ⟨rfl, rfl⟩, .inl ⟨trivial, rfl⟩⟩
  | cons x p =>
    obtain ⟨i, j⟩ := x
    simp only [rowsAt] at h
    split at h
    · rename_i s K hb
      obtain ⟨k1, k2, k3⟩ := bind_cell hb
      rw [cellAt_ren, renC_own] at k3
      have k1' : i < R.length := by simpa using k1
      have k2' : j < (R.getD i []).length := by
        simp only [List.getD_eq_getElem?_getD, List.getElem?_map, List.getElem?_eq_getElem k1', Option.map_some, Option.getD_some, List.length_map] at k2 ⊢
        exact k2
      refine ⟨Q, ?_, .inr ⟨by simp, rfl⟩⟩
      simp only [rowsAt, cell_bind k1' k2', k3]; exact h
    · cases h
theorem rowsAt_ren' {a b : Root} {p : Path} {sz n : Nat} {R Q : List (List C)} (h : rowsAt sz R p = some (n, Q)) : ∃ Q', rowsAt sz (R.map (·.map (renC a b))) p = some (n, Q') ∧ Q'.length = Q.length := by
  cases p with
  | nil =>
    simp only [rowsAt, Option.some.injEq, Prod.mk.injEq] at h ⊢
    obtain ⟨rfl, rfl⟩ := h
    exact ⟨_, ⟨rfl, rfl⟩, by simp⟩
  | cons x p =>
    obtain ⟨i, j⟩ := x
    simp only [rowsAt] at h
    split at h
    · rename_i s K hb
      obtain ⟨k1, k2, k3⟩ := bind_cell hb
      refine ⟨Q, ?_, rfl⟩
      have e1 : i < (R.map (·.map (renC a b))).length := by simpa using k1
      have e2 : j < ((R.map (·.map (renC a b))).getD i []).length := by
        simp only [List.getD_eq_getElem?_getD, List.getElem?_map, List.getElem?_eq_getElem k1, Option.map_some, Option.getD_some, List.length_map] at k2 ⊢
        exact k2
      simp only [rowsAt, cell_bind e1 e2, cellAt_ren, k3, renC]; exact h
    · cases h
def gfree (a : Root) (g : Store) : Bool := g.all fun e => match e.2.kind with | .box => e.2.rows.all fun row => row.all fun c => decide (refRoot c ≠ some a) | _ => true
theorem Rel.rename {t : List V} {d : Nat} {l g : Store} {g0 gh : Gh} {w0 w : World} {ac : Act} {a b : Root} (hr : Rel g0 w0 ⟨t, d, l, g⟩ gh ac w) (ha : d ≤ a.1) (hb : d ≤ b.1) (hab : a ≠ b) (hf : getA l b = none) (hgf : gfree a g = true) :
    Rel g0 w0 ⟨t.map (renV a b), d, renL a b l, g⟩ (renG (fun q p => if q = a then none else some (renR b a q, p)) gh) ac w := by
  have hgn : ∀ q : Root, d ≤ q.1 → getA g q = none := fun q hq => by
    cases h : getA g q with
    | none => rfl
    | some ob => have := hr.out q ob h; simp only at this; omega
  have hget : ∀ q, getA (renL a b l ++ g) q = if q = a then none else match getA l (renR b a q) with | some ob => some (renO a b ob) | none => getA g q := fun q => by
    rw [getA_append, getA_renL hf]
    by_cases hq : q = a
    · rw [if_pos ⟨hq, hab⟩, if_pos hq, hq]; exact hgn a ha
    · rw [if_neg (fun h => hq h.1), if_neg hq]
      cases getA l (renR b a q) <;> rfl
  have hgg : ∀ q, q ≠ b → renR b a q = q := fun q h => by simp [renR, h]
  -- old from new
  have back : ∀ q p m Q, Live (renL a b l ++ g) q p m Q → q ≠ a ∧ ∃ Q0, Live (l ++ g) (renR b a q) p m Q0 ∧ ((p = [] ∧ Q = Q0.map (·.map (renC a b))) ∨ Q = Q0) := by
    rintro q p m Q ⟨ob, h1, h2⟩
    rw [hget] at h1
    by_cases hq : q = a
    · rw [if_pos hq] at h1; cases h1
    · rw [if_neg hq] at h1
      refine ⟨hq, ?_⟩
      cases h3 : getA l (renR b a q) with
      | some ob0 =>
        rw [h3] at h1
        cases h1
        obtain ⟨Q0, k1, k2⟩ := rowsAt_ren h2
        refine ⟨Q0, ⟨ob0, by rw [getA_append, h3], k1⟩, ?_⟩
        rcases k2 with k2 | k2
        · exact .inl k2
        · exact .inr k2.2
      | none =>
        rw [h3] at h1
        have hqb : q ≠ b := fun e => by subst e; rw [hgn q hb] at h1; cases h1
        rw [hgg q hqb] at h3 ⊢
        exact ⟨Q, ⟨ob, by rw [getA_append, h3]; exact h1, h2⟩, .inr rfl⟩
  have forth : ∀ q p m Q, Live (l ++ g) q p m Q → ∃ Q', Live (renL a b l ++ g) (renR a b q) p m Q' ∧ Q'.length = Q.length := by
    rintro q p m Q ⟨ob, h1, h2⟩
    have hqb : q ≠ b := fun e => by
      subst e
      rw [getA_append, hf] at h1
      rw [show getA g q = none from hgn q hb] at h1; cases h1
    have hne : renR a b q ≠ a := by
      unfold renR
      by_cases e : q = a
      · rw [if_pos e]; exact fun h => hab h.symm
      · rw [if_neg e]; exact e
    rw [getA_append] at h1
    cases h3 : getA l q with
    | some ob0 =>
      rw [h3] at h1
      cases h1
      obtain ⟨Q', k1, k2⟩ := rowsAt_ren' (a := a) (b := b) h2
      exact ⟨Q', ⟨renO a b ob, by rw [hget, if_neg hne, renR_back hqb, h3], k1⟩, k2⟩
    | none =>
      rw [h3] at h1
      have hqa : q ≠ a := fun e => by subst e; rw [show getA g q = none from hgn q ha] at h1; cases h1
      have e1 : renR a b q = q := by simp [renR, hqa]
      rw [e1]
      exact ⟨Q, ⟨ob, by rw [hget, if_neg hqa, hgg q hqb, h3]; exact h1, h2⟩, rfl⟩
  have notb : ∀ q p m Q, Live (l ++ g) q p m Q → q ≠ b := fun q p m Q ⟨ob, h1, _⟩ e => by
    subst e
    rw [getA_append, hf] at h1
    rw [show getA g q = none from hgn q hb] at h1; cases h1
  let ρ : Root → Path → Option (Root × Path) := fun q p => if q = a then none else some (renR b a q, p)
  have hρ : ∀ q p, q ≠ b → (renG ρ gh).G (renR a b q) p = gh.G q p := fun q p h => by
    have hne : renR a b q ≠ a := by
      unfold renR
      by_cases e : q = a
      · rw [if_pos e]; exact fun h => hab h.symm
      · rw [if_neg e]; exact e
    exact renG_some (by simp only [ρ]; rw [if_neg hne, renR_back h])
  -- a cell that stands nowhere, or somewhere
  have cell : ∀ loc loc' c y, (∀ sz R, c = .own sz R → ∃ q p i j, loc = some (q, p, i, j) ∧ loc' = some (renR a b q, p, i, j) ∧ q ≠ b) → CR w (l ++ g) gh loc c y → CR w (renL a b l ++ g) (renG ρ gh) loc' (renC a b c) y := by
    intro loc loc' c y hloc hc
    cases c with
    | v x => exact hc
    | sh sz R => exact hc
    | ps cs => exact hc
    | bad => trivial
    | own sz R =>
      obtain ⟨q, p, i, j, rfl, rfl, hq⟩ := hloc sz R rfl
      exact SlAt.ren (g := gh) (hρ q _ hq) hc
    | rs r p sz off len =>
      obtain ⟨R, k1, k2, k3⟩ := hc
      obtain ⟨R', k4, k5⟩ := forth _ _ _ _ k1
      exact ⟨R', k4, by omega, SlAt.ren (g := gh) (hρ r p (notb _ _ _ _ k1)) k3⟩
    | pt r p sz row off =>
      obtain ⟨R, bb, k1, k2, k3, k4⟩ := hc
      obtain ⟨R', k5, k6⟩ := forth _ _ _ _ k1
      exact ⟨R', bb, k5, by omega, by rw [hρ r p (notb _ _ _ _ k1)]; exact k3, k4⟩
  have xcell : ∀ x y, XR w (l ++ g) gh x y → XR w (renL a b l ++ g) (renG ρ gh) (renX a b x) y := by
    intro x y hx
    cases x with
    | one c => exact cell none none c y (fun sz R e => by subst e; exact False.elim hx) hx
    | agg cs =>
      obtain ⟨ys, e1, e2, e3⟩ := hx
      refine ⟨ys, e1, by simpa using e2, fun j hj => ?_⟩
      have hj' : j < cs.length := by simpa using hj
      have := e3 j hj'
      have hg : (cs.map (renC a b)).getD j .bad = renC a b (cs.getD j .bad) := by
        simp [List.getD_eq_getElem?_getD, List.getElem?_map, List.getElem?_eq_getElem hj']
      rw [hg]
      exact cell none none _ _ (fun sz R e => by rw [e] at this; exact False.elim this) this
  have vcell : ∀ v y, VR w (l ++ g) gh v y → VR w (renL a b l ++ g) (renG ρ gh) (renV a b v) y := by
    intro v y hv
    cases v with
    | x x => exact xcell x y hv
    | tup xs =>
      obtain ⟨ys, e1, e2, e3⟩ := hv
      refine ⟨ys, e1, by simpa using e2, fun j hj => ?_⟩
      have hj' : j < xs.length := by simpa using hj
      have hg : (xs.map (renX a b)).getD j (.one .bad) = renX a b (xs.getD j (.one .bad)) := by
        simp [List.getD_eq_getElem?_getD, List.getElem?_map, List.getElem?_eq_getElem hj']
      rw [hg]
      exact xcell _ _ (e3 j hj')
  have ren : Ren w (l ++ g) (renL a b l ++ g) ρ gh := by
    refine ⟨fun q p m Q hl => ?_, fun q p m Q q' p' m' Q' s _ _ h1 h2 => ?_, fun q ob h1 hk => by have := hr.obj q ob h1; simp [okObj, hk] at this⟩
    · obtain ⟨hq, Q0, k1, k2⟩ := back q p m Q hl
      refine .inr ⟨renR b a q, p, Q0, by simp only [ρ]; rw [if_neg hq], k1, ?_, ?_, ?_⟩
      · rcases k2 with ⟨_, rfl⟩ | rfl
        · simp
        · rfl
      · intro i hi
        rcases k2 with ⟨_, rfl⟩ | rfl
        · simp [List.getD_eq_getElem?_getD, List.getElem?_map, List.getElem?_eq_getElem hi]
        · rfl
      · intro i j y hi hj hc
        have hqb := notb _ _ _ _ k1
        have hback : renR a b (renR b a q) = q := renR_back hq
        have := cell (some (renR b a q, p, i, j)) (some (q, p, i, j)) _ y (fun sz R _ => ⟨_, p, i, j, rfl, by rw [hback], hqb⟩) hc
        rcases k2 with ⟨_, rfl⟩ | rfl
        · rw [cellAt_ren]; exact this
        · -- no references there: a root's rows are renamed at the top alone
          by_cases hrow : refRoot (cellAt Q i j) = none
          · have e1 : renC a b (cellAt Q i j) = cellAt Q i j := by
              generalize cellAt Q i j = c at hrow
              cases c <;> first | rfl | cases hrow
            rw [e1] at this; exact this
          · obtain ⟨r', hr'⟩ := Option.ne_none_iff_exists'.1 hrow
            obtain ⟨ob, q1, q2⟩ := id k1
            obtain ⟨hkind, rfl, rfl⟩ := live_ref (hr.obj _ ob q1) q2 hr'
            -- the root is one of the callers': what it refers to is not ours
            have hm := cellAt_mem hr'
            obtain ⟨ob', p1, p2⟩ := hl
            rw [hget, if_neg hq] at p1
            cases h3 : getA l (renR b a q) with
            | some ob3 =>
              rw [h3] at p1; cases p1
              rw [getA_append, h3] at q1; cases q1
              simp only [renO, rowsAt, Option.some.injEq, Prod.mk.injEq] at p2
              obtain ⟨_, p2⟩ := p2
              have hcc : cellAt (ob.rows.map (·.map (renC a b))) i j = cellAt ob.rows i j := by rw [p2]
              rw [cellAt_ren] at hcc
              rw [hcc] at this; exact this
            | none =>
              rw [getA_append, h3] at q1
              have hra : r' ≠ a := by
                obtain ⟨kk, hk'⟩ := getA_mem q1
                have h6 := List.all_eq_true.1 hgf _ hk'
                simp only [hkind, List.all_eq_true] at h6
                have h7 := h6 (ob.rows.getD i []) (by rw [List.getD_eq_getElem?_getD, List.getElem?_eq_getElem hm.1]; exact List.getElem_mem hm.1) (cellAt ob.rows i j) (by
                  unfold cellAt; rw [List.getD_eq_getElem?_getD (l := ob.rows.getD i []), List.getElem?_eq_getElem hm.2]; exact List.getElem_mem hm.2)
                rw [hr'] at h7
                simpa using h7
              rw [renC_ne hr' hra] at this; exact this
    · simp only [ρ] at h1 h2
      split at h1
      · cases h1
      · split at h2
        · cases h2
        · rename_i n1 n2
          have hh := Option.some.inj (h1.trans h2.symm)
          obtain ⟨e1, e2⟩ := Prod.mk.inj hh
          have : renR a b (renR b a q) = renR a b (renR b a q') := by rw [e1]
          rw [renR_back n1, renR_back n2] at this
          exact ⟨this, e2⟩
  refine ⟨hr.defers, by simpa using hr.size, fun i hi => ?_, hr.heap.ren ren, ⟨hr.keep.os, hr.keep.tape, hr.keep.output, hr.keep.size, hr.keep.S, hr.keep.block⟩, ?_, hr.out, ?_, hr.maps.ren (renR b a) (fun q ob h1 h2 => (by
      change getA (renL a b l ++ g) q = some ob at h1
      rw [hget] at h1
      split at h1
      · cases h1
      · rename_i hq
        show ∃ ob0, getA (l ++ g) (renR b a q) = some ob0 ∧ _
        rw [getA_append]
        cases h3 : getA l (renR b a q) with
        | none =>
          rw [h3] at h1
          have hqb : q ≠ b := fun e => by subst e; rw [hgn q hb] at h1; cases h1
          rw [hgg q hqb]
          exact ⟨ob, h1, rfl⟩
        | some ob0 =>
          rw [h3] at h1
          cases h1
          exact ⟨ob0, rfl, rfl⟩)) (fun q q' ob ob' h1 h2 h3 => (by
      change getA (renL a b l ++ g) q = some ob at h1
      change getA (renL a b l ++ g) q' = some ob' at h2
      rw [hget] at h1 h2
      split at h1
      · cases h1
      · split at h2
        · cases h2
        · rename_i n1 n2
          have := congrArg (renR a b) h3
          rwa [renR_back n1, renR_back n2] at this)) (fun _ _ _ h1 h2 => ⟨h1, h2⟩) (.ext (fun _ _ _ => rfl) (fun _ _ hs => hs) fun r p s R k hl hG _ => (by
      rcases ren.live r p s R hl with ⟨hn, _⟩ | ⟨r0, p0, R0, hs, hl0, _⟩
      · rw [renG_none hn] at hG; cases hG
      · rw [renG_some hs] at hG
        exact ⟨_, _, _, _, hl0, hG⟩)), ?_⟩
  · have hi' : i < t.length := by simpa using hi
    have hg : (t.map (renV a b)).getD i (.x (.one .bad)) = renV a b (t.getD i (.x (.one .bad))) := by
      simp [List.getD_eq_getElem?_getD, List.getElem?_map, List.getElem?_eq_getElem hi']
    show VR w _ _ ((t.map (renV a b)).getD i (.x (.one .bad))) _
    rw [hg]
    exact vcell _ _ (hr.tmps i hi')
  · intro q ob h
    have h' : getA (renL a b l) q = some ob := h
    rw [getA_renL hf] at h'
    split at h'
    · cases h'
    · obtain ⟨ob0, h1, _⟩ := Option.map_eq_some_iff.1 h'
      have := hr.loc _ ob0 h1
      unfold renR at this
      split at this
      · rename_i e; rw [e]; exact hb
      · exact this
  · intro q ob h
    have h' : getA (renL a b l ++ g) q = some ob := h
    rw [hget] at h'
    split at h'
    · cases h'
    · rename_i hq
      cases h3 : getA l (renR b a q) with
      | none =>
        rw [h3] at h'
        have hqb : q ≠ b := fun e => by subst e; rw [hgn q hb] at h'; cases h'
        rw [hgg q hqb] at h3
        exact hr.obj q ob (by show getA (l ++ g) q = _; rw [getA_append, h3]; exact h')
      | some ob0 =>
        rw [h3] at h'
        cases h'
        have hok := hr.obj (renR b a q) ob0 (by show getA (l ++ g) _ = _; rw [getA_append, h3])
        unfold okObj at hok ⊢
        simp only [renO]
        split at hok
        · rename_i hk
          have : ob0.rows.map (·.map (renC a b)) = ob0.rows := by
            rw [nrRR_all, List.all_eq_true] at hok
            conv => rhs; rw [← List.map_id ob0.rows]
            apply List.map_congr_left
            intro r hr'
            have h5 := hok r hr'
            show r.map (renC a b) = r
            clear hr'
            induction r with
            | nil => rfl
            | cons c r ih =>
              simp only [nrR, Bool.and_eq_true] at h5
              rw [List.map_cons, nr_renC h5.1, ih h5.2]
          rw [this]; exact hok
        · rename_i hk
          simp only [List.all_map, List.all_eq_true, Function.comp_apply] at hok ⊢
          intro r hr' c hc
          have := hok r hr' c hc
          cases c <;> first | rfl | exact this
        · cases hok
        · simpa using hok
        · simpa using hok
  · refine ⟨fun q bb hq ob h1 => ?_, fun q hq ob h1 => ?_, hr.pin.old⟩
    · obtain ⟨h2, h3⟩ := hr.pin.at_ q bb hq ob h1
      refine ⟨?_, h3⟩
      have hd := hr.out q ob h1
      have hqa : q ≠ a := fun e => by subst e; simp only at hd; omega
      have hqb : q ≠ b := fun e => by subst e; simp only at hd; omega
      have := hρ q [] hqb
      rw [show renR a b q = q by simp [renR, hqa]] at this
      rw [← h2]; exact this
    · have h2 := hr.pin.nil_ q hq ob h1
      have hd := hr.out q ob h1
      have hqa : q ≠ a := fun e => by subst e; simp only at hd; omega
      have hqb : q ≠ b := fun e => by subst e; simp only at hd; omega
      have := hρ q [] hqb
      rw [show renR a b q = q by simp [renR, hqa]] at this
      rw [← h2]; exact this
theorem Weak.rename {t : List V} {d : Nat} {l g : Store} (a b : Root) (ha : a.1 = d) (hb : b.1 = d) (hab : a ≠ b) (hf : getA l b = none) (hgf : gfree a g = true := by rfl) :
    Weak ⟨t, d, l, g⟩ ⟨t.map (renV a b), d, renL a b l, g⟩ := fun _ _ _ _ _ hr => ⟨_, hr.rename (Nat.le_of_eq ha.symm) (Nat.le_of_eq hb.symm) hab hf hgf⟩
theorem Weak.rename' {t : List V} {d : Nat} {l g : Store} (a b : Root) (ha : d ≤ a.1) (hb : d ≤ b.1) (hab : a ≠ b) (hf : getA l b = none) (hgf : gfree a g = true := by rfl) :
    Weak ⟨t, d, l, g⟩ ⟨t.map (renV a b), d, renL a b l, g⟩ := fun _ _ _ _ _ hr => ⟨_, hr.rename ha hb hab hf hgf⟩
attribute [push_cast] renR renC renX renV renO renL
end Go.Rx
namespace Go.Rx
open Go.RowKit
variable {P : Program} {t : TypeId}
theorem bnd_int (i : Int) (d : Nat) : bnd (some (int i)) d = if 0 ≤ i then some i.toNat else none := rfl
theorem bnd_none (d : Nat) : bnd none d = some d := rfl
theorem sl_str (s : ByteArray) (lo hi : Option V) : sliceV P t (one (.v (.string s))) lo hi = match P.underlying t, bnd lo 0, bnd hi s.size with
    | some .string, some l, some h => if l ≤ h ∧ h ≤ s.size then some (.x (.one (.v (.string (s.extract l h))))) else none
    | _, _, _ => none := rfl
theorem sl_rs (r : Root) (p : Path) (sz off len : Nat) (lo hi : Option V) : sliceV P t (one (.rs r p sz off len)) lo hi = match tyElem P t with
    | some e => match tySz P e, bnd lo 0, bnd hi len with
      | some s, some l, some h => if s = sz ∧ l ≤ h ∧ h ≤ len then some (.x (.one (.rs r p sz (off + l) (h - l)))) else none
      | _, _, _ => none
    | none => none := rfl
theorem sl_sh (sz : Nat) (R : List (List C)) (lo hi : Option V) : sliceV P t (one (.sh sz R)) lo hi = match tyElem P t with
    | some e => match tySz P e, bnd lo 0, bnd hi R.length with
      | some s, some l, some h => if s = sz ∧ l ≤ h ∧ h ≤ R.length then some (.x (.one (.sh sz ((R.drop l).take (h - l))))) else none
      | _, _, _ => none
    | none => none := rfl
theorem sl_nil0 (lo hi : Option V) : sliceV P t (one (.v (.slice none 0 0))) lo hi = match tyElem P t with
    | some e => match tySz P e, bnd lo 0, bnd hi 0 with
      | some _, some 0, some 0 => some (.x (.one (.v (.slice none 0 0))))
      | _, _, _ => none
    | none => none := rfl
theorem sl_emp0 (q : Addr) (cap : Nat) (lo hi : Option V) : sliceV P t (one (.v (.slice (some q) 0 cap))) lo hi = match tyElem P t with
    | some e => match tySz P e, bnd lo 0, bnd hi 0 with
      | some _, some 0, some 0 => some (.x (.one (.v (.slice (some q) 0 cap))))
      | _, _, _ => none
    | none => none := rfl
theorem ioOk_box {sz : Nat} {r : List Value} (h : r.length = sz) : ioOk .box sz [r] :=
  ⟨.inl ⟨rfl, Nat.zero_lt_one⟩, fun i hi => by
    have : i = 0 := by simpa using hi
    subst this; exact h⟩
attribute [push_cast] bnd_int bnd_none sl_str sl_rs sl_sh sl_nil0 sl_emp0
end Go.Rx
namespace Go.Rx
open Go.RowKit
theorem vR_nil : vR [] = [] := rfl
theorem vR_cons (r : List Value) (R : List (List Value)) : vR (r :: R) = r.map .v :: vR R := rfl
theorem vR_nr (R : List (List Value)) : nrRR (vR R) = true := by
  induction R with
  | nil => rfl
  | cons r R ih =>
    rw [vR_cons, nrRR, ih, Bool.and_true]
    induction r with
    | nil => rfl
    | cons x r ih => simp [nrR, nr, ih]
theorem vR_po (R : List (List Value)) : poRR (vR R) = true := by
  induction R with
  | nil => rfl
  | cons r R ih =>
    rw [vR_cons, poRR, ih, Bool.and_true]
    induction r with
    | nil => rfl
    | cons x r ih => simp [poR, po, ih]
theorem vR_ts (R : List (List Value)) : toShRR (vR R) = vR R := by
  induction R with
  | nil => rfl
  | cons r R ih =>
    rw [vR_cons, toShRR, ih]
    congr 1
    induction r with
    | nil => rfl
    | cons x r ih => simp only [List.map_cons, toShR, ih]; rfl
theorem vR_snoc (R : List (List Value)) (r : List Value) : vR R ++ [r.map .v] = vR (R ++ [r]) := by simp [vR]
theorem vR_take (R : List (List Value)) : (vR R).take R.length = vR R := List.take_of_length_le (by simp [vR])
theorem hasRows_vR (r : Root) (R : List (List Value)) : hasRows r (vR R) = false := by
  unfold hasRows vR
  rw [List.any_eq_false]
  intro row hrow
  obtain ⟨x, _, rfl⟩ := List.mem_map.1 hrow
  rw [Bool.not_eq_true, List.any_eq_false]
  intro c hc
  obtain ⟨y, _, rfl⟩ := List.mem_map.1 hc
  simp [hasC]
attribute [push_cast] hasRows_vR
theorem apart_pair (r r' : Root) (p p' : Path) : apart (r, p) (r', p') = (!decide (r = r') || (!(p.isPrefixOf p') && !(p'.isPrefixOf p))) := by
  by_cases h : r = r' <;> simp [apart, h]
attribute [push_cast] apart_pair nrRR poRR toShRR toShR
attribute [push_cast] vR_nil vR_cons vR_nr vR_po vR_ts vR_take vR_length
end Go.Rx
namespace Go.Rx
open Go.RowKit
section
variable {P : Program}
theorem forIn_all {α β : Type} {F : α → Option Bool × β → Sem (ForInStep (Option Bool × β))} {u : β} {e : α → Bool} :
    ∀ (l : List α), (∀ f, f ∈ l → pureIn P (F f (none, u)) = some (if e f then .yield (none, u) else .done (some false, u))) →
      pureIn P (forIn l (none, u) F) = some (if l.all e then (none, u) else (some false, u))
  | [], _ => rfl
  | f :: l, h => by
    rw [List.forIn_cons]
    refine (pure_bind' (h f (List.mem_cons_self ..))).trans ?_
    cases he : e f with
    | true =>
      simp only [if_true, List.all_cons, he, Bool.true_and]
      exact forIn_all l fun g hg => h g (List.mem_cons_of_mem _ hg)
    | false => simp [he, pureIn, pure]
theorem pure_und {t : TypeId} {d : TypeDesc} (h : P.underlying t = some d) : pureIn P (underlying t) = some d := by
  show pureIn P (match P.underlying t with | some d => Sem.pure d | none => stuck "no such type") = _
  rw [h]; rfl
theorem pure_part1 {t : TypeId} {xs : Array Value} {n : Nat} {y : Value} (ha : tyAgg P t = some false) (h : xs[n]? = some y) : pureIn P (part t xs n) = some y := by
  unfold tyAgg at ha
  obtain ⟨d, hd, hf⟩ := Option.map_eq_some_iff.1 ha
  have hi : pureIn P (isAgg t) = some false := by
    unfold isAgg
    refine (pure_bind' (pure_und hd)).trans ?_
    cases d <;> first | rfl | cases hf
  unfold part
  refine (pure_bind' hi).trans ?_
  simp only [Bool.false_eq_true, if_false, h]
  rfl
theorem eq_int {d : Nat} {t : TypeId} {k k' : IntKind} (h : P.underlying t = some (.int k')) (a b : Int) : pureIn P (Op.equalIn (d + 1) t (.int k a) (.int k b)) = some (decide (a = b)) := by
  unfold Op.equalIn
  refine (pure_bind' (pure_und h)).trans ?_
  simp only [if_true]
  show some (a == b) = _
  congr 1
theorem eq_str {d : Nat} {t : TypeId} (h : P.underlying t = some .string) (a b : ByteArray) : pureIn P (Op.equalIn (d + 1) t (.string a) (.string b)) = some (decide (a = b)) := by
  unfold Op.equalIn
  refine (pure_bind' (pure_und h)).trans ?_
  show some (a == b) = _
  congr 1
  cases a with
  | mk a => cases b with
    | mk b =>
      show (a == b) = _
      by_cases e : a = b
      · subst e; simp
      · simp [e]
theorem equal_flat {t : TypeId} {fs : Array Field} (hu : P.underlying t = some (.struct fs)) (hst : P.stoodInHeld t = false) {xs ys : Array Value} {e : Field → Bool}
    (h : ∀ f, f ∈ fs.toList → f.name ≠ "_" ∧ tyAgg P f.type = some false ∧ ∃ x y, xs[f.offset]? = some x ∧ ys[f.offset]? = some y ∧ ∀ d, pureIn P (Op.equalIn (d + 1) f.type x y) = some (e f)) :
    pureIn P (Op.equal t (.agg xs) (.agg ys)) = some (fs.toList.all e) := by
  show pureIn P (Op.equalIn (9999 + 1) t (.agg xs) (.agg ys)) = _
  unfold Op.equalIn
  refine (pure_bind' (pure_und hu)).trans ?_
  simp only []
  refine (pure_bind' (r := P) rfl).trans ?_
  simp only [hst, Bool.false_eq_true, if_false]
  rw [← Array.forIn_toList]
  refine (pure_bind' (forIn_all (e := e) fs.toList fun f hf => ?_)).trans ?_
  · obtain ⟨h1, h2, x, y, h3, h4, h5⟩ := h f hf
    simp only [if_pos h1]
    refine (pure_bind' (pure_part1 h2 h3)).trans ((pure_bind' (pure_part1 h2 h4)).trans ((pure_bind' (h5 9998)).trans ?_))
    cases e f <;> rfl
  · cases fs.toList.all e <;> rfl
theorem bin_neA {t : TypeId} {x y : Operand} {cs ds : List C} {xs ys : List Value} {r : Bool} (hg : P.eqGuardType P.depth t = false) (hc : vals cs = some xs) (hd : vals ds = some ys)
    (h : pureIn P (Op.equal t (.agg xs.toArray) (.agg ys.toArray)) = some r) : binV P .neq t x y (.x (.agg cs)) (.x (.agg ds)) = some (one (.v (.bool !r))) := by
  have hp : pureIn P (eqGuard .neq t x y (.agg xs.toArray) (.agg ys.toArray)) = some () := by
    unfold eqGuard
    simp only [Bool.not_true, Bool.false_eq_true, if_false]
    refine (pure_bind' (r := P) rfl).trans ?_
    refine (pure_bind' (r := P) rfl).trans ?_
    simp only [hg, Bool.not_false, if_true]
    rfl
  unfold binV
  simp only [plain2, plain, hc, hd, Option.map_some]
  have : pureIn P (do eqGuard .neq t x y (.agg xs.toArray) (.agg ys.toArray); binOp .neq t (.agg xs.toArray) (.agg ys.toArray)) = some (.bool !r) := by
    refine (pure_bind' hp).trans ?_
    show pureIn P (Op.equal t (.agg xs.toArray) (.agg ys.toArray) |>.bind fun r => Sem.pure (Value.bool !r)) = _
    exact (pure_bind' h).trans rfl
  rw [this]; rfl
end
end Go.Rx
namespace Go.Rx
open Go.RowKit
section
variable {P : Program} {w w0 w' : World} {g g0 gr : Gh} {σ : St} {a : Act} {o : Store}
def enterIO2 (fn : Func) (k : Kind) (sz : Nat) (R : List (List Value)) (args : List X) : St :=
  ⟨args.map .x ++ List.replicate (fn.ntmps - args.length) (.x (.one .bad)), 1, [], [(ioR, ioOb k sz R)]⟩
def argC (r : Root) : C → Option C
  | .v x => some (.v x)
  | .rs r' [] sz 0 len => if r' = r then some (.rs ioR [] sz 0 len) else if len = 0 then some (.sh sz []) else none
  | .pt r' [] sz row off => if r' = r then some (.pt ioR [] sz row off) else none
  | _ => none
def argCs (r : Root) : List C → Option (List C)
  | [] => some []
  | c :: cs => match argC r c, argCs r cs with
    | some c, some cs => some (c :: cs)
    | _, _ => none
def argVs (r : Root) : List V → Option (List X)
  | [] => some []
  | .x (.one c) :: vs => match argC r c, argVs r vs with
    | some c, some vs => some (.one c :: vs)
    | _, _ => none
  | .x (.agg cs) :: vs => match argCs r cs, argVs r vs with
    | some cs, some vs => some (.agg cs :: vs)
    | _, _ => none
  | .tup _ :: _ => none
variable {k : List Fr} {Q : Ex → St → Prop}
end
attribute [push_cast] enterIO2 argC argCs argVs
attribute [push_cast] fr Nat.zero_lt_one Nat.zero_add if_false if_true ne_eq not_true_eq_false not_false_eq_true decide_false decide_true Bool.not_true Bool.not_false Int.natCast_nonneg Int.toNat_natCast and_self true_and and_true Option.map_none resOk or_true true_or
end Go.Rx
namespace Go.Rx
open Go.RowKit
end Go.Rx
namespace Go.Rx
open Go.RowKit
def keepC (o : Store) : C → C
  | .v x => .v x
  | .sh sz R => .sh sz R
  | .own sz R => .own sz R
  | .ps cs => .ps cs
  | .bad => .bad
  | .rs r p sz off len => if p = [] then (match getA o r with
      | some ob => if ob.sz = sz ∧ off + len ≤ ob.rows.length then .rs r [] sz off len else .bad
      | none => if len = 0 then .sh sz [] else .bad) else .bad
  | .pt r p sz row off => if p = [] then (match getA o r with
      | some ob => if ob.sz = sz ∧ row < ob.rows.length then .pt r [] sz row off else .bad
      | none => .bad) else .bad
def keepX (o : Store) : X → X
  | .one c => .one (keepC o c)
  | .agg cs => .agg (cs.map (keepC o))
def keepV (o : Store) : V → V
  | .x x => .x (keepX o x)
  | .tup xs => .tup (xs.map (keepX o))
def upS (d : Nat) : Store → Store
  | [] => []
  | (k, ob) :: s => if d ≤ k.1 then (k, ob) :: upS d s else upS d s
def dnS (d : Nat) : Store → Store
  | [] => []
  | (k, ob) :: s => if k.1 < d then (k, ob) :: dnS d s else dnS d s
def belowS (D : Nat) : Store → Bool
  | [] => true
  | (k, _) :: s => decide (k.1 < D) && belowS D s
def xsV : List V → Option (List X)
  | [] => some []
  | .x x :: vs => (xsV vs).map (x :: ·)
  | .tup _ :: _ => none
def exitSt (t : List V) (d : Nat) (dst : Option Tmp) (σ' : St) (vs : List X) : St := put ⟨t.map (keepV σ'.g), d, σ'.l ++ upS d σ'.g, dnS d σ'.g⟩ dst (packT vs)
def startSt (fn : Func) (xs : List X) (D : Nat) (g : Store) : St := ⟨xs.map .x ++ List.replicate (fn.ntmps - xs.length) (.x (.one .bad)), D, [], g⟩
theorem getA_upS (d : Nat) : ∀ (s : Store) (r : Root), getA (upS d s) r = if d ≤ r.1 then getA s r else none
  | [], r => by simp [upS, getA]
  | (k, ob) :: s, r => by
    simp only [upS]
    by_cases h : d ≤ k.1
    · rw [if_pos h]
      simp only [getA]
      by_cases e : k = r
      · subst e; rw [if_pos rfl, if_pos h, if_pos rfl]
      · rw [if_neg e, if_neg e, getA_upS d s r]
    · rw [if_neg h, getA_upS d s r]
      by_cases e : k = r
      · subst e; rw [if_neg h, if_neg h]
      · simp only [getA, if_neg e]
theorem getA_dnS (d : Nat) : ∀ (s : Store) (r : Root), getA (dnS d s) r = if r.1 < d then getA s r else none
  | [], r => by simp [dnS, getA]
  | (k, ob) :: s, r => by
    simp only [dnS]
    by_cases h : k.1 < d
    · rw [if_pos h]
      simp only [getA]
      by_cases e : k = r
      · subst e; rw [if_pos rfl, if_pos h, if_pos rfl]
      · rw [if_neg e, if_neg e, getA_dnS d s r]
    · rw [if_neg h, getA_dnS d s r]
      by_cases e : k = r
      · subst e; rw [if_neg h, if_neg h]
      · simp only [getA, if_neg e]
theorem getA_updn (d : Nat) (l s : Store) (r : Root) : getA ((l ++ upS d s) ++ dnS d s) r = getA (l ++ s) r := by
  rw [getA_append, getA_append, getA_append, getA_upS, getA_dnS]
  cases getA l r with
  | some ob => rfl
  | none =>
    simp only
    by_cases h : d ≤ r.1
    · rw [if_pos h, if_neg (by omega)]
      cases getA s r <;> rfl
    · rw [if_neg h, if_pos (by omega)]
theorem belowS_get {D : Nat} : ∀ {s : Store}, belowS D s = true → ∀ r ob, getA s r = some ob → r.1 < D
  | [], _, r, ob, h => by cases h
  | (k, o) :: s, hb, r, ob, h => by
    simp only [belowS, Bool.and_eq_true, decide_eq_true_eq] at hb
    simp only [getA] at h
    split at h
    · rename_i e; subst e; exact hb.1
    · exact belowS_get hb.2 r ob h
section
variable {P : Program} {w w0 w' : World} {g g0 gr : Gh} {σ : St} {a : Act}
theorem xsV_rel (h : Rel g0 w0 σ g a w) : ∀ (as : List Operand) (xs : List X), xsV (as.map (ev σ)) = some xs →
    xs.length = as.length ∧ ∀ i, i < xs.length → XR w σ.o g (xs.getD i (.one .bad)) ((as.map a.eval).getD i undef)
  | [], xs, hv => by
    simp only [List.map_nil, xsV, Option.some.injEq] at hv
    subst hv
    exact ⟨rfl, fun i hi => absurd hi (Nat.not_lt_zero _)⟩
  | q :: as, xs, hv => by
    have hr := ev_rel h q
    simp only [List.map_cons] at hv
    generalize ev σ q = v at hv hr
    cases v with
    | tup _ => simp [xsV] at hv
    | x x =>
      simp only [xsV] at hv
      obtain ⟨xs', h2, rfl⟩ := Option.map_eq_some_iff.1 hv
      obtain ⟨e1, e2⟩ := xsV_rel h as xs' h2
      refine ⟨by simp [e1], fun i hi => ?_⟩
      cases i with
      | zero => exact hr
      | succ i => simpa using e2 i (by simpa using hi)
def pinG (o : Store) (g : Gh) : Gh := { G := fun r p => if p = [] then (if (getA o r).isSome then g.G r [] else none) else if p = [(0, 0)] then (if (getA o r).isSome = true ∧ g.G r [] = none then some 0 else none) else none, S := g.S }
theorem pinG_some {o : Store} {g : Gh} {r : Root} {b : Nat} {ob : Obj'} (h : getA o r = some ob) (hb : g.G r [] = some b) : (pinG o g).G r [] = some b := by
  simp [pinG, h, hb]
theorem pinG_none {o : Store} {g : Gh} {r : Root} {ob : Obj'} (h : getA o r = some ob) (hb : g.G r [] = none) : (pinG o g).G r [(0, 0)] = some 0 := by
  simp [pinG, h, hb]
theorem Rel.start (h : Rel g0 w0 σ g a w) (fn : Func) {xs : List X} {ys : List Value} {D : Nat} (hD : belowS D σ.o = true) (hl : ys.length = xs.length) (hx : ∀ i, i < xs.length → XR w σ.o g (xs.getD i (.one .bad)) (ys.getD i undef)) :
    Rel (pinG σ.o g) w (startSt fn xs D σ.o) g { tmps := ys.toArray ++ Array.replicate (fn.ntmps - ys.toArray.size) undef, defers := [] } w := by
  refine ⟨rfl, by simp [startSt, hl], fun i hi => ?_, h.heap, ⟨rfl, rfl, rfl, Nat.le_refl _, fun _ h => h, fun _ _ => rfl⟩, fun _ _ h => (by cases h), fun r ob hr => belowS_get hD r ob hr, h.obj, h.maps, ⟨fun r b hb ob ho => ?_, fun r hb ob ho => ?_, fun r ob ho => ?_⟩⟩
  · show VR w σ.o g ((xs.map V.x ++ List.replicate (fn.ntmps - xs.length) (V.x (.one .bad))).getD i (V.x (.one .bad))) _
    by_cases h' : i < xs.length
    · have := hx i h'
      have h2 : i < ys.length := by omega
      simpa [List.getD_eq_getElem?_getD, List.getElem?_append_left, List.getElem?_map, h', Array.getD_eq_getD_getElem?, Array.getElem?_append, h2, VR] using this
    · have : (xs.map V.x ++ List.replicate (fn.ntmps - xs.length) (V.x (.one .bad))).getD i (V.x (.one .bad)) = .x (.one .bad) := by
        rw [List.getD_eq_getElem?_getD, List.getElem?_append_right (by simpa using h')]
        simp only [List.getElem?_replicate]
        split <;> rfl
      rw [this]; trivial
  · simp only [pinG, if_true] at hb
    split at hb
    · rename_i hs
      exact ⟨hb, fun cells e f hc => ⟨cells, hc, rfl⟩⟩
    · cases hb
  · simp only [pinG, reduceCtorEq, if_false, if_true] at hb
    split at hb
    · rename_i hs
      exact hs.2
    · cases hb
  · have ho' : getA σ.o r = some ob := ho
    cases hg : g.G r [] with
    | some b => exact .inl ⟨b, pinG_some ho' hg⟩
    | none => exact .inr (pinG_none ho' hg)
theorem keepC_rel {σ' : St} {g' : Gh} {a' : Act} {D : Nat} (h' : Rel (pinG σ.o g) w σ' g' a' w') (hd : σ'.d = D) (hD : belowS D σ.o = true) {c : C} {y : Value} (hc : CR w σ.o g none c y) : CR w' σ'.o g' none (keepC σ'.g c) y := by
  have hS : ∀ k, g.S k → g'.S k ∧ w'.heap[k]? = w.heap[k]? := fun k hk => ⟨h'.keep.S k hk, h'.keep.block k hk⟩
  have hget : ∀ r ob, r.1 < D → getA σ'.g r = some ob → getA σ'.o r = some ob := fun r ob hr hg => by
    show getA (σ'.l ++ σ'.g) r = _
    rw [getA_append]
    cases hl : getA σ'.l r with
    | none => exact hg
    | some ob' => have := h'.loc r ob' hl; omega
  have hpin : ∀ r ob b, getA σ.o r = some ob → g.G r [] = some b → ∀ ob2, getA σ'.g r = some ob2 → g'.G r [] = some b ∧ ∀ cells e f, w.heap[b]? = some (.cells cells e f) → ∃ cells', w'.heap[b]? = some (.cells cells' e f) ∧ cells'.size = cells.size := fun r ob b ho hb ob2 h2 =>
    h'.pin.at_ r b (pinG_some ho hb) ob2 h2
  have hnil : ∀ r ob, getA σ.o r = some ob → g.G r [] = none → ∀ ob2, getA σ'.g r = some ob2 → g'.G r [] = none := fun r ob ho hb ob2 h2 => h'.pin.nil_ r (pinG_none ho hb) ob2 h2
  cases c with
  | v x => exact hc
  | sh sz R => exact Sh.mono hS hc
  | own sz R => exact hc.elim
  | ps cs => exact Sh.mono hS hc
  | bad => trivial
  | rs r p sz off len =>
    simp only [keepC]
    split
    · rename_i hp
      subst hp
      obtain ⟨R, ⟨ob, h1, h2⟩, h3, h4⟩ := hc
      split
      · rename_i ob' hob'
        split
        · rename_i hc2
          obtain ⟨rfl, hle⟩ := hc2
          refine ⟨ob'.rows, ⟨ob', hget r ob' (belowS_get hD r ob h1) hob', rfl⟩, hle, ?_⟩
          unfold SlAt at h4 ⊢
          cases hg : g.G r [] with
          | none =>
            rw [hg] at h4
            rw [hnil r ob h1 hg ob' hob']
            exact h4
          | some b =>
            rw [hg] at h4
            obtain ⟨q1, q2⟩ := hpin r ob b h1 hg ob' hob'
            rw [q1]
            obtain ⟨ad, cap, e1, e2, e3, e4, e5, e6, e7⟩ := h4
            refine ⟨ad, cap, e1, e2, e3, e4, e5, fun h0 => ?_, fun h0 => ?_⟩
            · obtain ⟨f1, cells, e, f, f2, f3⟩ := e6 h0
              obtain ⟨cells', f4, f5⟩ := q2 cells e f f2
              exact ⟨f1, cells', e, f, f4, by rw [f5]; exact f3⟩
            · obtain ⟨cells, e, f, f2, f3⟩ := e7 h0
              obtain ⟨cells', f4, f5⟩ := q2 cells e f f2
              exact ⟨cells', e, f, f4, by rw [f5]; exact f3⟩
        · trivial
      · split
        · rename_i hz
          subst hz
          show Sh w' g'.S (.sh sz []) y
          unfold SlAt at h4
          split at h4
          · rw [h4.1]; exact Sh.nil sz
          · obtain ⟨ad, cap, rfl, _, _, h6, _⟩ := h4
            exact Sh.slice sz [] ad 0 cap (fun _ _ => undef) rfl (Nat.zero_le _) h6 (fun h => absurd h (Nat.lt_irrefl _)) (fun i hi => absurd hi (Nat.not_lt_zero _)) (fun i j hi => absurd hi (Nat.not_lt_zero _)) (fun i j hi => absurd hi (Nat.not_lt_zero _))
        · trivial
    · trivial
  | pt r p sz row off =>
    simp only [keepC]
    split
    · rename_i hp
      subst hp
      obtain ⟨R, b, ⟨ob, h1, h2⟩, h3, h4, h5⟩ := hc
      split
      · rename_i ob' hob'
        split
        · rename_i hc2
          obtain ⟨rfl, hlt⟩ := hc2
          exact ⟨ob'.rows, b, ⟨ob', hget r ob' (belowS_get hD r ob h1) hob', rfl⟩, hlt, (hpin r ob b h1 h4 ob' hob').1, h5⟩
        · trivial
      · trivial
    · trivial
theorem keepX_rel {σ' : St} {g' : Gh} {a' : Act} {D : Nat} (h' : Rel (pinG σ.o g) w σ' g' a' w') (hd : σ'.d = D) (hD : belowS D σ.o = true) {x : X} {y : Value} (hx : XR w σ.o g x y) : XR w' σ'.o g' (keepX σ'.g x) y := by
  cases x with
  | one c => exact keepC_rel h' hd hD hx
  | agg cs =>
    obtain ⟨ys, e1, e2, e3⟩ := hx
    refine ⟨ys, e1, by simpa using e2, fun j hj => ?_⟩
    have hj' : j < cs.length := by simpa using hj
    have hg : (cs.map (keepC σ'.g)).getD j .bad = keepC σ'.g (cs.getD j .bad) := by
      simp [List.getD_eq_getElem?_getD, List.getElem?_map, List.getElem?_eq_getElem hj']
    rw [hg]
    exact keepC_rel h' hd hD (e3 j hj')
theorem keepV_rel {σ' : St} {g' : Gh} {a' : Act} {D : Nat} (h' : Rel (pinG σ.o g) w σ' g' a' w') (hd : σ'.d = D) (hD : belowS D σ.o = true) {v : V} {y : Value} (hv : VR w σ.o g v y) : VR w' σ'.o g' (keepV σ'.g v) y := by
  cases v with
  | x x => exact keepX_rel h' hd hD hv
  | tup xs =>
    obtain ⟨ys, e1, e2, e3⟩ := hv
    refine ⟨ys, e1, by simpa using e2, fun j hj => ?_⟩
    have hj' : j < xs.length := by simpa using hj
    have hg : (xs.map (keepX σ'.g)).getD j (.one .bad) = keepX σ'.g (xs.getD j (.one .bad)) := by
      simp [List.getD_eq_getElem?_getD, List.getElem?_map, List.getElem?_eq_getElem hj']
    rw [hg]
    exact keepX_rel h' hd hD (e3 j hj')
theorem CR.look {o o' : Store} (ho : ∀ r, getA o' r = getA o r) {loc : Option (Root × Path × Nat × Nat)} {c : C} {y : Value} (h : CR w o g loc c y) : CR w o' g loc c y := by
  have hl : ∀ r p m K, Live o r p m K → Live o' r p m K := fun r p m K ⟨ob, h1, h2⟩ => ⟨ob, by rw [ho]; exact h1, h2⟩
  cases c with
  | rs r p sz off len => obtain ⟨R, k1, k2⟩ := h; exact ⟨R, hl _ _ _ _ k1, k2⟩
  | pt r p sz row off => obtain ⟨R, b, k1, k2⟩ := h; exact ⟨R, b, hl _ _ _ _ k1, k2⟩
  | _ => exact h
theorem XR.look {o o' : Store} (ho : ∀ r, getA o' r = getA o r) {x : X} {y : Value} (h : XR w o g x y) : XR w o' g x y := by
  cases x with
  | one c => exact CR.look (loc := none) ho (show CR w o g none c y from h)
  | agg cs => obtain ⟨ys, e1, e2, e3⟩ := h; exact ⟨ys, e1, e2, fun j hj => CR.look ho (e3 j hj)⟩
theorem VR.look {o o' : Store} (ho : ∀ r, getA o' r = getA o r) {v : V} {y : Value} (h : VR w o g v y) : VR w o' g v y := by
  cases v with
  | x x => exact XR.look ho h
  | tup xs => obtain ⟨ys, e1, e2, e3⟩ := h; exact ⟨ys, e1, e2, fun j hj => XR.look ho (e3 j hj)⟩
theorem HeapRel.look {o o' : Store} (ho : ∀ r, getA o' r = getA o r) (h : HeapRel w o g) : HeapRel w o' g := by
  have hl : ∀ r p m K, Live o' r p m K → Live o r p m K := fun r p m K ⟨ob, h1, h2⟩ => ⟨ob, by rw [← ho]; exact h1, h2⟩
  refine ⟨fun r p m K b hK hb => ?_, fun r p ob m K h1 h2 h3 => ?_, fun r p m K r' p' m' K' b h1 h2 h3 h4 => ?_, h.S⟩
  · obtain ⟨k1, k2, cs, e, f, k3, kf, k4, k5⟩ := h.rows r p m K b (hl _ _ _ _ hK) hb
    exact ⟨k1, k2, cs, e, f, k3, kf, k4, fun i j hi hj => CR.look ho (k5 i j hi hj)⟩
  · rw [ho] at h1; exact h.none r p ob m K h1 h2 h3
  · exact h.inj _ _ _ _ _ _ _ _ b (hl _ _ _ _ h1) (hl _ _ _ _ h2) h3 h4
theorem Rel.exit {σ' : St} {g' : Gh} {a' : Act} {D : Nat} (h : Rel g0 w0 σ g a w) (h' : Rel (pinG σ.o g) w σ' g' a' w') (hd : σ'.d = D) (hdD : σ.d ≤ D) (hD : belowS D σ.o = true) :
    Rel g0 w0 ⟨σ.t.map (keepV σ'.g), σ.d, σ'.l ++ upS σ.d σ'.g, dnS σ.d σ'.g⟩ g' a w' := by
  have ho : ∀ r, getA ((σ'.l ++ upS σ.d σ'.g) ++ dnS σ.d σ'.g) r = getA σ'.o r := fun r => getA_updn σ.d σ'.l σ'.g r
  refine ⟨h.defers, by simpa using h.size, fun i hi => ?_, HeapRel.look ho h'.heap, ⟨h'.keep.os.trans h.keep.os, h'.keep.tape.trans h.keep.tape, h'.keep.output.trans h.keep.output, Nat.le_trans h.keep.size h'.keep.size, fun k hk => h'.keep.S k (h.keep.S k hk), fun k hk => (h'.keep.block k (h.keep.S k hk)).trans (h.keep.block k hk)⟩, fun r ob hr => ?_, fun r ob hr => ?_, fun r ob hr => ?_, h'.maps.mono (fun r ob h1 h2 => ⟨ob, by rw [← ho]; exact h1, rfl⟩) (fun b arr cl h1 h2 => ⟨h1, h2⟩) (.same fun r p m K ⟨ob, h1, h2⟩ => ⟨_, _, ob, by rw [← ho]; exact h1, h2⟩), ?_⟩
  · have hi' : i < σ.t.length := by simpa using hi
    have hg : (σ.t.map (keepV σ'.g)).getD i (.x (.one .bad)) = keepV σ'.g (σ.t.getD i (.x (.one .bad))) := by
      simp [List.getD_eq_getElem?_getD, List.getElem?_map, List.getElem?_eq_getElem hi']
    show VR w' _ g' ((σ.t.map (keepV σ'.g)).getD i (.x (.one .bad))) _
    rw [hg]
    exact VR.look ho (keepV_rel h' hd hD (h.tmps i hi'))
  · have hr' : getA (σ'.l ++ upS σ.d σ'.g) r = some ob := hr
    show σ.d ≤ r.1
    rw [getA_append] at hr'
    cases hl : getA σ'.l r with
    | some ob' => have := h'.loc r ob' hl; omega
    | none =>
      rw [hl, getA_upS] at hr'
      simp only at hr'
      split at hr'
      · assumption
      · cases hr'
  · have hr' : getA (dnS σ.d σ'.g) r = some ob := hr
    rw [getA_dnS] at hr'
    split at hr'
    · assumption
    · cases hr'
  · have hr' : getA ((σ'.l ++ upS σ.d σ'.g) ++ dnS σ.d σ'.g) r = some ob := hr
    rw [ho] at hr'
    exact h'.obj r ob hr'
  · have hro : ∀ r ob, getA σ.g r = some ob → ∃ ob', getA σ.o r = some ob' := fun r ob k1 => by
      show ∃ ob', getA (σ.l ++ σ.g) r = some ob'
      rw [getA_append]
      cases getA σ.l r with
      | some ob' => exact ⟨ob', rfl⟩
      | none => exact ⟨ob, k1⟩
    -- a caller's root that is there was there
    have hwas : ∀ r ob, getA (dnS σ.d σ'.g) r = some ob → getA σ'.g r = some ob ∧ ∃ ob0, getA σ.g r = some ob0 := fun r ob h1 => by
      rw [getA_dnS] at h1
      split at h1
      · rename_i hlt
        refine ⟨h1, ?_⟩
        have ho : ∃ ob0, getA σ.o r = some ob0 := by
          rcases h'.pin.old r ob h1 with ⟨b, hb⟩ | hb
          · simp only [pinG, if_true] at hb
            split at hb
            · rename_i hs; exact Option.isSome_iff_exists.1 hs
            · cases hb
          · simp only [pinG, reduceCtorEq, if_false, if_true] at hb
            split at hb
            · rename_i hs; exact Option.isSome_iff_exists.1 hs.1
            · cases hb
        obtain ⟨ob0, h0⟩ := ho
        have h0' : getA (σ.l ++ σ.g) r = some ob0 := h0
        rw [getA_append] at h0'
        cases hl : getA σ.l r with
        | some ob1 => have := h.loc r ob1 hl; omega
        | none => rw [hl] at h0'; exact ⟨ob0, h0'⟩
      · cases h1
    refine ⟨fun r b hb ob h1 => ?_, fun r hb ob h1 => ?_, fun r ob h1 => ?_⟩
    · obtain ⟨h2, ob0, h3⟩ := hwas r ob h1
      obtain ⟨k2, k3⟩ := h.pin.at_ r b hb ob0 h3
      obtain ⟨ob', k4⟩ := hro r ob0 h3
      obtain ⟨m2, m3⟩ := h'.pin.at_ r b (pinG_some k4 k2) ob h2
      refine ⟨m2, fun cells e f hc => ?_⟩
      obtain ⟨c2, n1, n2⟩ := k3 cells e f hc
      obtain ⟨c3, n3, n4⟩ := m3 c2 e f n1
      exact ⟨c3, n3, n4.trans n2⟩
    · obtain ⟨h2, ob0, h3⟩ := hwas r ob h1
      have k2 := h.pin.nil_ r hb ob0 h3
      obtain ⟨ob', k4⟩ := hro r ob0 h3
      exact h'.pin.nil_ r (pinG_none k4 k2) ob h2
    · obtain ⟨_, ob0, h3⟩ := hwas r ob h1
      exact h.pin.old r ob0 h3
variable {k : List Fr} {Q : Ex → St → Prop}
theorem packT_rel2 {o : Store} {vs : List X} {us : List Value} (hl : us.length = vs.length) (hx : ∀ i, i < vs.length → XR w o g (vs.getD i (.one .bad)) (us.getD i undef)) : VR w o g (packT vs) (packV us) := by
  match vs, us, hl with
  | [], [], _ => exact ⟨[], rfl, rfl, fun j hj => absurd hj (Nat.not_lt_zero _)⟩
  | [x], [u], _ => exact hx 0 (by simp)
  | x :: x2 :: vs, u :: u2 :: us, hl => exact ⟨u :: u2 :: us, rfl, by simpa using hl, hx⟩
theorem GoL_inlW {dst : Option Tmp} {f : FuncId} {as0 : Array Operand} {ats : Array TypeId} {ty : TypeId} {gd : Option (Tmp × Bool)} {l : List SOp} {fn : Func} {c : Code} {xs : List X} (D : Nat)
    (hf : P.funcs[f]? = some fn) (hb : fn.body = some c) (hn : fn.name ≠ "runtime.NumGoroutine") {sc : SC} (hW : ∀ (σ : St) (Q : Ex → St → Prop), WS P sc σ Q → W wop wdraw P c σ Q)
    (hg : gdS σ.t ⟨dst, .call { callee := .value (.func f), args := as0, argTypes := ats }, ty, gd⟩ = some true) (hxs : xsV (as0.toList.map (ev σ)) = some xs) (hdD : σ.d ≤ D) (hD : belowS D σ.o = true)
    (h : Go P sc [] (startSt fn xs D σ.o) fun e σ' => (e = .normal ∨ e = .ret) ∧ σ'.d = D ∧ ∃ σ2, Weak σ' σ2 ∧ σ2.d = D ∧ ∃ vs, resXs P σ2 fn.results.toList = some vs ∧ GoL P l k (exitSt σ.t σ.d dst σ2 vs) Q) :
    GoL P (⟨dst, .call { callee := .value (.func f), args := as0, argTypes := ats }, ty, gd⟩ :: l) k σ Q := by
  refine GoL_sem hg rfl fun g0 w0 _ g a w N' Q' hrel hnext => ?_
  have hb' : fn.body ≠ none := fun e => by rw [hb] at e; cases e
  have hrun : (execOp a.eval (SOp.oper ⟨dst, .call { callee := .value (.func f), args := as0, argTypes := ats }, ty, gd⟩)).run P w = .ok (.enter f (as0.map a.eval)) w := by
    simp [SOp.oper, execOp, resolve, Deferred.ofValue, Act.eval, invoke, callFunc, program, hf, hn, hb', Sem.run]
  obtain ⟨e1, e2⟩ := xsV_rel hrel as0.toList xs hxs
  have hst := hrel.start fn (xs := xs) (ys := as0.toList.map a.eval) hD (by simp [e1]) e2
  have : Tb P (pinG σ.o g) w := (Tb.keep (P := P) hrel.keep).on fun x hx => ⟨hx, rfl⟩
  have hcalls : Calls P f (as0.toList.map a.eval).toArray w fun en w' => ∃ z, en = .returned z ∧ ∃ σ2 g' a', Rel (pinG σ.o g) w σ2 g' a' w' ∧ σ2.d = D ∧ ∃ vs, GoL P l k (exitSt σ.t σ.d dst σ2 vs) Q ∧ VR w' σ2.o g' (packT vs) z := by
    refine calls_of_wp hf hb (wp_mono (W_sound (g0 := pinG σ.o g) (w0 := w) wop_sound wdraw_sound c _ _ _ _ _ (hW _ _ h) hst) fun e' a' w' hp => ?_)
    obtain ⟨e1', h1, σ1, g1, ⟨h2, _, σ2, hwk, hd2, vs, h4, h5⟩, h30⟩ := hp
    obtain ⟨g', h3⟩ := hwk _ _ _ _ _ h30
    have fin : a'.defers = [] ∧ ∃ v, (results fn a'.tmps).run P w' = .ok v w' ∧ ∃ z, Ending.returned v = .returned z ∧ ∃ σ2 g' a', Rel (pinG σ.o g) w σ2 g' a' w' ∧ σ2.d = D ∧ ∃ vs, GoL P l k (exitSt σ.t σ.d dst σ2 vs) Q ∧ VR w' σ2.o g' (packT vs) z := by
      refine ⟨h3.defers, ?_⟩
      obtain ⟨us, k1, k2, k3⟩ := resXs_run (P := P) h3 (F := resF a'.tmps) (fun _ => rfl) (fun _ _ => rfl) fn.results.toList vs h4
      refine ⟨packV us, ?_, packV us, rfl, σ2, g', a', h3, hd2, vs, h5, packT_rel2 k2 k3⟩
      have hmm : ∀ F : ResultVar → Sem Value, (∀ t, F (.tmp t) = pure (a'.tmps.getD t undef)) → (∀ b t, F (.cell b t) = do loadVar t (← asAddr (a'.tmps.getD b undef))) → (fn.results.mapM F).run P w' = .ok us.toArray w' := by
        intro F F1 F2
        have : F = resF a'.tmps := funext fun r => by
          cases r with
          | tmp t => exact F1 t
          | cell b t => exact F2 b t
        rw [this, Array.mapM_eq_mapM_toList, Sem.run_map, k1]; rfl
      unfold results
      rw [Sem.run_bind, hmm _ (fun _ => rfl) (fun _ _ => rfl), Result.andThen_ok, Sem.run_pure]
      congr 1
      match us with
      | [] => rfl
      | [u] => rfl
      | u :: v :: us => simp [packV]
    cases e' with
    | normal => exact fin
    | ret => exact fin
    | exit id => cases h1; rcases h2 with h2 | h2 <;> cases h2
    | _ => cases h1
  have hargs : (as0.toList.map a.eval).toArray = as0.map a.eval := by
    apply Array.ext'
    rw [Array.toList_map]
  rw [hargs] at hcalls
  unfold Oper.wp
  rw [hrun, Oper.upon_enter]
  refine hcalls.mono fun en w' he => ?_
  obtain ⟨z, rfl, σ2, g', a', h3, hd2, vs, h5, h6⟩ := he
  have hex := hrel.exit h3 hd2 hdD hD
  exact hnext _ _ _ _ h5 (hex.put dst (VR.look (fun r => getA_updn σ.d σ2.l σ2.g r) h6))
theorem GoL_inl {dst : Option Tmp} {f : FuncId} {as0 : Array Operand} {ats : Array TypeId} {ty : TypeId} {gd : Option (Tmp × Bool)} {l : List SOp} {fn : Func} {c : Code} {xs : List X} (D : Nat)
    (hf : P.funcs[f]? = some fn) (hb : fn.body = some c) (hn : fn.name ≠ "runtime.NumGoroutine") (hm : P.follows .mixedOrders = true) (hdr : drawsOk c = true)
    (hg : gdS σ.t ⟨dst, .call { callee := .value (.func f), args := as0, argTypes := ats }, ty, gd⟩ = some true) (hxs : xsV (as0.toList.map (ev σ)) = some xs) (hdD : σ.d ≤ D) (hD : belowS D σ.o = true)
    (h : Go P (slim c) [] (startSt fn xs D σ.o) fun e σ' => (e = .normal ∨ e = .ret) ∧ σ'.d = D ∧ ∃ σ2, Weak σ' σ2 ∧ σ2.d = D ∧ ∃ vs, resXs P σ2 fn.results.toList = some vs ∧ GoL P l k (exitSt σ.t σ.d dst σ2 vs) Q) :
    GoL P (⟨dst, .call { callee := .value (.func f), args := as0, argTypes := ats }, ty, gd⟩ :: l) k σ Q := GoL_inlW D hf hb hn (WS_sound hm c hdr) hg hxs hdD hD h
end
attribute [push_cast] keepC keepX keepV upS dnS belowS xsV exitSt startSt
end Go.Rx
namespace Go.Rx
open Go.RowKit
def toX : Value → X
  | .agg cs => .agg (cs.toList.map .v)
  | v => .one (.v v)
def plainCs : List C → Option (List Value)
  | [] => some []
  | .v x :: cs => (plainCs cs).map (x :: ·)
  | _ :: _ => none
def valX : V → Option Value
  | .x (.one (.v v)) => some v
  | .x (.agg cs) => (plainCs cs).map fun vs => .agg vs.toArray
  | _ => none
section
variable {P : Program} {w w0 w' : World} {g g0 gh gr : Gh} {σ : St} {a : Act}
def likeO : Option Obj' → Option Obj' → Prop
  | some a, some b => a.sz = b.sz ∧ a.rows = b.rows
  | none, none => True
  | _, _ => False
variable {k : List Fr} {Q : Ex → St → Prop} {l : List SOp}
theorem GoL_inl2 {dst : Option Tmp} {f : FuncId} {as0 : Array Operand} {ats : Array TypeId} {ty : TypeId} {gd : Option (Tmp × Bool)} {fn : Func} {c : Code} {xs : List X} (D : Nat)
    (hf : P.funcs[f]? = some fn) (hb : fn.body = some c) (hn : fn.name ≠ "runtime.NumGoroutine") (hm : P.follows .mixedOrders = true) (hdr : drawsOk c = true)
    (hg : gdS σ.t ⟨dst, .call { callee := .value (.func f), args := as0, argTypes := ats }, ty, gd⟩ = some true) (hxs : xsV (as0.toList.map (ev σ)) = some xs) (hdD : σ.d ≤ D) (hD : belowS D σ.o = true)
    (h : ∀ K : St → Prop, (∀ σ1 σ2 vs, Weak σ1 σ2 → σ1.d = D → σ2.d = D → resXs P σ2 fn.results.toList = some vs → GoL P l k (exitSt σ.t σ.d dst σ2 vs) Q → K σ1) → Go P (slim c) [] (startSt fn xs D σ.o) fun e σ' => (e = .normal ∨ e = .ret) ∧ K σ') :
    GoL P (⟨dst, .call { callee := .value (.func f), args := as0, argTypes := ats }, ty, gd⟩ :: l) k σ Q :=
  GoL_inl D hf hb hn hm hdr hg hxs hdD hD (h (fun σ' => σ'.d = D ∧ ∃ σ2, Weak σ' σ2 ∧ σ2.d = D ∧ ∃ vs, resXs P σ2 fn.results.toList = some vs ∧ GoL P l k (exitSt σ.t σ.d dst σ2 vs) Q) fun _ σ2 vs h1 h2 h3 h4 h5 => ⟨h2, σ2, h1, h3, vs, h4, h5⟩)
theorem GoL_inl2X (ids : List Nat) {dst : Option Tmp} {f : FuncId} {as0 : Array Operand} {ats : Array TypeId} {ty : TypeId} {gd : Option (Tmp × Bool)} {fn : Func} {c : Code} {xs : List X} (D : Nat)
    (hf : P.funcs[f]? = some fn) (hb : fn.body = some c) (hn : fn.name ≠ "runtime.NumGoroutine") (hm : P.follows .mixedOrders = true) (hdr : drawsOkX ids c = true)
    (hg : gdS σ.t ⟨dst, .call { callee := .value (.func f), args := as0, argTypes := ats }, ty, gd⟩ = some true) (hxs : xsV (as0.toList.map (ev σ)) = some xs) (hdD : σ.d ≤ D) (hD : belowS D σ.o = true)
    (h : ∀ K : St → Prop, (∀ σ1 σ2 vs, Weak σ1 σ2 → σ1.d = D → σ2.d = D → resXs P σ2 fn.results.toList = some vs → GoL P l k (exitSt σ.t σ.d dst σ2 vs) Q → K σ1) → Go P (slimX ids c) [] (startSt fn xs D σ.o) fun e σ' => (e = .normal ∨ e = .ret) ∧ K σ') :
    GoL P (⟨dst, .call { callee := .value (.func f), args := as0, argTypes := ats }, ty, gd⟩ :: l) k σ Q :=
  GoL_inlW D hf hb hn (WS_soundX ids hm c hdr) hg hxs hdD hD (h (fun σ' => σ'.d = D ∧ ∃ σ2, Weak σ' σ2 ∧ σ2.d = D ∧ ∃ vs, resXs P σ2 fn.results.toList = some vs ∧ GoL P l k (exitSt σ.t σ.d dst σ2 vs) Q) fun _ σ2 vs h1 h2 h3 h4 h5 => ⟨h2, σ2, h1, h3, vs, h4, h5⟩)
end
theorem ev_map (σ : St) (m : Option Nat) : ev σ (.const (.map m)) = .x (.one (.v (.map m))) := rfl
theorem killO_mp (r : Root) (b : Nat) (es : List (Value × Value)) (sz : Nat) (R : List (List C)) : killO r ⟨.mp b es, sz, R⟩ = ⟨.mp b es, sz, R⟩ := rfl
attribute [push_cast] toX plainCs valX ev_map killO_mp
end Go.Rx
namespace Go.Rx
open Go.RowKit
section
variable {P : Program}
theorem stepL_mono : ∀ (l : List SOp) (σ : St) (K K' : St → Prop), (∀ σ, K σ → K' σ) → stepL P l σ K → stepL P l σ K'
  | [], σ, K, K', hk, h => hk σ h
  | s :: l, σ, K, K', hk, h => by
    unfold stepL at h ⊢
    split at h
    · rename_i e; exact wop_mono (fun σ' h' => stepL_mono l σ' K K' hk h') h
    · rename_i e; exact stepL_mono l _ K K' hk h
    · exact h.elim
theorem drawL_mono : ∀ (l : List SOp) (σ : St) (L : Store) (K K' : St → Prop), (∀ σ, K σ → K' σ) → drawL P l σ L K → drawL P l σ L K'
  | [], σ, L, K, K', hk, h => hk _ h
  | s :: l, σ, L, K, K', hk, h => by
    unfold drawL at h ⊢
    split at h
    · rename_i e; rw [if_pos e]; exact stepL_mono _ _ K K' hk h
    · rename_i e
      rw [if_neg e]
      split at h
      · obtain ⟨v, m, h1, h2, h3⟩ := h
        exact ⟨v, m, h1, h2, drawL_mono l _ _ K K' hk h3⟩
      · exact drawL_mono l _ _ K K' hk h
      · exact h.elim
theorem drawK_mono {ks : List Tmp} : ∀ (l : List SOp) (σ : St) (L : Store) (K K' : St → Prop), (∀ σ, K σ → K' σ) → drawK P ks l σ L K → drawK P ks l σ L K'
  | [], σ, L, K, K', hk, h => hk _ h
  | s :: l, σ, L, K, K', hk, h => by
    unfold drawK at h ⊢
    split at h
    · obtain ⟨h0, v, m, h1, h2, h3, h4⟩ := h
      exact ⟨h0, v, m, h1, h2, h3, drawK_mono l _ _ K K' hk h4⟩
    · split at h
      · rename_i e; rw [if_pos e]; exact stepL_mono _ _ K K' hk h
      · rename_i e
        rw [if_neg e]
        split at h
        · obtain ⟨v, m, h1, h2, h3, h4⟩ := h
          exact ⟨v, m, h1, h2, h3, drawK_mono l _ _ K K' hk h4⟩
        · exact drawK_mono l _ _ K K' hk h
        · exact h.elim
theorem AnyL_mono {ops : List SOp} {deps : List (List Nat)} {K K' : St → Prop} (hk : ∀ σ, K σ → K' σ) : ∀ (f : Nat) (done : List Nat) (σ : St), AnyL P ops deps K f done σ → AnyL P ops deps K' f done σ
  | 0, _, _, h => ⟨h.1, hk _ h.2⟩
  | f + 1, done, σ, h => by
    refine ⟨fun hn => hk _ (h.1 hn), fun j hj => ?_⟩
    have h1 := h.2 j hj
    cases ho : ops[j]? with
    | none => rw [ho] at h1; exact h1.elim
    | some o =>
      rw [ho] at h1
      simp only at h1 ⊢
      split at h1
      · rename_i e; exact wop_mono (fun σ' h' => AnyL_mono hk f _ σ' h') h1
      · rename_i e; exact AnyL_mono hk f _ _ h1
      · exact h1.elim
theorem AnyF_mono {ops : List SOp} {deps : List (List Nat)} {fl : List Nat} {K K' : St → Prop} (hk : ∀ σ, K σ → K' σ) : ∀ (f : Nat) (done : List Nat) (σ : St), AnyF P ops deps fl K f done σ → AnyF P ops deps fl K' f done σ
  | 0, _, _, h => ⟨h.1, hk _ h.2⟩
  | f + 1, done, σ, h => by
    rcases h with ⟨i, h1, h2, o, v, h3, h4, h5⟩ | ⟨h1, h2⟩
    · exact .inl ⟨i, h1, h2, o, v, h3, h4, AnyF_mono hk f _ _ h5⟩
    · refine .inr ⟨fun hn => hk _ (h1 hn), fun j hj => ?_⟩
      obtain ⟨h3, h4⟩ := h2 j hj
      refine ⟨h3, ?_⟩
      split at h4
      · exact h4.elim
      · rename_i o ho
        try simp only [ho]
        split at h4
        · rename_i e
          try simp only [e]
          exact wop_mono (fun σ' h' => ⟨h'.1, AnyF_mono hk f _ σ' h'.2⟩) h4
        · rename_i e
          try simp only [e]
          exact ⟨h4.1, AnyF_mono hk f _ _ h4.2⟩
        · exact h4.elim
theorem WS_mono : ∀ (c : SC) (σ : St) (Q Q' : Ex → St → Prop), (∀ e σ, Q e σ → Q' e σ) → WS P c σ Q → WS P c σ Q'
  | .any ops deps, σ, Q, Q', hq, h => h.imp (AnyL_mono (fun σ h => hq _ σ h) _ _ _) fun ⟨fl, h1, h2⟩ => ⟨fl, h1, AnyF_mono (fun σ h => hq _ σ h) _ _ _ h2⟩
  | .skip, σ, Q, Q', hq, h => hq _ _ h
  | .reg false ops, σ, Q, Q', hq, h => stepL_mono ops σ _ _ (hq _) h
  | .reg true ops, σ, Q, Q', hq, h => by
    show (match ksOf ops with | [] => drawL P ops σ [] (Q' .normal) | k :: ks => drawK P (k :: ks) ops σ [] (Q' .normal))
    have h' : (match ksOf ops with | [] => drawL P ops σ [] (Q .normal) | k :: ks => drawK P (k :: ks) ops σ [] (Q .normal)) := h
    split at h'
    · exact drawL_mono ops σ [] _ _ (hq _) h'
    · exact drawK_mono ops σ [] _ _ (hq _) h'
  | .seq x y, σ, Q, Q', hq, h => by
    refine WS_mono x σ _ _ (fun e σ' h' => ?_) h
    cases e with
    | normal => exact WS_mono y σ' Q Q' hq h'
    | _ => exact hq _ _ h'
  | .cond c x y, σ, Q, Q', hq, h => by
    obtain ⟨t, h1, h2, h3⟩ := h
    exact ⟨t, h1, fun e => WS_mono x σ Q Q' hq (h2 e), fun e => WS_mono y σ Q Q' hq (h3 e)⟩
  | .block id c, σ, Q, Q', hq, h => by
    refine WS_mono c σ _ _ (fun e σ' h' => ?_) h
    cases e with
    | exit id' =>
      simp only at h' ⊢
      split at h'
      · rename_i e; rw [if_pos e]; exact hq _ _ h'
      · rename_i e; rw [if_neg e]; exact hq _ _ h'
    | _ => exact hq _ _ h'
  | .loop c, σ, Q, Q', hq, h => by
    intro X hX
    refine h X fun s hs => hX s (WS_mono c s _ _ (fun e s' h' => ?_) hs)
    cases e with
    | normal => exact h'
    | _ => exact hq _ _ h'
  | .exit id, σ, Q, Q', hq, h => hq _ _ h
  | .ret, σ, Q, Q', hq, h => hq _ _ h
  | .no, _, _, _, _, h => h.elim
theorem un_append (k1 k2 : List Fr) (Q : Ex → St → Prop) : un P (k1 ++ k2) Q = un P k1 (un P k2 Q) := by
  induction k1 with
  | nil => rfl
  | cons f k1 ih =>
    funext e σ
    cases f with
    | sq c => cases e <;> simp only [List.cons_append, un, ih]
    | bl id => cases e <;> simp only [List.cons_append, un, ih]
    | lp X => cases e <;> simp only [List.cons_append, un, ih]
theorem un_mono : ∀ (k : List Fr) (Q Q' : Ex → St → Prop), (∀ e σ, Q e σ → Q' e σ) → ∀ e σ, un P k Q e σ → un P k Q' e σ
  | [], Q, Q', hq, e, σ, h => hq e σ h
  | .sq c :: k, Q, Q', hq, e, σ, h => by
    cases e with
    | normal => exact WS_mono c σ _ _ (un_mono k Q Q' hq) h
    | _ => exact un_mono k Q Q' hq _ _ h
  | .bl id :: k, Q, Q', hq, e, σ, h => by
    cases e with
    | exit id' =>
      simp only [un] at h ⊢
      split at h
      · rename_i e; rw [if_pos e]; exact un_mono k Q Q' hq _ _ h
      · rename_i e; rw [if_neg e]; exact un_mono k Q Q' hq _ _ h
    | _ => exact un_mono k Q Q' hq _ _ h
  | .lp X :: k, Q, Q', hq, e, σ, h => by
    cases e with
    | normal => exact h
    | _ => exact un_mono k Q Q' hq _ _ h
theorem Go_cut (k1 : List Fr) {k2 : List Fr} {c : SC} {σ : St} {Q : Ex → St → Prop} (I : St → Prop)
    (h1 : Go P c k1 σ fun e σ' => e = .normal ∧ I σ') (h2 : ∀ σ', I σ' → Re P k2 .normal σ' Q) : Go P c (k1 ++ k2) σ Q := by
  unfold Go at h1 ⊢
  rw [un_append]
  exact WS_mono c σ _ _ (un_mono k1 (fun e σ' => e = .normal ∧ I σ') (un P k2 Q) fun e σ' h => by obtain ⟨rfl, h⟩ := h; exact h2 σ' h) h1
end
end Go.Rx
namespace Go.Rx
open Go.RowKit
section
variable {P : Program} {t : TypeId} {x y : Operand}
variable {k : List Fr} {σ : St} {Q : Ex → St → Prop} {l : List SOp} {L : Store} {ks : List Tmp}
end
end Go.Rx
namespace Go.Rx
open Go.RowKit
def ltB (a b : ByteArray) : Bool := Op.bytesLess a.data.toList b.data.toList
theorem less_irrefl : ∀ l : List UInt8, Op.bytesLess l l = false
  | [] => rfl
  | a :: l => by simp [Op.bytesLess, less_irrefl l, UInt8.lt_irrefl]
theorem less_trans : ∀ {x y z : List UInt8}, Op.bytesLess x y = true → Op.bytesLess y z = true → Op.bytesLess x z = true
  | _, [], _, h, _ => by simp [Op.bytesLess] at h
  | [], _ :: _, [], _, h => by simp [Op.bytesLess] at h
  | _ :: _, _ :: _, [], _, h => by simp [Op.bytesLess] at h
  | [], b :: y, c :: z, _, _ => rfl
  | a :: x, b :: y, c :: z, h1, h2 => by
    simp only [Op.bytesLess, Bool.or_eq_true, decide_eq_true_eq, Bool.and_eq_true, beq_iff_eq] at *
    rcases h1 with h1 | ⟨rfl, h1⟩
    · rcases h2 with h2 | ⟨rfl, h2⟩
      · exact .inl (UInt8.lt_trans h1 h2)
      · exact .inl h1
    · rcases h2 with h2 | ⟨rfl, h2⟩
      · exact .inl h2
      · exact .inr ⟨rfl, less_trans h1 h2⟩
theorem less_total : ∀ {x y : List UInt8}, Op.bytesLess x y = false → Op.bytesLess y x = false → x = y
  | [], [], _, _ => rfl
  | [], _ :: _, h, _ => by simp [Op.bytesLess] at h
  | _ :: _, [], _, h => by simp [Op.bytesLess] at h
  | a :: x, b :: y, h1, h2 => by
    simp only [Op.bytesLess, Bool.or_eq_false_iff, decide_eq_false_iff_not, Bool.and_eq_false_iff, beq_eq_false_iff_ne] at h1 h2
    obtain rfl : a = b := UInt8.le_antisymm (UInt8.not_lt.1 h2.1) (UInt8.not_lt.1 h1.1)
    rw [less_total (h1.2.resolve_left fun h => h rfl) (h2.2.resolve_left fun h => h rfl)]
theorem ltB_irrefl (a : ByteArray) : ltB a a = false := less_irrefl _
theorem ltB_trans {a b c : ByteArray} (h : ltB a b = true) (h' : ltB b c = true) : ltB a c = true := less_trans h h'
theorem ltB_total {a b : ByteArray} (h : ltB a b = false) (h' : ltB b a = false) : a = b := by
  obtain ⟨⟨x⟩⟩ := a
  obtain ⟨⟨y⟩⟩ := b
  rw [less_total (x := x) (y := y) h h']
theorem ltB_asymm {a b : ByteArray} (h : ltB a b = true) : ltB b a = false := by
  cases h' : ltB b a with
  | false => rfl
  | true => have := ltB_trans h h'; rw [ltB_irrefl] at this; cases this
theorem ltB_ne {a b : ByteArray} (h : ltB a b = true) : a ≠ b := fun e => by subst e; rw [ltB_irrefl] at h; cases h
section
variable {P : Program} {t : TypeId} {x y : Operand}
theorem toList_eq (a : ByteArray) : a.toList = a.data.toList := by exact ByteArray.toList_eq a
theorem eq_or (a b : ByteArray) : (a.data.toList == b.data.toList) = decide (a = b) := by
  obtain ⟨⟨x⟩⟩ := a
  obtain ⟨⟨y⟩⟩ := b
  by_cases h : x = y
  · subst h; simp
  · simp [h]
theorem bin_lts (a b : ByteArray) : binV P .lss t x y (one (.v (.string a))) (one (.v (.string b))) = some (one (.v (.bool (ltB a b)))) := by
  simp only [binV, plain2, plain, eqGuard, binOp, Op.stringOp, bind, pure, toList_eq]; rfl
theorem bin_ges (a b : ByteArray) : binV P .geq t x y (one (.v (.string a))) (one (.v (.string b))) = some (one (.v (.bool (!ltB a b)))) := by
  simp only [binV, plain2, plain, eqGuard, binOp, Op.stringOp, bind, pure, toList_eq]; rfl
theorem ltB_le (a b : ByteArray) : (ltB a b || decide (a = b)) = !ltB b a := by
  cases h : ltB a b with
  | true => rw [ltB_asymm h]; rfl
  | false =>
    cases h' : ltB b a with
    | true =>
      have : a ≠ b := fun e => ltB_ne h' e.symm
      simp [this]
    | false => simp [ltB_total h h']
theorem bin_les (a b : ByteArray) : binV P .leq t x y (one (.v (.string a))) (one (.v (.string b))) = some (one (.v (.bool (!ltB b a)))) := by
  rw [← ltB_le]
  simp only [binV, plain2, plain, eqGuard, binOp, Op.stringOp, bind, pure, toList_eq, eq_or]; rfl
theorem bin_gts (a b : ByteArray) : binV P .gtr t x y (one (.v (.string a))) (one (.v (.string b))) = some (one (.v (.bool (ltB b a)))) := by
  have := ltB_le a b
  rw [show ltB b a = !(ltB a b || decide (a = b)) by rw [this, Bool.not_not]]
  simp only [binV, plain2, plain, eqGuard, binOp, Op.stringOp, bind, pure, toList_eq, eq_or]; rfl
end
attribute [push_cast] bin_lts bin_ges bin_les bin_gts
end Go.Rx
namespace Go.Rx
open Go.RowKit
theorem ren_vR' (a b : Root) (R : List (List Value)) : (vR R).map (fun x => x.map (renC a b)) = vR R := by
  unfold vR
  rw [List.map_map]
  refine List.map_congr_left fun r _ => ?_
  simp only [Function.comp_apply, List.map_map]
  rfl
attribute [push_cast] ren_vR'
end Go.Rx
namespace Go.Rx
open Go.RowKit
structure BFr (w w' : World) (b : Nat) (row : Option Nat) : Prop where
  os : w'.os = w.os
  tape : w'.tape = w.tape
  output : w'.output = w.output
  size : w.heap.size ≤ w'.heap.size
  block : ∀ k, k < w.heap.size → k ≠ b → row ≠ some k → w'.heap[k]? = w.heap[k]?
def isBl : Kind → Bool
  | .bl .. => true
  | _ => false
def noBl : Store → Bool
  | [] => true
  | (_, ob) :: s => !isBl ob.kind && noBl s
section
variable {P : Program} {w w0 w' : World} {gh g0 : Gh} {σ : St} {a : Act}
variable {k : List Fr} {Q : Ex → St → Prop} {l : List SOp} {dst : Option Tmp} {f : FuncId} {as : Array Operand} {ats : Array TypeId} {ty : TypeId} {gd : Option (Tmp × Bool)}
end
attribute [push_cast] noBl isBl
end Go.Rx
namespace Go.Rx
open Go.RowKit
def appendM' := @appendM
theorem appendM_rs {P : Program} (t2 : List V) (d : Nat) (l g : Store) (N : Tmp) (t tx : TypeId) (r r2 : Root) (sz len szx lenX : Nat) :
    appendM P ⟨t2, d, l, g⟩ (some N) t tx (.x (.one (.rs r [] sz 0 len))) (.x (.one (.rs r2 [] szx 0 lenX))) = match tyElem P t, tyElem P tx with
      | some e, some _ => match tyZero P e, tySz P e, tyBytes P e, getA l r, getA l r2 with
        | some zs, some s, some bytes, some ⟨.sl, sz2, R⟩, some ⟨.sl, sz3, X⟩ =>
          if zs.length = s ∧ 0 < s ∧ szx = s ∧ sz = s ∧ sz2 = s ∧ sz3 = s ∧ len = R.length ∧ lenX = X.length ∧ r ≠ r2 ∧ ownRows X = true ∧ dropOk d (delA (killL r2 (killL r l)) r) g (t2.map (killV r)) = true ∧
              dropOk d (delA (((d, N * 64), ⟨.sl, s, []⟩) :: delA (killL r2 (killL r l)) r) r2) g ((t2.map (killV r)).map (killV r2)) = true ∧ (getA (delA (killL r2 (killL r l)) r) (d, N * 64)).isNone = true ∧
              R.length + X.length ≤ 9223372036854775807 ∧ ((R.length + X.length) + (R.length + X.length) / 4 + 192) * bytes ≤ 281474976710656 then
            some (put ⟨(t2.map (killV r)).map (killV r2), d, ((d, N * 64), ⟨.sl, s, R ++ X⟩) :: delA (delA (killL r2 (killL r l)) r) r2, g⟩ (some N) (.x (.one (.rs (d, N * 64) [] s 0 (R.length + X.length)))))
          else appendM' P ⟨t2, d, l, g⟩ (some N) t tx (.x (.one (.rs r [] sz 0 len))) (.x (.one (.rs r2 [] szx 0 lenX)))
        | _, _, _, _, _ => appendM' P ⟨t2, d, l, g⟩ (some N) t tx (.x (.one (.rs r [] sz 0 len))) (.x (.one (.rs r2 [] szx 0 lenX)))
      | _, _ => appendM' P ⟨t2, d, l, g⟩ (some N) t tx (.x (.one (.rs r [] sz 0 len))) (.x (.one (.rs r2 [] szx 0 lenX))) := by
  split
  · rename_i e e' he he'
    split
    · rename_i zs s bytes sz2 R sz3 X h1 h2 h3 h4 h5
      split
      · rename_i hc
        obtain ⟨z, hz, hzs⟩ := tyZero_eq h1
        have hs : (P.info? e).map (·.size) = some s := h2
        have hb : (P.info? e).map (·.bytes) = some bytes := h3
        obtain ⟨c1, c2⟩ := hc
        unfold appendM
        simp only [he, he', hz, hs, hb, h4, h5]
        rw [if_pos ⟨by rw [hzs]; exact c1, c2⟩]
      · rfl
    · rfl
  · rfl
theorem appendM_sh {P : Program} {σ : St} {d : Option Tmp} {t tx : TypeId} {s : V} {sz : Nat} {R : List (List C)} : appendM P σ d t tx s (.x (.one (.sh sz R))) = none := by
  unfold appendM
  repeat' split
  all_goals first | rfl | (have h := ‹V.x (X.one (C.sh _ _)) = V.x (X.one (C.rs _ _ _ _ _))›; cases h)
theorem appendM_nil {P : Program} {σ : St} {d : Option Tmp} {t tx : TypeId} {s : V} {x : Value} : appendM P σ d t tx s (.x (.one (.v x))) = none := by
  unfold appendM
  repeat' split
  all_goals first | rfl | (have h := ‹V.x (X.one (C.v _)) = V.x (X.one (C.rs _ _ _ _ _))›; cases h)
def appendG' := @appendG
theorem appendG_rs {P : Program} (t2 : List V) (d : Nat) (l g : Store) (N : Tmp) (t tx : TypeId) (r : Root) (sz len : Nat) (x : V) :
    appendG P ⟨t2, d, l, g⟩ (some N) t tx (.x (.one (.rs r [] sz 0 len))) x = match tyElem P t with
      | some e => match tyZero P e, tySz P e, tyBytes P e, srcRows P (l ++ g) tx x, getA l r, getA g r with
        | some zs, some s, some bytes, some (szx, X), none, some ⟨.sl, sz2, R⟩ =>
          if zs.length = s ∧ 0 < s ∧ szx = s ∧ sz = s ∧ sz2 = s ∧ len = R.length ∧ flatRows X = true ∧ (getA l (d, N * 64)).isNone = true ∧
              R.length + X.length ≤ 9223372036854775807 ∧ ((R.length + X.length) + (R.length + X.length) / 4 + 192) * bytes ≤ 281474976710656 then
            some (put ⟨t2.map (killV r), d, ((d, N * 64), ⟨.sl, s, R ++ X⟩) :: delA (killL r l) r, delA (killL r g) r⟩ (some N) (.x (.one (.rs (d, N * 64) [] s 0 (R.length + X.length)))))
          else appendG' P ⟨t2, d, l, g⟩ (some N) t tx (.x (.one (.rs r [] sz 0 len))) x
        | _, _, _, _, _, _ => appendG' P ⟨t2, d, l, g⟩ (some N) t tx (.x (.one (.rs r [] sz 0 len))) x
      | none => appendG' P ⟨t2, d, l, g⟩ (some N) t tx (.x (.one (.rs r [] sz 0 len))) x := by
  split
  · rename_i e he
    split
    · rename_i zs s bytes szx X sz2 R h1 h2 h3 h4 h5 h6
      split
      · rename_i hc
        obtain ⟨z, hz, hzs⟩ := tyZero_eq h1
        have hs : (P.info? e).map (·.size) = some s := h2
        have hb : (P.info? e).map (·.bytes) = some bytes := h3
        obtain ⟨c1, c2⟩ := hc
        unfold appendG
        simp only [he, hz, hs, hb]
        rw [show srcRows P (St.o ⟨t2, d, l, g⟩) tx x = some (szx, X) from h4]
        simp only [h5, h6]
        rw [if_pos ⟨by rw [hzs]; exact c1, c2⟩]
      · rfl
    · rfl
  · rfl
theorem appendC_rs {P : Program} (t2 : List V) (d : Nat) (l g : Store) (N : Tmp) (t tx : TypeId) (r : Root) (sz off len : Nat) (x : V) :
    appendC P ⟨t2, d, l, g⟩ (some N) t tx (.x (.one (.rs r [] sz off len))) x = match tyElem P t with
      | some e => match tyZero P e, tySz P e, tyBytes P e, srcRows P (l ++ g) tx x with
        | some zs, some s, some bytes, some (szx, X) => match getA l r with
          | some ⟨.sl, sz2, R⟩ =>
            if 0 < len ∧ zs.length = s ∧ 0 < s ∧ szx = s ∧ sz = s ∧ sz2 = s ∧ off + len = R.length ∧ flatRows X = true ∧ dropOk d (delA (killL r l) r) g (t2.map (killV r)) = true ∧ (getA (delA (killL r l) r) (d, N * 64)).isNone = true ∧
                len + X.length ≤ 9223372036854775807 ∧ ((len + X.length) + (len + X.length) / 4 + 192) * bytes ≤ 281474976710656 then
              some (put ⟨t2.map (killV r), d, delA (killL r l) r, g⟩ (some N) (.x (.one (.sh s (toShRR (R.drop off ++ X))))))
            else none
          | _ => none
        | _, _, _, _ => none
      | none => none := by
  unfold appendC
  cases tyElem P t <;> rfl
attribute [push_cast] appendG_rs appendC_rs
attribute [push_cast] appendM_rs appendM_sh appendM_nil buildM ownRows ownOk
end Go.Rx
namespace Go.Rx
open Go.RowKit
section
variable {P : Program}
end
end Go.Rx
