/- A law of one bool: its row, out of the contract. -/
import Derived.Test.YtbnabpmfdnfigaaRxU
import Derived.WalkKit
import Derived.ProofKit
import Derived.OpenShut
import Derived.ShutString
import Derived.Below
import Derived.SizedLaws
import Derived.JoinedOf
namespace Go.Rx
open Go.RowKit Go.ChangeShapes Go.WideShapes

/-- A whole argument, by its type's shape. -/
def HasX : Kt → X → Prop
  | .st fs, x => ∃ cs, x = .agg cs ∧ HasKts fs cs
  | .bool, x => ∃ c, x = .one c ∧ HasKt .bool [c]
  | .int k, x => ∃ c, x = .one c ∧ HasKt (.int k) [c]
  | .str, x => ∃ c, x = .one c ∧ HasKt .str [c]
  | .sl sz b e, x => ∃ c, x = .one c ∧ HasKt (.sl sz b e) [c]
def HasXs : List Kt → List X → Prop
  | [], xs => xs = []
  | K :: Ks, xs => ∃ x ys, xs = x :: ys ∧ HasX K x ∧ HasXs Ks ys

def kts (P : Program) (m : Nat) : List TypeId → Option (List Kt)
  | [] => some []
  | t :: ts => match kt P m t, kts P m ts with
    | some K, some Ks => some (K :: Ks)
    | _, _ => none

section
variable {H : Type} {enc : TypeId × Value → H} {P : Program} {w : World} {spare : Nat → Bool} {held : Bool}

theorem XR_of_sh {c : C} {v : Value} (h : Sh w (fun k => k < w.heap.size) c v) : CR w [] (Sall w) none c v := by
  cases h with
  | v x => rfl
  | nil sz => exact Sh.nil sz
  | slice sz R a len cap vals h1 h2 h3 h4 h5 h6 h7 => exact Sh.slice sz R a len cap vals h1 h2 h3 h4 h5 h6 h7
  | ptr cs a vals h1 h2 h3 => exact Sh.ptr cs a vals h1 h2 h3
  | bad x => trivial

theorem cells_one {v : Value} (h : ∀ cs, v ≠ .agg cs) : v.cells.toList = [v] := by
  cases v <;> first | rfl | exact absurd rfl (h _)

theorem open_arg {m : Nat} {t : TypeId} {K : Kt} {v : Value} {d : DataW H} {ps : List MemPlace} {r : Reach} {b0 : Nat} (hk : kt P m t = some K) (hv : Value.okWide P w r b0 t v) (h : DataW.Trod enc P w 0 spare held t v d ps)
    (hw : (d.weights P t).all (· ≤ reachBytes) = true) : ∃ x, HasX K x ∧ XR w [] (Sall w) x v := by
  obtain ⟨n, hn⟩ := h
  obtain ⟨cs, h1, h2⟩ := open_kt n m t K _ _ hk hn hw
  have one : (∀ cs, v ≠ .agg cs) → ∃ c, cs = [c] ∧ CR w [] (Sall w) none c v := fun hne => by
    rw [cells_one hne] at h2
    have hl := h2.len
    match cs, hl with
    | [c], _ =>
      exact ⟨c, rfl, XR_of_sh (h2.sh 0 (by simp))⟩
  match m with
  | 0 => simp [kt] at hk
  | m + 1 =>
    simp only [kt] at hk
    split at hk
    · rename_i ht
      cases hk
      obtain ⟨b, rfl⟩ := okWide_bool ht hv
      obtain ⟨c, rfl, hc⟩ := one (fun _ h => by cases h)
      exact ⟨.one c, ⟨c, rfl, h1⟩, hc⟩
    · rename_i k ht
      cases hk
      obtain ⟨b, rfl⟩ := okWide_int ht hv
      obtain ⟨c, rfl, hc⟩ := one (fun _ h => by cases h)
      exact ⟨.one c, ⟨c, rfl, h1⟩, hc⟩
    · rename_i ht
      cases hk
      obtain ⟨b, rfl⟩ := okWide_string ht hv
      obtain ⟨c, rfl, hc⟩ := one (fun _ h => by cases h)
      exact ⟨.one c, ⟨c, rfl, h1⟩, hc⟩
    · rename_i e ht
      split at hk
      case isFalse => cases hk
      simp only [Option.map_eq_some_iff] at hk
      obtain ⟨K', hK', rfl⟩ := hk
      obtain ⟨a, l, c, rfl⟩ := okWide_slice ht hv
      obtain ⟨c, rfl, hc⟩ := one (fun _ h => by cases h)
      exact ⟨.one c, ⟨c, rfl, h1⟩, hc⟩
    · rename_i fs ht
      obtain ⟨vs, rfl, hvs⟩ := okWide_struct ht hv
      split at hk
      · split at hk
        · cases hk
          have e : (Value.agg vs).cells.toList = vs.toList := rfl
          rw [e] at h2
          refine ⟨.agg cs, ⟨cs, rfl, by simpa only [HasKt] using h1⟩, vs.toList, by simp, h2.len.symm, fun j hj => ?_⟩
          exact XR_of_sh (h2.sh j hj)
        · cases hk
      · cases hk
    · cases hk

theorem open_args {m : Nat} {r : Reach} {b0 : Nat} : ∀ {ts : List TypeId} {Ks : List Kt} {vs : List Value} {ds : List (DataW H)} {ps : List MemPlace}, kts P m ts = some Ks → DataW.TrodAll enc P w 0 spare held ts vs ds ps →
    (∀ (j : Nat) (t : TypeId) (v : Value), ts[j]? = some t → vs[j]? = some v → Value.okWide P w r b0 t v) → (DataW.weightsEach P ts ds).all (· ≤ reachBytes) = true →
    ds.length = ts.length ∧ ∃ xs, HasXs Ks xs ∧ vs.length = xs.length ∧ ∀ i, i < xs.length → XR w [] (Sall w) (xs.getD i (.one .bad)) (vs.getD i undef)
  | [], Ks, vs, ds, ps, hk, h, _, _ => by
    obtain rfl : Ks = [] := by simpa [kts] using hk.symm
    obtain ⟨rfl, rfl, rfl⟩ := trodAll_nil h
    exact ⟨rfl, [], by simp [HasXs], rfl, fun i hi => absurd hi (Nat.not_lt_zero _)⟩
  | t :: ts, Ks, vs, ds, ps, hk, h, hv, hw => by
    simp only [kts] at hk
    split at hk
    · rename_i K Ks' hK hKs
      cases hk
      obtain ⟨v, vs', d, ds', p, q, rfl, rfl, rfl, h1, h2⟩ := trodAll_cons h
      simp only [DataW.weightsEach, List.all_append, Bool.and_eq_true] at hw
      obtain ⟨x, hx, hr⟩ := open_arg hK (hv 0 t v rfl rfl) h1 hw.1
      obtain ⟨hl, xs, hxs, hlen, hrs⟩ := open_args hKs h2 (fun j t v ht hv' => hv (j + 1) t v (by simpa using ht) (by simpa using hv')) hw.2
      refine ⟨by simp [hl], x :: xs, ⟨x, xs, rfl, hx, hxs⟩, by simp [hlen], fun i hi => ?_⟩
      cases i with
      | zero => simpa using hr
      | succ i => simpa using hrs i (by simpa using hi)
    · cases hk

/-- The types of a list can be read again. -/
def rowsOk (P : Program) (ts : List TypeId) : Bool := ts.all fun t => P.readableRec t && decide (t < P.types.size)

theorem trodAll_lt : ∀ {ts : List TypeId} {vs : List Value} {ds : List (DataW H)} {ps : List MemPlace}, DataW.TrodAll enc P w 0 spare held ts vs ds ps → ∀ p ∈ ps, p.block < w.heap.size
  | [], vs, ds, ps, h, p, hp => by obtain ⟨rfl, rfl, rfl⟩ := trodAll_nil h; cases hp
  | t :: ts, vs, ds, ps, h, p, hp => by
    obtain ⟨v, vs', d, ds', p1, q, rfl, rfl, rfl, ⟨m, hm⟩, h2⟩ := trodAll_cons h
    rcases List.mem_append.1 hp with hp | hp
    · exact DataW.trod_lt m _ _ _ hm p hp
    · exact trodAll_lt h2 p hp

theorem back_all (laid : laidOutB P = true) {w' : World} (hb : Below w.heap.size w w') : ∀ {ts : List TypeId} {vs : List Value} {ds : List (DataW H)} {ps : List MemPlace}, rowsOk P ts = true → DataW.TrodAll enc P w 0 (fun _ => true) true ts vs ds ps →
    DataW.TrodAll enc P w' 0 (fun b => decide (b < w.heap.size)) true ts vs ds ps
  | [], vs, ds, ps, _, h => by obtain ⟨rfl, rfl, rfl⟩ := trodAll_nil h; rfl
  | t :: ts, vs, ds, ps, hr, h => by
    obtain ⟨v, vs', d, ds', p, q, rfl, rfl, rfl, h1, h2⟩ := trodAll_cons h
    simp only [rowsOk, List.all_cons, Bool.and_eq_true, decide_eq_true_eq] at hr
    obtain ⟨m, hm⟩ := h1
    exact trodAll_cons_mk (Below.trod laid hr.1.1 hr.1.2 ⟨m, hm⟩ hb (fun x hx => DataW.trod_lt m _ _ _ hm x hx)) (back_all laid hb (by simpa only [rowsOk] using hr.2) h2)
end

theorem keep_below {w w' : World} {g : Gh} (h : Keep (Sall w) w g w') : Below w.heap.size w w' := ⟨h.os, h.tape, h.output, h.size, fun k hk => h.block k hk⟩

/-- A LAW'S ROW: of the contract for all that the arguments' types have. -/
theorem law_lifted {a : Assume} {C : Checked} {f : FuncId} {fn : Func} {s : ChangeSpec} {conds : List PathCond} {H : Type} {enc : TypeId × Value → H} {apart : Bool} (os : Os) (started : os.Started)
    (own : ownKnob C.prog.godebug = none) (laid : laidOutB C.prog = true) (noInit : C.prog.inits.idxOf? f = none) (hfn : C.prog.funcs[f]? = some fn)
    (witness : ∃ (w : World) (tape : Tape) (i : Input), w.os = os ∧ (w.forCall tape i).Shaped C.prog ∧ i.vars = [] ∧ Input.okWide C.prog (w.forCall tape i) .any w.heap.size f i ∧
      s.pre6 enc C.prog fn conds apart (w.forCall tape i).memory i.args ∧ a.holds C.prog (lone (Frame.enter C.prog f i.args .normal) [] (w.forCall tape i)))
    {m : Nat} {Ks : List Kt} {ts : List TypeId} {rt : TypeId} (hts : fn.params = ts.toArray) (hkt : kts C.prog m ts = some Ks) (hrows : rowsOk C.prog ts = true) (hres : fn.resultTypes = #[rt]) (hrt : C.prog.underlying rt = some .bool)
    (hvars : s.vars = []) (hspec : ∀ ds : List (DataW H), ds.length = ts.length → s.fn H ds = { results := [.lit (.bool true)], args := ds })
    (law : ∀ xs, HasXs Ks xs → PureFn C.prog f xs [.one (.v (.bool true))]) :
    ReturnsInHanded a C os f .any (s.pre6 enc C.prog fn conds apart) (s.post enc C.prog fn apart true false false) := by
  refine returnsInHanded_of_change_sized own started noInit hfn witness ?_
  intro W base args ds gs before hval hW _ hsz _
  have hW' := hW
  obtain ⟨p, q, hA, hV, rfl, _, _⟩ := hW
  rw [hvars] at hV
  obtain ⟨rfl, rfl⟩ := trodVars_none hV
  have hpl : s.plain.varTypes C.prog = [] := by simp [ChangeSpec.plain, DataSpec.varTypes, hvars]
  rw [hts] at hA hval
  rw [hpl, hts] at hsz
  simp only [List.append_nil] at hsz
  obtain ⟨hl, xs, hxs, hlen, hr⟩ := open_args hkt hA (fun j t v ht hv => hval j t v (by simpa using ht) (by simpa using hv)) hsz
  have hc := (law xs hxs).2 W args.toList hlen hr
  rw [show args.toList.toArray = args by simp] at hc
  refine hc.mono fun e W' h => ?_
  obtain ⟨g, zs, rfl, hret, hk⟩ := h
  have hb := keep_below hk
  have hz1 : zs.length = 1 := hret.len
  have hz0 : zs.getD 0 undef = .bool true := hret.cells 0 (by simp [retRow, cellsOf])
  obtain ⟨z, rfl⟩ : ∃ z, zs = [z] := by
    match zs, hz1 with
    | [z], _ => exact ⟨z, rfl⟩
  obtain rfl : z = .bool true := hz0
  refine ⟨_, rfl, ds, [], p ++ [], [], p, [], hW', ?_, ?_, ?_, hb.frame _, fun h => by cases h⟩
  · rw [List.append_nil, hspec ds hl, hres]
    exact trodAll_mk1 (shut_bool hrt _)
  · rw [List.append_nil, hspec ds hl, hts]
    exact back_all laid hb hrows hA
  · rw [List.append_nil, hspec ds hl, hvars]; rfl

theorem rows_dec {α : Type} (f : α → List C) (p : α → Prop) {K : Kt} (h : ∀ r, HasKt K r → ∃ x, r = f x ∧ p x) : ∀ R : List (List C), (∀ r ∈ R, HasKt K r) → ∃ xs : List α, R = xs.map f ∧ ∀ x ∈ xs, p x
  | [], _ => ⟨[], rfl, fun x hx => by cases hx⟩
  | r :: R, hr => by
    obtain ⟨x, rfl, hx⟩ := h r (hr r (.head _))
    obtain ⟨xs, rfl, hxs⟩ := rows_dec f p h R (fun r' hr' => hr r' (.tail _ hr'))
    refine ⟨x :: xs, rfl, fun y hy => ?_⟩
    cases hy with
    | head => exact hx
    | tail _ hy => exact hxs y hy
end Go.Rx
