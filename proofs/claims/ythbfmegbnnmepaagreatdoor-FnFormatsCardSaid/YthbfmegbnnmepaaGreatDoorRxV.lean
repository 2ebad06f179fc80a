/- An abstract machine over data, part V. -/
import Derived.Test.YthbfmegbnnmepaaGreatDoorRxIV
import Derived.Stop.Joined
import Derived.Stop.LaidErr
import Derived.LaidLaws
import Derived.Deep.DeepLaidRun
/- A law's row that lists library tables. -/
namespace Go.Rx
open Go.RowKit Go.ChangeShapes Go.WideShapes
variable {H : Type} {enc : TypeId × Value → H}
theorem tabIs_mem {P : Program} {W : World} {name : String} {k : IntKind} {zs : List Int} {g : Nat} {t e : TypeId} {n : Nat} (hg : P.globalNamed name = some g) (hty : (P.globals[g]?).map (·.type) = some t)
    (ht : P.underlying t = some (.array n e)) (he : P.underlying e = some (.int k)) (hce : P.cellsOf e = 1) (hct : P.cellsOf t = n) : ∀ {ld : List (String × DataW Unit)}, (name, Lib.tabData k zs) ∈ ld → laidMet P ld W → Lib.TabIs P W name k zs
  | x :: r, hm, h => by
    rcases List.mem_cons.1 hm with rfl | hm
    · exact Lib.tabIs_of_head hg hty ht he hce hct h
    · exact tabIs_mem hg hty ht he hce hct hm (laidMet.tail h)
theorem tb_laid {P : Program} {ld : List (String × DataW Unit)} {g : Nat} {t e : TypeId} {n : Nat} (hg : P.globalNamed "internal/strconv.uint64pow10" = some g) (hty : (P.globals[g]?).map (·.type) = some t)
    (ht : P.underlying t = some (.array n e)) (he : P.underlying e = some (.int .u64)) (hce : P.cellsOf e = 1) (hct : P.cellsOf t = n) (hm : ("internal/strconv.uint64pow10", Lib.tabData .u64 Lib.pow10Tab) ∈ ld) (W : World) (h : laidMet P ld W) : Tb P (Sall W) W :=
  ⟨fun nm k zs v hmem hv => by
    obtain ⟨rfl, rfl, rfl⟩ : nm = "internal/strconv.uint64pow10" ∧ k = .u64 ∧ zs = Lib.pow10Tab := by
      simp only [tabs, List.mem_singleton, Prod.mk.injEq] at hmem; exact hmem
    have hT := tabIs_mem hg hty ht he hce hct hm h
    refine ⟨?_, hT⟩
    unfold Lib.TabIs World.var? at hT
    rw [hv] at hT
    simp only [Option.bind_some] at hT
    show v < W.heap.size
    cases hw : W.heap[v]? with
    | none => rw [hw] at hT; cases hT
    | some o => exact (Array.getElem?_eq_some_iff.1 hw).1⟩
/-- The settled world with tables laid. -/
def litI : DataW Unit → Option Value
  | .lit (.int k n) => some (Value.int k n)
  | _ => none
def litsI : DataW Unit → List Value
  | .lit (.int k n) => [Value.int k n]
  | .agg ds => ds.filterMap litI
  | _ => []
def laidTabs (P : Program) (ld : List (String × DataW Unit)) : List (Nat × Array Value) := ld.filterMap fun x => match P.globalNamed x.1, x.2 with
  | some g, .agg ds => some (g, (ds.flatMap litsI).toArray)
  | _, _ => none
noncomputable def laidW (P : Program) (ld : List (String × DataW Unit)) (os : Os) : World :=
  let w0 := World.holding P os ⟨#[], #[], []⟩
  { w0 with heap := (laidTabs P ld).foldl (fun h p => h.modify p.1 fun | .cells _ t f => .cells p.2 t f | o => o) w0.heap }

/-- A LAW'S ROW, tables listed. -/
theorem law_laid {C : Checked} {f : FuncId} {fn : Func} {s : ChangeSpec} {conds : List PathCond} {apart : Bool} {ld : List (String × DataW Unit)} (os : Os) (started : os.Started)
    (own : ownKnob C.prog.godebug = none) (laid : laidOutB C.prog = true) (noInit : C.prog.inits.idxOf? f = none) (hfn : C.prog.funcs[f]? = some fn)
    (witness : ∃ (w : World) (tape : Tape) (i : Input), w.os = os ∧ (w.forCall tape i).Shaped C.prog ∧ i.vars = [] ∧ Input.okWide C.prog (w.forCall tape i) .any w.heap.size f i ∧
      ((s.pre enc C.prog fn conds apart (w.forCall tape i).memory i.args ∧ laidMetH C.prog ld (w.forCall tape i).memory) ∧ sizedMet enc C.prog fn (OpenSpec.ofChange s) apart (w.forCall tape i).memory i.args) ∧ ({} : Assume).holds C.prog (lone (Frame.enter C.prog f i.args .normal) [] (w.forCall tape i)))
    {m : Nat} {Ks : List Kt} {ts : List TypeId} {rt : TypeId} (hts : fn.params = ts.toArray) (hkt : kts C.prog m ts = some Ks) (hrows : rowsOk C.prog ts = true) (hres : fn.resultTypes = #[rt]) (hrt : C.prog.underlying rt = some .bool)
    (hvars : s.vars = []) (hspec : ∀ ds : List (DataW H), ds.length = ts.length → s.fn H ds = { results := [.lit (.bool true)], args := ds })
    (htb : ∀ W, laidMetH C.prog ld W → Tb C.prog (Sall W) W)
    (law : ∀ xs, HasXs Ks xs → PureFn C.prog f xs [.one (.v (.bool true))]) :
    ReturnsInHanded {} C os f .any (fun w args => (s.pre enc C.prog fn conds apart w args ∧ laidMetH C.prog ld w) ∧ sizedMet enc C.prog fn (OpenSpec.ofChange s) apart w args) (s.post enc C.prog fn apart true false false) := by
  refine returnsInHanded_of_change_and (X := fun w _ => laidMetH C.prog ld w) (fun _ _ _ hh h => h.of_heap hh) own started noInit hfn witness ?_
  intro W base args ds gs before hval hW _ hsz hL _
  have hW' := hW
  obtain ⟨p, q, hA, hV, rfl, _, _⟩ := hW
  rw [hvars] at hV
  obtain ⟨rfl, rfl⟩ := trodVars_none hV
  have hpl : s.plain.varTypes C.prog = [] := by simp [ChangeSpec.plain, DataSpec.varTypes, hvars]
  rw [hts] at hA hval
  rw [hpl, hts] at hsz
  simp only [List.append_nil] at hsz
  obtain ⟨hl, xs, hxs, hlen, hr⟩ := open_args hkt hA (fun j t v ht hv => hval j t v (by simpa using ht) (by simpa using hv)) hsz
  have := htb W hL
  have hc := (law xs hxs).2 W args.toList hlen hr
  rw [show args.toList.toArray = args by simp] at hc
  refine hc.mono fun e W' h => ?_
  obtain ⟨g, zs, rfl, hret, hk⟩ := h
  have hb := keep_below hk
  have hz1 : zs.length = 1 := hret.len
  have hz0 : zs.getD 0 undef = .bool true := hret.cells 0 (by simp [retRow, cellsOf])
  obtain ⟨z, rfl⟩ : ∃ z, zs = [z] := by
    match zs, hz1 with
    | [z], _ => exact ⟨z, rfl⟩
  obtain rfl : z = .bool true := hz0
  refine ⟨_, rfl, ds, [], p ++ [], [], p, [], hW', ?_, ?_, ?_, hb.frame _, fun h => by cases h⟩
  · rw [List.append_nil, hspec ds hl, hres]
    exact trodAll_mk1 (shut_bool hrt _)
  · rw [List.append_nil, hspec ds hl, hts]
    exact back_all laid hb hrows hA
  · rw [List.append_nil, hspec ds hl, hvars]; rfl
end Go.Rx
