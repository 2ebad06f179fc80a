/- The operations that only compute or read, over data; each one's run in the model. -/
import Derived.Test.YtbnabpmfdnfigaaRxB
namespace Go.Rx
open Go.RowKit

def partX (ag : Bool) (sz off : Nat) (cs : List C) : Option X :=
  if ag then some (.agg ((cs.drop off).take sz)) else (cs[off]?).map .one

def plain2 (a b : V) : Option (Value × Value) :=
  match plain a, plain b with
  | some x, some y => some (x, y)
  | _, _ => none

def binV (P : Program) (op : BinOp) (t : TypeId) (x y : Operand) (a b : V) : Option V :=
  match plain2 a b with
  | some (a, b) => (pureIn P (do eqGuard op t x y a b; binOp op t a b)).map ofVal
  | none => none

def nilV : V → Option V
  | .x (.one (.pt r p sz i j)) => some (.x (.one (.pt r p sz i j)))
  | .x (.one (.ps cs)) => some (.x (.one (.ps cs)))
  | _ => none

def fieldV (P : Program) (t : TypeId) (f : Nat) : V → Option V
  | .x (.agg cs) => match tyFld P t f with
    | some (off, ft) => match tyAgg P ft, tySz P ft with
      | some ag, some sz => (partX ag sz off cs).map .x
      | _, _ => none
    | none => none
  | _ => none

def extractV (i : Nat) : V → Option V
  | .tup xs => (xs[i]?).map .x
  | _ => none

def fieldAddrV (P : Program) (s : TypeId) (f : Nat) (a : V) : Option V :=
  match tyFld P s f with
  | some (off, ft) => match tySz P ft with
    | some (_ + 1) => match a with
      | .x (.one (.pt r p sz i j)) => some (.x (.one (.pt r p sz i (j + off))))
      | .x (.one (.ps cs)) => some (.x (.one (.ps (cs.drop off))))
      | _ => none
    | _ => none
  | none => none

def indexAddrV (P : Program) (t : TypeId) (a i : V) : Option V :=
  match tyElem P t, plain i with
  | some e, some (.int _ n) => match tySz P e with
    | some s => match a with
      | .x (.one (.rs r p sz off len)) => if sz = s ∧ 0 ≤ n ∧ n < len then some (.x (.one (.pt r p sz (off + n.toNat) 0))) else none
      | .x (.one (.sh sz R)) => if sz = s ∧ 0 ≤ n ∧ n < R.length then some (.x (.one (.ps (R.getD n.toNat [])))) else none
      | _ => none
    | none => none
  | _, _ => none

def loadV (P : Program) (o : Store) (t : TypeId) (a : V) : Option V :=
  match tyAgg P t, tySz P t with
  | some ag, some n => match a with
    | .x (.one (.ps cs)) => if n ≤ cs.length ∧ (ag = true ∨ n = 1) then (partX ag n 0 cs).map .x else none
    | .x (.one (.pt r p sz i j)) => match getA o r with
      | some ob => match rowsAt ob.sz ob.rows p with
        | some (sz', R) => if sz' = sz ∧ i < R.length ∧ j + n ≤ sz ∧ (ag = true ∨ n = 1) then (partX ag n 0 (delocs r p i j (((R.getD i []).drop j).take n))).map .x else none
        | none => none
      | none => none
    | _ => none
  | _, _ => none

def lenV : V → Option V
  | .x (.one (.rs _ _ _ _ len)) => some (.x (.one (.v (.int .i64 len))))
  | .x (.one (.sh _ R)) => some (.x (.one (.v (.int .i64 R.length))))
  | .x (.one (.v (.string s))) => some (.x (.one (.v (.int .i64 s.size))))
  | .x (.one (.v (.slice none 0 0))) => some (.x (.one (.v (.int .i64 0))))
  | _ => none

section
variable {P : Program} {w : World} {o : Store} {g : Gh}

theorem partX_rel {ag : Bool} {sz off : Nat} {cs : List C} {x : X} {ys : List Value} (h : partX ag sz off cs = some x) (hl : ys.length = cs.length)
    (hc : ∀ j, j < cs.length → CR w o g none (cs.getD j .bad) (ys.getD j undef)) :
    XR w o g x (if ag then .agg ((ys.drop off).take sz).toArray else ys.getD off undef) ∧ (ag = false → off < ys.length) := by
  unfold partX at h
  cases ag with
  | true =>
    simp only [if_true, Option.some.injEq] at h ⊢
    subst h
    refine ⟨⟨_, rfl, by simp [hl], fun j hj => ?_⟩, by simp⟩
    have hj' : j < min sz (cs.length - off) := by simpa using hj
    have := hc (off + j) (by omega)
    simp only [List.getD_eq_getElem?_getD, List.getElem?_take, List.getElem?_drop] at this ⊢
    rw [if_pos (by omega), if_pos (by omega)]
    exact this
  | false =>
    simp only [Bool.false_eq_true, if_false, Option.map_eq_some_iff] at h ⊢
    obtain ⟨c, h1, rfl⟩ := h
    have hlt : off < cs.length := by
      rcases Nat.lt_or_ge off cs.length with h' | h'
      · exact h'
      · simp [List.getElem?_eq_none h'] at h1
    refine ⟨?_, fun _ => by omega⟩
    have := hc off hlt
    simp only [List.getD_eq_getElem?_getD, h1, Option.getD_some] at this
    simpa [XR, List.getD_eq_getElem?_getD] using this

theorem plain2_eq {a b : V} {x y x' y' : Value} (h : plain2 a b = some (x', y')) (ha : VR w o g a x) (hb : VR w o g b y) : x = x' ∧ y = y' := by
  unfold plain2 at h
  split at h
  · rename_i u v hu hv
    cases h
    exact ⟨plain_eq hu ha, plain_eq hv hb⟩
  · cases h

theorem tySz_run {t : TypeId} {n : Nat} (h : tySz P t = some n) (w : World) : (sizeOf t).run P w = .ok n w := by
  unfold tySz at h
  simp only [Option.map_eq_some_iff] at h
  obtain ⟨i, h1, rfl⟩ := h
  simp [sizeOf, typeInfo, program, h1, Sem.run]

theorem tyAgg_run {t : TypeId} {b : Bool} (h : tyAgg P t = some b) (w : World) : (isAgg t).run P w = .ok b w := by
  unfold tyAgg at h
  simp only [Option.map_eq_some_iff] at h
  obtain ⟨d, h1, rfl⟩ := h
  simp only [isAgg, Sem.run_bind, run_underlying h1, Result.andThen_ok]
  cases d <;> rfl

theorem tyFld_spec {s : TypeId} {f off : Nat} {ft : TypeId} (h : tyFld P s f = some (off, ft)) : ∃ fs fd, P.underlying s = some (.struct fs) ∧ fs[f]? = some fd ∧ fd.offset = off ∧ fd.type = ft := by
  unfold tyFld at h
  split at h
  · rename_i fs hfs
    simp only [Option.map_eq_some_iff, Prod.mk.injEq] at h
    obtain ⟨fd, h1, h2, h3⟩ := h
    exact ⟨fs, fd, hfs, h1, h2, h3⟩
  · cases h

theorem tyElem_spec {t e : TypeId} (h : tyElem P t = some e) : P.underlying t = some (.slice e) := by
  unfold tyElem at h
  split at h
  · rename_i e' he; cases h; exact he
  · cases h

theorem binV_run {op : BinOp} {t : TypeId} {x y : Operand} {a b r : V} {u v : Value} (h : binV P op t x y a b = some r) (ha : VR w o g a u) (hb : VR w o g b v) :
    ∃ z, (do eqGuard op t x y u v; binOp op t u v : Sem Value).run P w = .ok z w ∧ VR w o g r z := by
  unfold binV at h
  split at h
  · rename_i a' b' hp
    obtain ⟨rfl, rfl⟩ := plain2_eq hp ha hb
    simp only [Option.map_eq_some_iff] at h
    obtain ⟨z, h1, rfl⟩ := h
    exact ⟨z, pureIn_run h1 w, ofVal_rel z⟩
  · cases h

theorem nilV_run {a r : V} {u : Value} (h : nilV a = some r) (ha : VR w o g a u) : r = a ∧ ∃ q, u = .pointer (some q) := by
  unfold nilV at h
  split at h
  · cases h
    obtain ⟨R, b, _, _, _, hy⟩ := ha
    exact ⟨rfl, _, hy⟩
  · cases h
    cases ha
    exact ⟨rfl, _, rfl⟩
  · cases h

theorem fieldV_run {t : TypeId} {f : Nat} {a r : V} {u : Value} (h : fieldV P t f a = some r) (ha : VR w o g a u) :
    ∃ z, (Instr.field t u f).run P w = .ok z w ∧ VR w o g r z := by
  unfold fieldV at h
  split at h
  · rename_i cs
    split at h
    · rename_i off ft hfld
      split at h
      · rename_i ag sz hag hsz
        simp only [Option.map_eq_some_iff] at h
        obtain ⟨x, h1, rfl⟩ := h
        obtain ⟨ys, rfl, hl, hc⟩ := ha
        obtain ⟨fs, fd, k1, k2, rfl, rfl⟩ := tyFld_spec hfld
        obtain ⟨r1, r2⟩ := partX_rel h1 hl hc
        refine ⟨_, ?_, r1⟩
        simp only [Instr.field, Sem.run_bind, run_underlying k1, Result.andThen_ok, k2, part, asAgg, Sem.run_pure, tyAgg_run hag]
        cases ag with
        | true =>
          simp only [if_true, Sem.run_bind, tySz_run hsz, Result.andThen_ok, Sem.run_pure]
          congr 2
          apply Array.ext'
          simp [Nat.add_sub_cancel_left]
        | false =>
          have := r2 rfl
          simp [List.getD_eq_getElem?_getD, List.getElem?_eq_getElem this]
      · cases h
    · cases h
  · cases h

theorem extractV_run {i : Nat} {a r : V} {u : Value} (h : extractV i a = some r) (ha : VR w o g a u) :
    ∃ z, (Instr.extract u i).run P w = .ok z w ∧ VR w o g r z := by
  unfold extractV at h
  split at h
  · rename_i xs
    simp only [Option.map_eq_some_iff] at h
    obtain ⟨x, h1, rfl⟩ := h
    obtain ⟨ys, rfl, hl, hc⟩ := ha
    have hlt : i < xs.length := by
      rcases Nat.lt_or_ge i xs.length with h' | h'
      · exact h'
      · simp [List.getElem?_eq_none h'] at h1
    have := hc i hlt
    refine ⟨ys.getD i undef, ?_, ?_⟩
    · simp [Instr.extract, List.getD_eq_getElem?_getD, List.getElem?_eq_getElem (show i < ys.length by omega)]
    · simpa [VR, List.getD_eq_getElem?_getD, h1] using this
  · cases h

theorem getD_drop {cs : List C} {n j : Nat} : (cs.drop n).getD j .bad = cs.getD (n + j) .bad := by
  simp [List.getD_eq_getElem?_getD, List.getElem?_drop]

theorem Addr.add_add (a : Addr) (n m : Nat) : (a.add n).add m = a.add (n + m) := by
  unfold Addr.add; split <;> split <;> simp_all <;> omega

theorem fieldAddrV_run {s : TypeId} {f : Nat} {a r : V} {u : Value} (h : fieldAddrV P s f a = some r) (ha : VR w o g a u) :
    ∃ z, (Instr.fieldAt s u f).run P w = .ok z w ∧ VR w o g r z := by
  unfold fieldAddrV at h
  split at h
  · rename_i off ft hfld
    split at h
    · rename_i n hsz
      obtain ⟨fs, fd, k1, k2, rfl, rfl⟩ := tyFld_spec hfld
      have hrun : ∀ q, (Instr.fieldAt s (.pointer (some q)) f).run P w = .ok (.pointer (some (q.add fd.offset))) w := fun q => by
        simp [Instr.fieldAt, run_underlying k1, k2, Instr.sureAddr, fieldPlace, tySz_run hsz]
      split at h
      · cases h
        obtain ⟨R, b, h1, h2, h3, rfl⟩ := ha
        refine ⟨_, hrun _, R, b, h1, h2, h3, ?_⟩
        rw [add_lit, Nat.add_assoc]
      · cases h
        rename_i cs
        cases ha with
        | ptr _ q vals hS hcell hsub =>
          refine ⟨_, hrun _, Sh.ptr _ _ (fun j => vals (fd.offset + j)) ?_ (fun j hj => ?_) (fun j hj => ?_)⟩
          · have : (q.add fd.offset).block = q.block := by unfold Addr.add; split <;> rfl
            rw [this]; exact hS
          · rw [Addr.add_add]; simp only [List.length_drop] at hj; exact hcell _ (by omega)
          · rw [getD_drop]; simp only [List.length_drop] at hj; exact hsub _ (by omega)
      · cases h
    · cases h
  · cases h

theorem indexAddrV_run {t : TypeId} {a i r : V} {u v : Value} (h : indexAddrV P t a i = some r) (ha : VR w o g a u) (hi : VR w o g i v) :
    ∃ z, (Instr.indexAt t u v).run P w = .ok z w ∧ VR w o g r z := by
  unfold indexAddrV at h
  split at h
  · rename_i e k n hel hpl
    obtain rfl := plain_eq hpl hi
    split at h
    · rename_i s hsz
      have hrun : ∀ (q : Addr) (len cap : Nat), 0 ≤ n → n < len → (Instr.indexAt t (.slice (some q) len cap) (.int k n)).run P w = .ok (.pointer (some (q.add (n.toNat * s)))) w := fun q len cap h0 h1 => by
        simp [Instr.indexAt, asIntOf, run_underlying (tyElem_spec hel), h0, h1, tySz_run hsz]
      split at h
      · rename_i rr p sz off len
        split at h
        · rename_i hc
          obtain ⟨rfl, h0, h1⟩ := hc
          cases h
          obtain ⟨R, hl, hn, hs⟩ := ha
          unfold SlAt at hs
          split at hs
          · omega
          · rename_i b hb
            obtain ⟨q, cap, rfl, _, _, _, hq, _⟩ := hs
            obtain rfl := hq (by omega)
            refine ⟨_, hrun _ _ _ h0 h1, R, b, hl, by omega, hb, ?_⟩
            rw [add_lit, Nat.add_zero, Nat.add_mul]
        · cases h
      · rename_i sz R
        split at h
        · rename_i hc
          obtain ⟨rfl, h0, h1⟩ := hc
          cases h
          cases ha with
          | nil => simp at h1; omega
          | slice _ _ q len cap vals hl hc hm hS hz hcell hsub =>
            refine ⟨_, hrun _ _ _ h0 (by omega), Sh.ptr _ _ (fun j => vals n.toNat j) ?_ (fun j hj => ?_) (fun j hj => ?_)⟩
            · have : (q.add (n.toNat * sz)).block = q.block := by unfold Addr.add; split <;> rfl
              rw [this]; exact hS (by omega)
            · rw [hz _ (by omega)] at hj; exact hcell _ _ (by omega) hj
            · rw [hz _ (by omega)] at hj; exact hsub _ _ (by omega) hj
        · cases h
      · cases h
    · cases h
  · cases h

theorem CR.of_sh {l : Option (Root × Path × Nat × Nat)} {c : C} {y : Value} (h : Sh w g.S c y) : CR w o g l c y := by
  cases h with
  | v x => exact rfl
  | nil sz => exact Sh.nil sz
  | slice sz R a len cap vals h1 h2 h3 h4 h5 h6 h7 => exact Sh.slice sz R a len cap vals h1 h2 h3 h4 h5 h6 h7
  | ptr cs a vals h1 h2 h3 => exact Sh.ptr cs a vals h1 h2 h3
  | bad x => trivial

theorem getD_take_drop {ys : List C} {i n j : Nat} (hj : j < n) : ((ys.drop i).take n).getD j .bad = ys.getD (i + j) .bad := by
  simp [List.getD_eq_getElem?_getD, List.getElem?_drop, hj]

theorem loadV_run (hh : HeapRel w o g) {t : TypeId} {a r : V} {u : Value} (h : loadV P o t a = some r) (ha : VR w o g a u) :
    ∃ z, (Instr.loadAt t u).run P w = .ok z w ∧ VR w o g r z := by
  unfold loadV at h
  split at h
  · rename_i ag n hag hsz
    have key : ∀ (q : Addr) (cs : List C) (f : Nat → Value) (x : X), (ag = true ∨ n = 1) → partX ag n 0 cs = some x → cs.length = n → (∀ j, j < n → w.cell? (q.add j) = some (f j)) →
        (∀ j, j < n → CR w o g none (cs.getD j .bad) (f j)) → ∃ z, (Instr.loadAt t (.pointer (some q))).run P w = .ok z w ∧ VR w o g (.x x) z := by
      intro q cs f x hn hp hcs hcell hcr
      have hys : ((List.range n).map f).length = cs.length := by simp [hcs]
      obtain ⟨r1, r2⟩ := partX_rel (w := w) (o := o) (g := g) (ys := (List.range n).map f) hp hys (fun j hj => by
        have := hcr j (by omega)
        have hj' : j < n := by omega
        simpa [List.getD_eq_getElem?_getD, List.getElem?_map, List.getElem?_range, hj'] using this)
      refine ⟨_, ?_, r1⟩
      simp only [Instr.loadAt, Instr.sureAddr, loadVar, Sem.run_bind, Sem.run_pure, Result.andThen_ok, tyAgg_run hag]
      cases ag with
      | true =>
        simp only [if_true, Sem.run_bind, tySz_run hsz, Result.andThen_ok, run_loadCells f w n hcell, Sem.run_pure]
        congr 2
        simp only [List.drop_zero]
        rw [List.take_of_length_le (by simp)]
      | false =>
        obtain rfl : n = 1 := by rcases hn with h | h; cases h; exact h
        have h0 := hcell 0 (by omega)
        have : q.add 0 = q := by simp [Addr.add]
        rw [this] at h0
        simp [load, Sem.run, h0]
    split at h
    · rename_i cs
      split at h
      · rename_i hc
        obtain ⟨hn, hg⟩ := hc
        simp only [Option.map_eq_some_iff] at h
        obtain ⟨x, h1, rfl⟩ := h
        cases ha with
        | ptr _ q vals hS hcell hsub =>
          have hp' : partX ag n 0 (cs.take n) = some x := by
            rw [← h1]; unfold partX
            cases ag with
            | true => simp [List.take_take]
            | false =>
              obtain rfl : n = 1 := by rcases hg with h | h; cases h; exact h
              cases cs <;> simp
          refine key q (cs.take n) vals x hg hp' (by simp; omega) (fun j hj => hcell j (by omega)) (fun j hj => ?_)
          have hs := hsub j (by omega)
          have : (cs.take n).getD j .bad = cs.getD j .bad := by simp [List.getD_eq_getElem?_getD, hj]
          rw [this]
          exact CR.of_sh hs
      · cases h
    · rename_i rr p sz i j
      split at h
      · rename_i ob hob
        split at h
        · rename_i sz' R hR
          split at h
          · rename_i hc
            obtain ⟨rfl, hi, hj, hg⟩ := hc
            simp only [Option.map_eq_some_iff] at h
            obtain ⟨x, h1, rfl⟩ := h
            obtain ⟨R', b, hl, hlt, hgb, rfl⟩ := ha
            have hlive : Live o rr p sz' R := ⟨ob, hob, hR⟩
            obtain ⟨_, rfl⟩ := Live.unique hlive hl
            obtain ⟨_, hlen, cells, e, f, hb, _, hsize, hcr⟩ := hh.rows rr p sz' R b hlive hgb
            have hrow := hlen i hi
            have hmul : (i + 1) * sz' ≤ R.length * sz' := Nat.mul_le_mul_right _ (by omega)
            rw [Nat.add_mul, Nat.one_mul] at hmul
            refine key _ _ (fun k => cells.getD (i * sz' + (j + k)) undef) x hg h1 ?_ (fun k hk => ?_) (fun k hk => ?_)
            · rw [delocs_length, List.length_take, List.length_drop, hrow]; omega
            · rw [add_lit]
              have hin : i * sz' + (j + k) < cells.size := by omega
              simp only [World.cell?, hb, Nat.add_assoc]
              simp [Array.getD, hin]
            · rw [delocs_get _ _ _ _ _ _ (by rw [List.length_take, List.length_drop, hrow]; omega), getD_take_drop hk]
              have := hcr i (j + k) hi (by omega)
              exact deloc_rel hlive hi (by omega) this
          · cases h
        · cases h
      · cases h
    · cases h
  · cases h

end
end Go.Rx
