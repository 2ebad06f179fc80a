/- One operation over data, whole; a call of a function of data; a function's body. -/
import Derived.Test.YtbnabpmfdnfigaaRxKg
namespace Go.Rx
open Go.RowKit

def tyZero (P : Program) (t : TypeId) : Option (List Value) := ((P.info? t).bind (·.zero)).map (·.cells.toList)
def tyBytes (P : Program) (t : TypeId) : Option Nat := (P.info? t).map (·.bytes)

def ptV (σ : St) (N sz : Nat) : V := .x (.one (.pt (σ.d, N * 64) [] sz 0 0))
def slV (σ : St) (N sz len : Nat) : V := .x (.one (.rs (σ.d, N * 64) [] sz 0 len))
def newSt (σ : St) (N : Nat) (ob : Obj') : St := { σ with l := ((σ.d, N * 64), ob) :: σ.l }
def fresh (σ : St) (N : Nat) : Bool := (getA σ.l (σ.d, N * 64)).isNone

def boxS (σ : St) (dst : Option Tmp) (v : V) : Option St :=
  match dst, v with
  | some N, .x x => match cellsX x with
    | some cs => if fresh σ N then some (put (newSt σ N ⟨.box, cs.length, [cs]⟩) dst (ptV σ N cs.length)) else none
    | none => none
  | _, _ => none

def allocS (P : Program) (σ : St) (dst : Option Tmp) (t : TypeId) : Option St :=
  match dst, tyZero P t with
  | some N, some zs => if fresh σ N then some (put (newSt σ N ⟨.box, zs.length, [zs.map .v]⟩) dst (ptV σ N zs.length)) else none
  | _, _ => none

def makeS (P : Program) (σ : St) (dst : Option Tmp) (t : TypeId) (l c : V) : Option St :=
  match dst, tyElem P t, plain l, plain c with
  | some N, some e, some (.int .i64 n), some (.int .i64 m) => match tyZero P e, tySz P e, tyBytes P e with
    | some zs, some s, some b =>
      if fresh σ N = true ∧ zs.length = s ∧ 0 < s ∧ 0 ≤ n ∧ n ≤ m ∧ m ≤ 9223372036854775807 ∧ b * m ≤ 281474976710656 then
        some (put (newSt σ N ⟨.sl, s, List.replicate n.toNat (zs.map .v)⟩) dst (slV σ N s n.toNat)) else none
    | _, _, _ => none
  | _, _, _, _ => none

/-- A struct's literal. -/
def buildV (P : Program) (t : TypeId) (ps : List (Nat × V)) : Option V :=
  match fldsOk P t, tyZero P t with
  | true, some zs => (buildCells P t (zs.map .v) ps).map fun cs => .x (.agg cs)
  | _, _ => none

/-- The rows of a slice's literal, each part in its place. -/
def partsOk : Nat → List (Nat × V) → Option (List (List C))
  | _, [] => some []
  | i, (k, .x x) :: ps => if k = i then
      match cellsX x, partsOk (i + 1) ps with
      | some cs, some R => some (cs :: R)
      | _, _ => none
    else none
  | _, (_, .tup _) :: _ => none
def sized (sz : Nat) (R : List (List C)) : Bool := R.all fun row => decide (row.length = sz)
def buildS (P : Program) (σ : St) (dst : Option Tmp) (t : TypeId) (n : Nat) (ps : List (Nat × V)) : Option St :=
  match dst, tyElem P t with
  | some N, some e => match tyZero P e, tySz P e, partsOk 0 ps with
    | some zs, some sz, some R =>
      if fresh σ N = true ∧ zs.length = sz ∧ 0 < sz ∧ R.length = n ∧ n * sz ≤ 16777216 ∧ sized sz R = true ∧ flatRows R = true then
        some (put (newSt σ N ⟨.sl, sz, R⟩) dst (slV σ N sz n)) else none
    | _, _, _ => none
  | _, _ => none

/-- Every cell that stood there is no slice of its own, and what comes may stand there. -/
def noOwns (cs : List C) : Bool := cs.all fun c => match c with | .own _ _ => false | _ => true
def below (d : Nat) (cs : List C) : Bool := cs.all fun c => match refRoot c with | some r => decide (r.1 < d) | none => true

def storeS (P : Program) (σ : St) (t : TypeId) (x v : V) : Option St :=
  match x, v with
  | .x (.one (.pt r p sz row off)), .x y => match cellsX y, tySz P t, getA σ.o r with
    | some cs, some n, some ob => match rowsAt ob.sz ob.rows p with
      | some (sz', Q) =>
        if sz' = sz ∧ cs.length = n ∧ row < Q.length ∧ off + n ≤ sz ∧ noOwns (((Q.getD row []).drop off).take n) = true ∧ ((ob.kind = .box ∧ p = []) ∨ nrR cs = true) ∧ (r.1 = σ.d ∨ below σ.d cs = true) then
          some (setRows σ r p (Q.set row (setRange (Q.getD row []) off cs))) else none
      | none => none
    | _, _, _ => none
  | _, _ => none

/-- The bytes of a string, as rows. -/
def byteRows (s : ByteArray) : List (List C) := s.data.toList.map fun b => [.v (.int .u8 b.toNat)]
/-- A conversion: of a string to bytes: new rows. -/
def convS (P : Program) (σ : St) (dst : Option Tmp) (t u : TypeId) (v : V) : Option St :=
  match tyElem P u, v with
  | some e, .x (.one (.v (.string s))) => match dst, P.underlying t, P.underlying e with
    | some N, some .string, some (.int .u8) => if fresh σ N = true ∧ s.size ≤ 281474976710656 then some (put (newSt σ N ⟨.sl, 1, byteRows s⟩) dst (slV σ N 1 s.size)) else none
    | _, _, _ => none
  | _, _ => (convV P σ.o t u v).map (put σ dst)

def stepO (P : Program) (σ : St) (o : Oper) : Option St :=
  match o.op with
  | .box _ x => boxS σ o.dst (ev σ x)
  | .alloc t => allocS P σ o.dst t
  | .makeSlice t l c => makeS P σ o.dst t (ev σ l) (ev σ c)
  | .store t x y => (storeS P σ t (ev σ x) (ev σ y)).map fun σ' => put σ' o.dst (.x (.one .bad))
  | .call { callee := .builtin .append, args := as, argTypes := ats } => match as.toList, ats.toList with
    | [x, y], [t, tx] => appendS P σ o.dst t tx (ev σ x) (ev σ y)
    | _, _ => none
  | .build t parts => (buildV P t (parts.toList.map fun p => (p.1, ev σ p.2))).map (put σ o.dst)
  | .buildSlice t n parts => buildS P σ o.dst t n (parts.toList.map fun p => (p.1, ev σ p.2))
  | .convert t u x => convS P σ o.dst t u (ev σ x)
  | _ => (opV P σ o).map (put σ o.dst)

def viewV (o : Store) : V → Option X
  | .x x => viewX o x
  | _ => none
def viewVs (o : Store) : List V → Option (List X)
  | [] => some []
  | v :: vs => match viewV o v, viewVs o vs with
    | some x, some xs => some (x :: xs)
    | _, _ => none

/-- A call of a function of data. -/
def callW (P : Program) (o : Oper) (f : FuncId) (as : List Operand) (σ : St) (K : St → Prop) : Prop :=
  match o.dst with
  | some N => ∃ xs ret, viewVs σ.o (as.map (ev σ)) = some xs ∧ PureFn P f xs ret ∧ poR (retRow ret) = true ∧ freshR σ.l (newRoots σ.d N 0 (retRow ret)) = true ∧
      K (put (impSt σ N ret) o.dst (packT (impXs σ.d N 0 ret)))
  | none => False

/-- An operation that is shown in the model itself: all states that it can lead to are met by 'K'. -/
def SemStep (P : Program) (o : Oper) (σ : St) (K : St → Prop) : Prop := ∀ (g0 : Gh) (w0 : World) (g : Gh) (a : Act) (w : World) (N : Act → World → Prop) (Q : Exit → Act → World → Prop),
  Rel g0 w0 σ g a w → (∀ σ' g' a' w', K σ' → Rel g0 w0 σ' g' a' w' → N a' w') → o.wp P a w N Q

def wop : OpW := fun P o σ K =>
  match o.op with
  | .call { callee := .value (.func f), args := as, argTypes := _ } => callW P o f as.toList σ K ∨ SemStep P o σ K
  | .makeMap _ _ => SemStep P o σ K
  | .lookup _ _ _ _ => SemStep P o σ K
  | .mapUpdate _ _ _ _ => SemStep P o σ K
  | _ => ∃ σ', stepO P σ o = some σ' ∧ K σ'

section
variable {P : Program} {w w0 w' : World} {g g0 gr : Gh} {σ : St} {a : Act}

theorem cellOk_refOr {c : C} (h : cellOk c = true) : refOr c = true := by
  cases c <;> first | rfl | cases h

theorem getA_newSt (σ : St) (N : Nat) (ob : Obj') : getA (newSt σ N ob).o (σ.d, N * 64) = some ob := by
  show (if (σ.d, N * 64) = (σ.d, N * 64) then some ob else _) = _
  rw [if_pos rfl]

theorem ptV_rel {w : World} (σ : St) (N sz b : Nat) (row : List C) (k : Kind) (g : Gh) (hb : g.G (σ.d, N * 64) [] = some b) :
    VR w (newSt σ N ⟨k, sz, [row]⟩).o g (ptV σ N sz) (.pointer (some ⟨b, 0, none⟩)) :=
  ⟨[row], b, ⟨_, getA_newSt σ N _, rfl⟩, by simp, hb, by simp⟩

theorem boxS_run (h : Rel g0 w0 σ g a w) {dst : Option Tmp} {v : V} {σ' : St} {y : Value} (hs : boxS σ dst v = some σ') (hv : VR w σ.o g v y) (e : TypeId) :
    ∃ z w1 g1, (Instr.box e y).run P w = .ok z w1 ∧ Rel g0 w0 σ' g1 (a.put dst z) w1 := by
  unfold boxS at hs
  split at hs
  · rename_i N x
    split at hs
    · rename_i cs hcs
      split at hs
      · rename_i hf
        cases hs
        obtain ⟨h1, h2, h3⟩ := cellsX_rel hcs hv
        have hfr : getA σ.l (σ.d, N * 64) = none := by simpa [fresh] using hf
        obtain ⟨r1, r2⟩ := h.new (N * 64) .box cs.length [cs] y.cells e hfr (by
            simp only [okObj, List.all_cons, List.all_nil, Bool.and_true, List.all_eq_true]
            intro c hc
            obtain ⟨j, hj, rfl⟩ := List.getElem_of_mem hc
            have := h3 j hj
            rw [List.getD_eq_getElem?_getD, List.getElem?_eq_getElem hj] at this
            exact cellOk_refOr this)
          (fun i hi => by obtain rfl : i = 0 := by simp at hi; omega
                          rfl) (by simp; rw [← h1]; simp) (fun i j hi hj => by
            obtain rfl : i = 0 := by simp at hi; omega
            have := h2 j hj
            rw [getD_flat _ _ (by rw [← h1] at hj; simpa using hj)] at this
            simpa [cellAt] using this)
        refine ⟨_, _, _, by simp only [Instr.box, newVar, newRow, newObj, Sem.run_bind, Sem.run, Result.andThen_ok, Sem.run_pure]; rfl, (r1.put (some N) (v := ptV σ N cs.length) (y := .pointer (some ⟨w.heap.size, 0, none⟩)) ?_)⟩
        exact ptV_rel σ N _ _ _ _ _ (by simp [Gh.new])
      · cases hs
    · cases hs
  · cases hs

theorem allocS_run (h : Rel g0 w0 σ g a w) {dst : Option Tmp} {t : TypeId} {σ' : St} (hs : allocS P σ dst t = some σ') :
    ∃ z w1 g1, (Instr.alloc t true (.tuple #[])).run P w = .ok z w1 ∧ Rel g0 w0 σ' g1 (a.put dst z) w1 := by
  unfold allocS at hs
  split at hs
  · rename_i N zs hz
    split at hs
    · rename_i hf
      cases hs
      simp only [tyZero, Option.map_eq_some_iff, Option.bind_eq_some_iff] at hz
      obtain ⟨z, ⟨i, hi, hiz⟩, rfl⟩ := hz
      have hfr : getA σ.l (σ.d, N * 64) = none := by simpa [fresh] using hf
      have hrun : (zeroValue t).run P w = .ok z w := by simp [zeroValue, typeInfo, program, hi, hiz, Sem.run]
      obtain ⟨r1, r2⟩ := h.new (N * 64) .box z.cells.toList.length [z.cells.toList.map .v] z.cells t hfr (by simp [okObj, refOr, nr])
          (fun i hi => by obtain rfl : i = 0 := by simp at hi; omega
                          simp) (by simp) (fun i j hi hj => by
            obtain rfl : i = 0 := by simp at hi; omega
            have hj' : j < z.cells.size := by simpa using hj
            show CR w σ.o g none (((z.cells.toList.map C.v)).getD j .bad) _
            simp [List.getD_eq_getElem?_getD, CR, hj', Array.getD])
      refine ⟨_, _, _, ?_, (r1.put (some N) (v := ptV σ N z.cells.toList.length) (y := .pointer (some ⟨w.heap.size, 0, none⟩)) ?_)⟩
      · simp only [Instr.alloc, Sem.run_bind, hrun, Result.andThen_ok, newVar, newRow, newObj, Sem.run, Sem.run_pure]; rfl
      · exact ptV_rel σ N _ _ _ _ _ (by simp [Gh.new])
    · cases hs
  · cases hs

/-! ### rows made -/

theorem run_askRoom (n : Nat) (w : World) : (askRoom n).run P w = .ok () w := by
  unfold askRoom; split <;> rfl

theorem wrap_fit {n : Int} (h0 : 0 ≤ n) (h1 : n ≤ 9223372036854775807) : IntKind.i64.wrap n = n := by
  rw [IntKind.wrap_i64]; omega

theorem makeS_run (h : Rel g0 w0 σ g a w) {dst : Option Tmp} {t : TypeId} {l c : V} {σ' : St} {y z : Value} (hs : makeS P σ dst t l c = some σ') (hl : VR w σ.o g l y) (hc : VR w σ.o g c z) :
    ∃ u w1 g1, (Instr.makeSlice t y z).run P w = .ok u w1 ∧ Rel g0 w0 σ' g1 (a.put dst u) w1 := by
  unfold makeS at hs
  split at hs
  · rename_i N e n m he hn hm
    obtain rfl := plain_eq hn hl
    obtain rfl := plain_eq hm hc
    split at hs
    · rename_i zs s b hz hsz hb
      split at hs
      · rename_i hcond
        obtain ⟨hf, rfl, hs0, h0, h1, h2, h3⟩ := hcond
        cases hs
        simp only [tyZero, Option.map_eq_some_iff, Option.bind_eq_some_iff] at hz
        obtain ⟨v, ⟨i, hi, hiz⟩, rfl⟩ := hz
        simp only [tyBytes, hi, Option.map_some, Option.some.injEq] at hb
        subst hb
        have hfr : getA σ.l (σ.d, N * 64) = none := by simpa [fresh] using hf
        have hrun : (zeroValue e).run P w = .ok v w := by simp [zeroValue, typeInfo, program, hi, hiz, Sem.run]
        have hti : (typeInfo e).run P w = .ok i w := by simp [typeInfo, program, hi, Sem.run]
        obtain ⟨n, rfl⟩ := Int.eq_ofNat_of_zero_le h0
        obtain ⟨m, rfl⟩ := Int.eq_ofNat_of_zero_le (show 0 ≤ m by omega)
        have hvs : v.cells.toList.length = v.cells.size := Array.length_toList
        have wn := wrap_fit h0 (by omega)
        have wm := wrap_fit (show (0 : Int) ≤ m by omega) h2
        let cells : Array Value := (Array.range (m * v.cells.size)).map (v.cells[· % v.cells.size]!)
        have hcz : cells.size = m * v.cells.size := by simp [cells]
        have hm2 : (Instr.makeSlice t (.int .i64 n) (.int .i64 m)).run P w = .ok (.slice (some ⟨w.heap.size, 0, none⟩) n m) (w.alloc (.cells cells e)) := by
          have d1 : decide ((n : Int) < 0) = false := by simp
          have hts := tySz_run hsz
          simp only [hvs] at hts
          simp only [Instr.makeSlice, Sem.run_bind, run_underlying (tyElem_spec he), Result.andThen_ok, asInt, asIntOf, Sem.run_pure, hti, wn, wm]
          rw [if_neg (by simp; omega)]
          simp only [Sem.run_bind, run_askRoom, Result.andThen_ok, hts, Int.toNat_natCast]
          by_cases hmz : m * v.cells.size = 0
          · simp only [hmz, if_true, Sem.run_pure, Result.andThen_ok, newRow, newObj, Sem.run_bind, Sem.run]
            have : cells = #[] := by simp [cells, hmz]
            have h0' : ∀ f : Nat → Value, (Array.range 0).map f = #[] := fun f => by simp
            rw [this, h0']; rfl
          · simp only [if_neg hmz, Sem.run_bind, hrun, Result.andThen_ok, Sem.run_pure, newRow, newObj, Sem.run]; rfl
        have hnm : n ≤ m := by omega
        have hgetr : ∀ i, i < n → (List.replicate n (v.cells.toList.map C.v)).getD i [] = v.cells.toList.map C.v := fun i hi => by
          simp [List.getD_eq_getElem?_getD, hi]
        obtain ⟨r1, r2⟩ := h.new (N * 64) .sl v.cells.toList.length (List.replicate n (v.cells.toList.map .v)) cells e hfr (by
            simp only [okObj]
            have hrow : ∀ l : List Value, nrR (l.map .v) = true := fun l => by induction l <;> simp_all [nrR, nr]
            have : ∀ n, nrRR (List.replicate n (v.cells.toList.map .v)) = true := fun n => by
              induction n with
              | zero => rfl
              | succ n ih => simp [List.replicate_succ, nrRR, ih, hrow]
            exact this n)
          (fun i hi => by rw [hgetr i (by simpa using hi)]; simp) (by rw [hcz]; simp; exact Nat.mul_le_mul_right _ hnm) (fun i j hi hj => by
            simp only [List.length_replicate] at hi
            have hj' : j < v.cells.size := by simpa using hj
            unfold cellAt
            rw [hgetr i hi]
            have hlt : i * v.cells.toList.length + j < m * v.cells.size := by
              have : (i + 1) * v.cells.size ≤ m * v.cells.size := Nat.mul_le_mul_right _ (by omega)
              rw [Nat.add_mul, Nat.one_mul] at this
              rw [hvs]; omega
            have hmod : (i * v.cells.size + j) % v.cells.size = j := by
              rw [Nat.add_comm, Nat.add_mul_mod_self_right, Nat.mod_eq_of_lt hj']
            have hlt2 : i * v.cells.toList.length + j < cells.size := by rw [hcz]; exact hlt
            have hval : cells.getD (i * v.cells.toList.length + j) undef = v.cells[j] := by
              rw [show cells.getD (i * v.cells.toList.length + j) undef = cells[i * v.cells.toList.length + j] from dif_pos hlt2]
              simp only [cells, Array.getElem_map, Array.getElem_range, hvs, hmod]
              exact getElem!_pos v.cells j hj'
            rw [hval]
            simp [List.getD_eq_getElem?_getD, hj', CR])
        refine ⟨_, _, _, hm2, r1.put (some N) (v := slV σ N v.cells.toList.length n) (y := .slice (some ⟨w.heap.size, 0, none⟩) n m) ?_⟩
        refine ⟨List.replicate n (v.cells.toList.map .v), ⟨_, getA_newSt σ N _, rfl⟩, by simp, ?_⟩
        have hG : (g.new (σ.d, N * 64) w.heap.size).G (σ.d, N * 64) [] = some w.heap.size := by simp [Gh.new]
        unfold SlAt
        rw [hG]
        exact ⟨_, m, rfl, rfl, hnm, by unfold maxLen; omega, fun _ => by simp, fun _ => ⟨rfl, cells, e, (0, 0), heap_alloc_new w _, by rw [hcz, hvs]⟩⟩
      · cases hs
    · cases hs
  · cases hs

end
end Go.Rx
