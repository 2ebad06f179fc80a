/- One operation over data: those that only compute or read, and those that make memory. -/
import Derived.Test.YtbnabpmfdnfigaaRxE
import Derived.Laws.BytesArg
namespace Go.Rx
open Go.RowKit

def un1 (P : Program) (f : Value → Sem Value) (a : V) : Option V :=
  match plain a with
  | some x => (pureIn P (f x)).map ofVal
  | none => none
def un2 (P : Program) (f : Value → Value → Sem Value) (a b : V) : Option V :=
  match plain2 a b with
  | some (x, y) => (pureIn P (f x y)).map ofVal
  | none => none

def plains : List V → Option (List Value)
  | [] => some []
  | a :: as => match plain a, plains as with
    | some x, some xs => some (x :: xs)
    | _, _ => none

def bnd (x : Option V) (n : Nat) : Option Nat :=
  match x with
  | none => some n
  | some v => match plain v with
    | some (.int _ i) => if 0 ≤ i then some i.toNat else none
    | _ => none

def sliceV (P : Program) (t : TypeId) (a : V) (lo hi : Option V) : Option V :=
  match a with
  | .x (.one (.rs r p sz off len)) => match tyElem P t with
    | some e => match tySz P e, bnd lo 0, bnd hi len with
      | some s, some l, some h => if s = sz ∧ l ≤ h ∧ h ≤ len then some (.x (.one (.rs r p sz (off + l) (h - l)))) else none
      | _, _, _ => none
    | none => none
  | .x (.one (.sh sz R)) => match tyElem P t with
    | some e => match tySz P e, bnd lo 0, bnd hi R.length with
      | some s, some l, some h => if s = sz ∧ l ≤ h ∧ h ≤ R.length then some (.x (.one (.sh sz ((R.drop l).take (h - l))))) else none
      | _, _, _ => none
    | none => none
  | .x (.one (.v (.string s))) => match P.underlying t, bnd lo 0, bnd hi s.size with
    | some .string, some l, some h => if l ≤ h ∧ h ≤ s.size then some (.x (.one (.v (.string (s.extract l h))))) else none
    | _, _, _ => none
  | _ => none

def lenA : List V → Option Nat
  | [.x (.one (.rs _ _ _ _ len))] => some len
  | [.x (.one (.sh _ R))] => some R.length
  | _ => none

def builtinV (P : Program) (b : Builtin) (ats : Array TypeId) (ty : TypeId) (consts : Array Bool) (args : List V) : Option V :=
  match plains args with
  | some xs => match pureIn P (builtin b ats ty consts xs.toArray) with
    | some (.value y) => some (ofVal y)
    | _ => none
  | none => match b with
    | .len => match lenA args, (ats[0]?).bind (tyElem P) with
      | some n, some _ => some (.x (.one (.v (.int .i64 n))))
      | _, _ => none
    | _ => none

def isC : Operand → Bool
  | .const _ => true
  | _ => false

/-- The numbers of rows of bytes. -/
def nums : List (List C) → Option (List Int)
  | [] => some []
  | [.v (.int .u8 n)] :: R => (nums R).map (n :: ·)
  | _ => none
def bytesV (o : Store) : V → Option (List Int)
  | .x (.one (.sh 1 R)) => nums R
  | .x (.one (.rs r p 1 off len)) => match getA o r with
    | some ob => match rowsAt ob.sz ob.rows p with
      | some (1, R) => if off = 0 then nums (R.take len) else none
      | _ => none
    | none => none
  | _ => none
def convV (P : Program) (o : Store) (src dst : TypeId) (a : V) : Option V :=
  match bytesV o a with
  | some ns => match tyElem P src with
    | some e => match P.underlying e, P.underlying dst with
      | some (.int .u8), some .string => some (.x (.one (.v (.string (strOfNums ns)))))
      | _, _ => none
    | none => none
  | none => un1 P (convert src dst) a

def opV (P : Program) (σ : St) (o : Oper) : Option V :=
  match o.op with
  | .move x => some (ev σ x)
  | .assign x => some (ev σ x)
  | .pick c a b => match plain (ev σ c) with
    | some (.bool t) => some (if t then ev σ a else ev σ b)
    | _ => none
  | .nilCheck x => nilV (ev σ x)
  | .binOp op t x y _ => binV P op t x y (ev σ x) (ev σ y)
  | .unOp op _ x => un1 P (Op.unary op) (ev σ x)
  | .convert src dst x => convV P σ.o src dst (ev σ x)
  | .field t x f => fieldV P t f (ev σ x)
  | .extract x i => extractV i (ev σ x)
  | .index t x i => un2 P (Instr.index t) (ev σ x) (ev σ i)
  | .fieldAddr s x f => fieldAddrV P s f (ev σ x)
  | .indexAddr t x i => indexAddrV P t (ev σ x) (ev σ i)
  | .slice t x lo hi none => sliceV P t (ev σ x) (lo.map (ev σ)) (hi.map (ev σ))
  | .load t x => loadV P σ.o t (ev σ x)
  | .call { callee := .builtin b, args := as, argTypes := ats } => builtinV P b ats o.type (as.map isC) (as.toList.map (ev σ))
  | _ => none

section
variable {P : Program} {w w0 : World} {g g0 : Gh} {σ : St} {a : Act} {o : Store}

theorem un1_run {f : Value → Sem Value} {x r : V} {u : Value} (h : un1 P f x = some r) (hx : VR w o g x u) : ∃ z, (f u).run P w = .ok z w ∧ VR w o g r z := by
  unfold un1 at h
  split at h
  · rename_i y hy
    obtain rfl := plain_eq hy hx
    simp only [Option.map_eq_some_iff] at h
    obtain ⟨z, h1, rfl⟩ := h
    exact ⟨z, pureIn_run h1 w, ofVal_rel z⟩
  · cases h

theorem nums_spec {R : List (List C)} {ns : List Int} (h : nums R = some ns) : ns.length = R.length ∧ ∀ i, i < R.length → cellAt R i 0 = .v (.int .u8 (ns.getD i 0)) ∧ (R.getD i []).length = 1 := by
  induction R generalizing ns with
  | nil => simp only [nums, Option.some.injEq] at h; subst h; exact ⟨rfl, fun i hi => absurd hi (Nat.not_lt_zero _)⟩
  | cons r R ih =>
    unfold nums at h
    split at h
    · rename_i he; cases he
    · rename_i n R' he
      cases he
      obtain ⟨ns', h1, rfl⟩ := Option.map_eq_some_iff.1 h
      obtain ⟨k1, k2⟩ := ih h1
      refine ⟨by simp [k1], fun i hi => ?_⟩
      cases i with
      | zero => exact ⟨rfl, rfl⟩
      | succ i => exact k2 i (by simpa using hi)
    · cases h

theorem bytesV_run {src e dst : TypeId} (hh : HeapRel w o g) {x : V} {u : Value} {ns : List Int} (h : bytesV o x = some ns) (hx : VR w o g x u) (hs : P.underlying src = some (.slice e)) (he : P.underlying e = some (.int .u8)) (hd : P.underlying dst = some .string) :
    (convert src dst u).run P w = .ok (.string (strOfNums ns)) w := by
  unfold bytesV at h
  split at h
  · rename_i R
    obtain ⟨k1, k2⟩ := nums_spec h
    have hx' : Sh w g.S (.sh 1 R) u := hx
    cases hx' with
    | nil => simp only [nums, Option.some.injEq] at h; subst h; exact run_convert_bytes_nil (P := P) w src e hs he 0 0 dst hd
    | slice _ _ a len cap vals hl hc hm hS hz hcell hsub =>
      rw [run_convert_bytes_string w src dst e _ len cap hs he hd]
      have hcv : ∀ j, j < len → w.cell? (a.add j) = some (Value.int .u8 (ns.getD j 0)) := fun j hj => by
        have h1 := hcell j 0 hj (by omega)
        have h2 := hsub j 0 hj (by omega)
        rw [(k2 j (by omega)).1] at h2
        have h3 : vals j 0 = .int .u8 (ns.getD j 0) := by generalize vals j 0 = z at h2; cases h2; rfl
        rw [← h3, ← h1]
        congr 1
        simp [Addr.add]
      have hload := run_loadCells (P := P) (fun j => Value.int .u8 (ns.getD j 0)) w len hcv
      have hlist : ((List.range len).map fun j => Value.int .u8 (ns.getD j 0)) = ns.map (Value.int .u8) := by
        apply List.ext_getElem
        · simp; omega
        · intro i h1 h2
          have h3 : i < ns.length := by simpa using h2
          simp [List.getD_eq_getElem?_getD, List.getElem?_eq_getElem h3]
      rw [hlist] at hload
      rw [run_bytesToString w a len cap ns hload, foldl_push_bytes]
      simp [strOfNums, ByteArray.empty, ByteArray.emptyWithCapacity]
      rfl
  · rename_i r p off len
    split at h
    · rename_i ob hob
      split at h
      · rename_i R hR
        split at h
        · rename_i ho
          subst ho
          obtain ⟨R', hl, hn, hsl⟩ := hx
          have hl2 : Live o r p 1 R := ⟨ob, hob, hR⟩
          obtain ⟨_, rfl⟩ := Live.unique hl hl2
          obtain ⟨k1, k2⟩ := nums_spec h
          have hlen : ns.length = len := by rw [k1, List.length_take]; omega
          unfold SlAt at hsl
          split at hsl
          · obtain ⟨rfl, rfl⟩ := hsl
            rw [List.take_zero] at h
            simp only [nums, Option.some.injEq] at h
            subst h
            exact run_convert_bytes_nil (P := P) w src e hs he 0 0 dst hd
          · rename_i b hb
            obtain ⟨a, cap, rfl, _, _, _, _, h5⟩ := hsl
            obtain ⟨rfl, _⟩ := h5 rfl
            obtain ⟨_, _, cells, e', f, hbl, _, hsz, hc⟩ := hh.rows r p 1 R' b hl2 hb
            refine run_convert_bytes_arg (P := P) w src e hs he b 0 len cap ns hlen (fun i hi => ?_) dst hd
            have h1 := hc i 0 (by omega) (by omega)
            have h2 := (k2 i (by rw [← k1]; omega)).1
            have h3 : cellAt (R'.take len) i 0 = cellAt R' i 0 := by
              unfold cellAt
              simp only [List.getD_eq_getElem?_getD, List.getElem?_take, if_pos hi]
            rw [← h3, h2] at h1
            have h4 : cells.getD (i * 1 + 0) undef = .int .u8 (ns.getD i 0) := h1
            rw [← h4]
            have h5 : i < cells.size := by omega
            simp [World.cell?, hbl, Array.getD, h5]
        · cases h
      · cases h
    · cases h
  · cases h

theorem convV_run {src dst : TypeId} (hh : HeapRel w o g) {x r : V} {u : Value} (h : convV P o src dst x = some r) (hx : VR w o g x u) : ∃ z, (convert src dst u).run P w = .ok z w ∧ VR w o g r z := by
  unfold convV at h
  split at h
  · rename_i ns hns
    split at h
    · rename_i e he
      split at h
      · rename_i h1 h2
        cases h
        exact ⟨_, bytesV_run hh hns hx (tyElem_spec he) h1 h2, rfl⟩
      · cases h
    · cases h
  · exact un1_run h hx

theorem un2_run {f : Value → Value → Sem Value} {x y r : V} {u v : Value} (h : un2 P f x y = some r) (hx : VR w o g x u) (hy : VR w o g y v) :
    ∃ z, (f u v).run P w = .ok z w ∧ VR w o g r z := by
  unfold un2 at h
  split at h
  · rename_i a b hp
    obtain ⟨rfl, rfl⟩ := plain2_eq hp hx hy
    simp only [Option.map_eq_some_iff] at h
    obtain ⟨z, h1, rfl⟩ := h
    exact ⟨z, pureIn_run h1 w, ofVal_rel z⟩
  · cases h

theorem plains_eq {xs : List V} {ys zs : List Value} (h : plains xs = some zs) (hl : ys.length = xs.length) (hx : ∀ i, i < xs.length → VR w o g (xs.getD i (.x (.one .bad))) (ys.getD i undef)) : ys = zs := by
  induction xs generalizing ys zs with
  | nil => simp [plains] at h; subst h; simpa using hl
  | cons x xs ih =>
    cases ys with
    | nil => simp at hl
    | cons y ys =>
      simp only [plains] at h
      split at h
      · rename_i u us hu hus
        cases h
        have h0 := plain_eq hu (by simpa using hx 0 (by simp))
        have ht := ih hus (by simpa using hl) (fun i hi => by simpa using hx (i + 1) (by simpa using hi))
        rw [← h0, ← ht]
      · cases h

theorem bnd_spec {x : Option V} {y : Option Value} {n l : Nat} (h : bnd x n = some l) (hx : ∀ v, x = some v → ∃ u, y = some u ∧ VR w o g v u) (hn : x = none → y = none) :
    (y = none ∧ l = n) ∨ ∃ k, y = some (.int k (l : Int)) := by
  unfold bnd at h
  split at h
  · cases h; exact .inl ⟨hn rfl, rfl⟩
  · rename_i v
    obtain ⟨u, rfl, hu⟩ := hx v rfl
    split at h
    · rename_i k i hi
      obtain rfl := plain_eq hi hu
      split at h
      · rename_i h0
        cases h
        exact .inr ⟨k, by rw [Int.toNat_of_nonneg h0]⟩
      · cases h
    · cases h

theorem run_bounds {len cap l h : Nat} (low high : Option Value) (b : Bool) (hl : (low = none ∧ l = 0) ∨ ∃ k, low = some (.int k (l : Int))) (hh : (high = none ∧ h = len) ∨ ∃ k, high = some (.int k (h : Int)))
    (h1 : l ≤ h) (h2 : h ≤ cap) (w : World) : (Instr.sliceBounds b len cap low high none).run P w = .ok (l, h, cap) w := by
  rcases hl with ⟨rfl, rfl⟩ | ⟨k, rfl⟩ <;> rcases hh with ⟨rfl, rfl⟩ | ⟨k', rfl⟩ <;>
    simp [Instr.sliceBounds, Instr.sliceBound, asIntOf, h1, h2]

theorem sliceV_run {t : TypeId} {x r : V} {lo hi : Option V} {u : Value} {lo' hi' : Option Value} (h : sliceV P t x lo hi = some r) (hx : VR w o g x u)
    (hlo : ∀ v, lo = some v → ∃ u, lo' = some u ∧ VR w o g v u) (hlon : lo = none → lo' = none) (hhi : ∀ v, hi = some v → ∃ u, hi' = some u ∧ VR w o g v u) (hhin : hi = none → hi' = none) :
    ∃ z, (Instr.sliceAt t u lo' hi' none).run P w = .ok z w ∧ VR w o g r z := by
  unfold sliceV at h
  split at h
  · rename_i rr p sz off len
    split at h
    · rename_i e he
      split at h
      · rename_i s l h' hs hl hh
        split at h
        · rename_i hc
          obtain ⟨rfl, c1, c2⟩ := hc
          cases h
          have b1 := bnd_spec hl hlo hlon
          have b2 := bnd_spec hh hhi hhin
          obtain ⟨R, hlive, hn, hsl⟩ := hx
          unfold SlAt at hsl
          split at hsl
          · rename_i hg
            obtain ⟨rfl, rfl⟩ := hsl
            obtain rfl : h' = 0 := by omega
            obtain rfl : l = 0 := by omega
            refine ⟨.slice none 0 0, ?_, R, hlive, by omega, ?_⟩
            · simp [Instr.sliceAt, run_underlying (tyElem_spec he), Instr.slice, run_bounds _ _ true b1 b2 c1 (Nat.le_refl 0), tySz_run hs]
            · unfold SlAt; rw [hg]; exact ⟨rfl, rfl⟩
          · rename_i b hg
            obtain ⟨q, cap, rfl, eb, e2, e3, e4, e5⟩ := hsl
            refine ⟨.slice (some (if cap = l then q else q.add (l * s))) (h' - l) (cap - l), ?_, R, hlive, by omega, ?_⟩
            · simp only [Instr.sliceAt, Sem.run_bind, run_underlying (tyElem_spec he), Result.andThen_ok, Instr.slice, run_bounds _ _ true b1 b2 c1 (show h' ≤ cap by omega), tySz_run hs, Sem.run_pure]
              split <;> rfl
            · unfold SlAt
              rw [hg]
              refine ⟨_, cap - l, rfl, ?_, by omega, by omega, fun hp => ?_, fun h0 => ?_⟩
              · split
                · exact eb
                · have : (q.add (l * s)).block = q.block := by unfold Addr.add; split <;> rfl
                  rw [this]; exact eb
              · rw [if_neg (by omega), e4 (by omega), add_lit, Nat.add_mul]
              · obtain rfl : off = 0 := by omega
                obtain rfl : l = 0 := by omega
                obtain ⟨f1, f2⟩ := e5 rfl
                refine ⟨?_, by simpa using f2⟩
                rw [f1]
                split
                · rfl
                · simp [Addr.add]
        · cases h
      · cases h
    · cases h
  · rename_i sz R
    split at h
    · rename_i e he
      split at h
      · rename_i s l h' hs hl hh
        split at h
        · rename_i hc
          obtain ⟨rfl, c1, c2⟩ := hc
          cases h
          have b1 := bnd_spec hl hlo hlon
          have b2 := bnd_spec hh hhi hhin
          cases hx with
          | nil =>
            simp only [List.length_nil] at c2 b2
            obtain rfl : h' = 0 := by omega
            obtain rfl : l = 0 := by omega
            refine ⟨.slice none 0 0, ?_, ?_⟩
            · simp [Instr.sliceAt, run_underlying (tyElem_spec he), Instr.slice, run_bounds _ _ true b1 b2 c1 (Nat.le_refl 0), tySz_run hs]
            · simp only [List.drop_nil, List.take_nil]; exact Sh.nil s
          | slice _ _ q len cap vals k1 k2 k3 k4 k5 k6 k7 =>
            subst k1
            refine ⟨.slice (some (if cap = l then q else q.add (l * s))) (h' - l) (cap - l), ?_, ?_⟩
            · simp only [Instr.sliceAt, Sem.run_bind, run_underlying (tyElem_spec he), Result.andThen_ok, Instr.slice, run_bounds _ _ true b1 b2 c1 (show h' ≤ cap by omega), tySz_run hs, Sem.run_pure]
              split <;> rfl
            · have hrow : ∀ i, i < h' - l → ((R.drop l).take (h' - l)).getD i [] = R.getD (l + i) [] := fun i hi => by
                simp [List.getD_eq_getElem?_getD, List.getElem?_drop, hi]
              refine Sh.slice s _ _ _ _ (fun i j => vals (l + i) j) ?_ (by omega) (by omega) ?_ (fun i hi => ?_) (fun i j hi hj => ?_) (fun i j hi hj => ?_)
              · simp; omega
              · intro h0
                split
                · exact k4 (by omega)
                · have : (q.add (l * s)).block = q.block := by unfold Addr.add; split <;> rfl
                  rw [this]; exact k4 (by omega)
              · rw [hrow i hi]; exact k5 _ (by omega)
              · rw [if_neg (by omega), Addr.add_add q (l * s) (i * s), ← Nat.add_mul]; exact k6 _ _ (by omega) hj
              · unfold cellAt; rw [hrow i hi]; exact k7 _ _ (by omega) hj
        · cases h
      · cases h
    · cases h
  · rename_i s
    split at h
    · rename_i l h' ht hl hh
      split at h
      · rename_i hc
        cases h
        cases hx
        refine ⟨_, ?_, rfl⟩
        have b1 := bnd_spec hl hlo hlon
        have b2 := bnd_spec hh hhi hhin
        simp [Instr.sliceAt, run_underlying ht, Instr.slice, run_bounds _ _ false b1 b2 hc.1 hc.2]
      · cases h
    · cases h
  · cases h

theorem lenA_spec {args : List V} {ys : List Value} {n : Nat} (h : lenA args = some n)
    (hl : ys.length = args.length) (hx : ∀ i, i < args.length → VR w o g (args.getD i (.x (.one .bad))) (ys.getD i undef)) : ∃ y, ys = [y] ∧ ∃ q cap, y = .slice q n cap := by
  unfold lenA at h
  split at h
  · cases h
    match ys, hl with
    | [y], _ =>
      refine ⟨y, rfl, ?_⟩
      have hr := hx 0 (by simp)
      simp only [List.getD_cons_zero] at hr
      obtain ⟨R, _, _, hs⟩ := hr
      unfold SlAt at hs
      split at hs
      · obtain ⟨rfl, rfl⟩ := hs; exact ⟨_, _, rfl⟩
      · obtain ⟨q, cap, rfl, _⟩ := hs; exact ⟨_, _, rfl⟩
  · cases h
    match ys, hl with
    | [y], _ =>
      refine ⟨y, rfl, ?_⟩
      have hr := hx 0 (by simp)
      simp only [List.getD_cons_zero] at hr
      cases hr with
      | nil => exact ⟨_, _, rfl⟩
      | slice _ _ q len cap vals k1 => subst k1; exact ⟨_, _, rfl⟩
  · cases h

theorem builtinV_run {b : Builtin} {ats : Array TypeId} {ty : TypeId} {consts : Array Bool} {args : List V} {ys : List Value} {r : V} (h : builtinV P b ats ty consts args = some r)
    (hl : ys.length = args.length) (hx : ∀ i, i < args.length → VR w o g (args.getD i (.x (.one .bad))) (ys.getD i undef)) :
    ∃ z, (builtin b ats ty consts ys.toArray).run P w = .ok (.value z) w ∧ VR w o g r z := by
  unfold builtinV at h
  split at h
  · rename_i xs hxs
    obtain rfl := plains_eq hxs hl hx
    split at h
    · rename_i y hy
      cases h
      exact ⟨y, pureIn_run hy w, ofVal_rel y⟩
    · cases h
  · split at h
    · split at h
      · rename_i n e hn he
        cases h
        obtain ⟨y, rfl, q, cap, rfl⟩ := lenA_spec hn hl hx
        simp only [Option.bind_eq_some_iff] at he
        obtain ⟨t, ht, he⟩ := he
        exact ⟨_, by simp [builtin, Builtin.len_, ht, run_underlying (tyElem_spec he), goInt], rfl⟩
      · cases h
    · cases h

theorem args_rel (h : Rel g0 w0 σ g a w) (as : Array Operand) : ∀ i, i < (as.toList.map (ev σ)).length →
    VR w σ.o g ((as.toList.map (ev σ)).getD i (.x (.one .bad))) ((as.toList.map a.eval).getD i undef) := fun i hi => by
  simp only [List.length_map] at hi
  have := ev_rel h (as.toList[i])
  simpa [List.getD_eq_getElem?_getD, List.getElem?_map, List.getElem?_eq_getElem hi] using this

theorem opt_rel (h : Rel g0 w0 σ g a w) (x : Option Operand) : ∀ v, x.map (ev σ) = some v → ∃ u, x.map a.eval = some u ∧ VR w σ.o g v u := fun v hv => by
  cases x with
  | none => cases hv
  | some x => simp only [Option.map_some, Option.some.injEq] at hv; subst hv; exact ⟨_, rfl, ev_rel h x⟩

theorem opV_run (h : Rel g0 w0 σ g a w) {op : Oper} {r : V} (hv : opV P σ op = some r) :
    ∃ z, (execOp a.eval op).run P w = .ok (.value z) w ∧ VR w σ.o g r z := by
  unfold opV at hv
  split at hv
  · rename_i x ho; cases hv; exact ⟨_, by simp [execOp, ho], ev_rel h x⟩
  · rename_i x ho; cases hv; exact ⟨_, by simp [execOp, ho], ev_rel h x⟩
  · rename_i c x y ho
    split at hv
    · rename_i t ht
      cases hv
      have hc := plain_eq ht (ev_rel h c)
      refine ⟨if t then a.eval x else a.eval y, by simp [execOp, ho, hc, asBool], ?_⟩
      cases t
      · exact ev_rel h y
      · exact ev_rel h x
    · cases hv
  · rename_i x ho
    obtain ⟨rfl, q, hq⟩ := nilV_run hv (ev_rel h x)
    exact ⟨a.eval x, by simp [execOp, ho, hq], ev_rel h x⟩
  · rename_i bop t x y _ ho
    obtain ⟨z, h1, h2⟩ := binV_run hv (ev_rel h x) (ev_rel h y)
    refine ⟨z, ?_, h2⟩
    simp only [execOp, ho]
    rw [Sem.run_bind, h1]; rfl
  · rename_i uop t x ho
    obtain ⟨z, h1, h2⟩ := un1_run hv (ev_rel h x)
    exact ⟨z, by simp only [execOp, ho]; rw [Sem.run_bind, h1]; rfl, h2⟩
  · rename_i s d x ho
    obtain ⟨z, h1, h2⟩ := convV_run h.heap hv (ev_rel h x)
    exact ⟨z, by simp only [execOp, ho]; rw [Sem.run_bind, h1]; rfl, h2⟩
  · rename_i t x f ho
    obtain ⟨z, h1, h2⟩ := fieldV_run hv (ev_rel h x)
    exact ⟨z, by simp only [execOp, ho]; rw [Sem.run_bind, h1]; rfl, h2⟩
  · rename_i x i ho
    obtain ⟨z, h1, h2⟩ := extractV_run (P := P) hv (ev_rel h x)
    exact ⟨z, by simp only [execOp, ho]; rw [Sem.run_bind, h1]; rfl, h2⟩
  · rename_i t x i ho
    obtain ⟨z, h1, h2⟩ := un2_run hv (ev_rel h x) (ev_rel h i)
    exact ⟨z, by simp only [execOp, ho]; rw [Sem.run_bind, h1]; rfl, h2⟩
  · rename_i s x f ho
    obtain ⟨z, h1, h2⟩ := fieldAddrV_run hv (ev_rel h x)
    exact ⟨z, by simp only [execOp, ho]; rw [Sem.run_bind, h1]; rfl, h2⟩
  · rename_i t x i ho
    obtain ⟨z, h1, h2⟩ := indexAddrV_run hv (ev_rel h x) (ev_rel h i)
    exact ⟨z, by simp only [execOp, ho]; rw [Sem.run_bind, h1]; rfl, h2⟩
  · rename_i t x lo hi ho
    obtain ⟨z, h1, h2⟩ := sliceV_run (lo' := lo.map a.eval) (hi' := hi.map a.eval) hv (ev_rel h x) (opt_rel h lo) (by cases lo <;> simp) (opt_rel h hi) (by cases hi <;> simp)
    exact ⟨z, by simp only [execOp, ho, Option.map_none]; rw [Sem.run_bind, h1]; rfl, h2⟩
  · rename_i t x ho
    obtain ⟨z, h1, h2⟩ := loadV_run h.heap hv (ev_rel h x)
    exact ⟨z, by simp only [execOp, ho]; rw [Sem.run_bind, h1]; rfl, h2⟩
  · rename_i b as ats ho
    obtain ⟨z, h1, h2⟩ := builtinV_run (ys := as.toList.map a.eval) hv (by simp) (args_rel h as)
    refine ⟨z, ?_, h2⟩
    simp only [execOp, ho, resolve, Sem.run_bind, Sem.run_pure, Result.andThen_ok, invoke]
    have e1 : as.map a.eval = (as.toList.map a.eval).toArray := by apply Array.ext'; simp
    have e2 : ∀ f : Operand → Bool, (∀ x, f x = isC x) → as.map f = as.map isC := fun f hf => by rw [funext hf]
    rw [e1, e2 _ (fun x => by cases x <;> rfl)]
    exact h1
  · cases hv

end
end Go.Rx
