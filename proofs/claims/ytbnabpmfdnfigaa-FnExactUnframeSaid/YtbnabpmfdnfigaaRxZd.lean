/- Rules: whole numbers' other operations, conversions, calls that write through their first argument. -/
import Derived.Test.YtbnabpmfdnfigaaRxZc
namespace Go.Rx
open Go.RowKit
section
variable {P : Program} {t u : TypeId} {x y : Operand}
theorem bin_rem (k : IntKind) (a b : Int) : binV P .rem t x y (one (.v (.int k a))) (one (.v (.int k b))) = if b = 0 then binV' P .rem t x y (one (.v (.int k a))) (one (.v (.int k b))) else some (one (.v (.int k (a.tmod b)))) := by
  by_cases h : b = 0
  · rw [if_pos h]; rfl
  · simp [binV, plain2, plain, pureIn, eqGuard, binOp, Op.intDiv, ofVal, bind, pure, Sem.bind, h]
theorem bin_quo (k : IntKind) (a b : Int) : binV P .quo t x y (one (.v (.int k a))) (one (.v (.int k b))) = if b = 0 then binV' P .quo t x y (one (.v (.int k a))) (one (.v (.int k b))) else some (one (.v (.int k (k.wrap (a.tdiv b))))) := by
  by_cases h : b = 0
  · rw [if_pos h]; rfl
  · simp [binV, plain2, plain, pureIn, eqGuard, binOp, Op.intDiv, ofVal, bind, pure, Sem.bind, h]
theorem bin_and (k : IntKind) (a b : Int) : binV P .and t x y (one (.v (.int k a))) (one (.v (.int k b))) = some (one (.v (.int k (bits .and k a b)))) := by
  simp [binV, plain2, plain, pureIn, eqGuard, binOp, Op.intBits, ofVal, bind, pure, Sem.bind, bits]
theorem bin_or (k : IntKind) (a b : Int) : binV P .or t x y (one (.v (.int k a))) (one (.v (.int k b))) = some (one (.v (.int k (bits .or k a b)))) := by
  simp [binV, plain2, plain, pureIn, eqGuard, binOp, Op.intBits, ofVal, bind, pure, Sem.bind, bits]
theorem bin_xor (k : IntKind) (a b : Int) : binV P .xor t x y (one (.v (.int k a))) (one (.v (.int k b))) = some (one (.v (.int k (bits .xor k a b)))) := by
  simp [binV, plain2, plain, pureIn, eqGuard, binOp, Op.intBits, ofVal, bind, pure, Sem.bind, bits]
def shlI (k : IntKind) (a b : Int) : Int := k.wrap (a * 2 ^ (min b.toNat k.bits))
def shrI (k : IntKind) (a b : Int) : Int := a.fdiv (2 ^ (min b.toNat k.bits))
theorem bin_shl (k k' : IntKind) (a b : Int) : binV P .shl t x y (one (.v (.int k a))) (one (.v (.int k' b))) = if b < 0 then binV' P .shl t x y (one (.v (.int k a))) (one (.v (.int k' b))) else some (one (.v (.int k (shlI k a b)))) := by
  by_cases h : b < 0
  · rw [if_pos h]; rfl
  · simp [binV, plain2, plain, pureIn, eqGuard, binOp, Op.shift, ofVal, bind, pure, Sem.bind, h, shlI]
theorem bin_shr (k k' : IntKind) (a b : Int) : binV P .shr t x y (one (.v (.int k a))) (one (.v (.int k' b))) = if b < 0 then binV' P .shr t x y (one (.v (.int k a))) (one (.v (.int k' b))) else some (one (.v (.int k (shrI k a b)))) := by
  by_cases h : b < 0
  · rw [if_pos h]; rfl
  · simp [binV, plain2, plain, pureIn, eqGuard, binOp, Op.shift, ofVal, bind, pure, Sem.bind, h, shrI]
theorem un_neg (k : IntKind) (a : Int) : un1 P (Op.unary .neg) (one (.v (.int k a))) = some (one (.v (.int k (k.wrap (0 - a))))) := by
  simp [un1, plain, pureIn, Op.unary, Op.intArith, ofVal, pure]

/-! ### conversions -/
section
variable (σ : St) (d : Option Tmp) (o : Store)
theorem cS_int (k : IntKind) (n : Int) : convS P σ d t u (one (.v (.int k n))) = (convV P σ.o t u (one (.v (.int k n)))).map (put σ d) := by
  unfold convS; cases tyElem P u <;> rfl
theorem cS_rs (r : Root) (p : Path) (sz off len : Nat) : convS P σ d t u (one (.rs r p sz off len)) = (convV P σ.o t u (one (.rs r p sz off len))).map (put σ d) := by
  unfold convS; cases tyElem P u <;> rfl
theorem cS_sh (sz : Nat) (R : List (List C)) : convS P σ d t u (one (.sh sz R)) = (convV P σ.o t u (one (.sh sz R))).map (put σ d) := by
  unfold convS; cases tyElem P u <;> rfl
theorem cS_str (s : ByteArray) (N : Tmp) : convS P σ (some N) t u (one (.v (.string s))) = match tyElem P u with
    | some e => match P.underlying t, P.underlying e with
      | some .string, some (.int .u8) => if fresh σ N = true ∧ s.size ≤ 281474976710656 then some (put (newSt σ N ⟨.sl, 1, byteRows s⟩) (some N) (slV σ N 1 s.size)) else none
      | _, _ => none
    | none => (convV P σ.o t u (one (.v (.string s)))).map (put σ (some N)) := by
  unfold convS
  cases tyElem P u with
  | none => rfl
  | some e =>
    simp only
    cases P.underlying t with
    | none => rfl
    | some a => cases P.underlying e with
      | none => cases a <;> rfl
      | some b => cases a <;> first | rfl | (cases b <;> first | rfl | (rename_i k; cases k <;> rfl))
def un1' := @un1
theorem cV_int (k : IntKind) (n : Int) : convV P o t u (one (.v (.int k n))) = match P.underlying t, P.underlying u with
    | some (.int _), some (.int k') => some (one (.v (.int k' (k'.wrap n))))
    | _, _ => un1' P (convert t u) (one (.v (.int k n))) := by
  show un1 P (convert t u) (one (.v (.int k n))) = _
  split
  · rename_i k2 k' h1 h2
    have e1 : pureIn P (underlying t) = some (.int k2) := by
      show pureIn P (match P.underlying t with | some d => Sem.pure d | none => stuck "no such type") = _
      rw [h1]; rfl
    have e2 : pureIn P (underlying u) = some (.int k') := by
      show pureIn P (match P.underlying u with | some d => Sem.pure d | none => stuck "no such type") = _
      rw [h2]; rfl
    have : pureIn P (convert t u (.int k n)) = some (.int k' (k'.wrap n)) := by
      unfold convert
      exact (pure_bind' e1).trans ((pure_bind' e2).trans rfl)
    simp only [un1, plain, this, Option.map_some]; rfl
  · rfl
theorem cV_rs (r : Root) (len : Nat) : convV P o t u (one (.rs r [] 1 0 len)) = match getA o r with
    | some ⟨_, 1, R⟩ => match nums (R.take len) with
      | some ns => match tyElem P t with
        | some e => match P.underlying e, P.underlying u with
          | some (.int .u8), some .string => some (one (.v (.string (strOfNums ns))))
          | _, _ => none
        | none => none
      | none => none
    | _ => none := by
  unfold convV
  simp only [bytesV]
  cases h : getA o r with
  | none => rfl
  | some ob =>
    obtain ⟨kd, sz, R⟩ := ob
    simp only [rowsAt]
    match sz with
    | 1 => simp only [if_true]; cases nums (R.take len) <;> rfl
    | 0 => rfl
    | n + 2 => rfl
theorem cV_sh (R : List (List C)) : convV P o t u (one (.sh 1 R)) = match nums R with
      | some ns => match tyElem P t with
        | some e => match P.underlying e, P.underlying u with
          | some (.int .u8), some .string => some (one (.v (.string (strOfNums ns))))
          | _, _ => none
        | none => none
      | none => none := by
  unfold convV
  simp only [bytesV]
  cases nums R <;> rfl
end
end

/-! ### bytes -/
def byR (l : List UInt8) : List (List C) := l.map fun b => [.v (.int .u8 b.toNat)]
def natsOf (l : List UInt8) : List Int := l.map fun b => (b.toNat : Int)
theorem byR_length (l : List UInt8) : (byR l).length = l.length := by simp [byR]
theorem byR_nr (l : List UInt8) : nrRR (byR l) = true := nrRR_map _ (fun _ => rfl) l
theorem byR_po (l : List UInt8) : poRR (byR l) = true := poRR_map _ (fun _ => rfl) l
theorem byR_ts (l : List UInt8) : toShRR (byR l) = byR l := toShRR_map _ (fun _ => rfl) l
theorem byR_take (l : List UInt8) : (byR l).take l.length = byR l := List.take_of_length_le (by simp [byR])
theorem byR_nil : byR [] = [] := rfl
theorem byR_snoc (l : List UInt8) (b : UInt8) : byR l ++ [[.v (.int .u8 b.toNat)]] = byR (l ++ [b]) := by simp [byR]
theorem byteRows_byR (s : ByteArray) : byteRows s = byR s.data.toList := rfl
theorem nums_byR (l : List UInt8) : nums (byR l) = some (natsOf l) := by
  induction l with
  | nil => rfl
  | cons b l ih => show (nums (byR l)).map _ = _; rw [ih]; rfl
theorem str_natsOf (l : List UInt8) : strOfNums (natsOf l) = ⟨l.toArray⟩ := by
  unfold strOfNums natsOf
  congr 2
  rw [List.map_map]
  conv => rhs; rw [← List.map_id l]
  apply List.map_congr_left
  intro b _
  simp
theorem byR_flat (l : List UInt8) : flatRows (byR l) = true := by
  induction l with
  | nil => rfl
  | cons b l ih => simp_all [byR, flatRows, flatRow, cellOk, scalar, nr]

/-- A frame of temporaries, of which these are told. -/
def tp (n : Nat) (l : List (Nat × V)) : List V := l.foldl (fun t p => t.set p.1 p.2) (List.replicate n (.x (.one .bad)))
/-- A byte of a string. -/
def bu (s : ByteArray) (i : Nat) : UInt8 := s.data.toList.getD i 0
theorem bu_get {s : ByteArray} {i : Nat} (h : i < s.size) : s[i]? = some (bu s i) := by
  have h2 : i < s.data.size := h
  rw [getElem?_pos s i h]
  show some (s.data[i]) = _
  unfold bu
  rw [List.getD_eq_getElem?_getD, Array.getElem?_toList, Array.getElem?_eq_getElem h2]; rfl
theorem wN {x : Int} {m : Nat} (h : x = (m : Int)) (hm : m ≤ 9223372036854775807) : IntKind.i64.wrap x = (m : Int) := by rw [h, IntKind.wrap_i64]; omega
theorem w8 {x : Int} {m : Nat} (h : x % 256 = (m : Int)) : IntKind.u8.wrap x = (m : Int) := by rw [IntKind.wrap_u8, h]
theorem wu8 {n : Nat} : IntKind.u8.wrap (n : Int) = ((UInt8.ofNat n).toNat : Int) := by
  rw [IntKind.wrap_u8]; simp
theorem w32 {x : Int} {m : Nat} (h : x = (m : Int)) (hm : m < 4294967296) : IntKind.u32.wrap x = (m : Int) := by rw [IntKind.wrap_u32, h]; omega
theorem tmodN (a b : Nat) : (a : Int).tmod (b : Int) = ((a % b : Nat) : Int) := (Int.ofNat_tmod a b).symm
theorem tdivN (a b : Nat) : (a : Int).tdiv (b : Int) = ((a / b : Nat) : Int) := (Int.ofNat_tdiv a b).symm
theorem xor32 {a b : Nat} (ha : a < 4294967296) (hb : b < 4294967296) : bits .xor .u32 (a : Int) (b : Int) = ((a ^^^ b : Nat) : Int) := by
  have hx : a ^^^ b < 2 ^ 32 := Nat.xor_lt_two_pow (by omega) (by omega)
  have ha' : a % 2 ^ 32 = a := Nat.mod_eq_of_lt (by omega)
  have hb' : b % 2 ^ 32 = b := Nat.mod_eq_of_lt (by omega)
  show IntKind.u32.wrap ((BitVec.ofInt 32 (a : Int) ^^^ BitVec.ofInt 32 (b : Int)).toNat : Int) = _
  rw [BitVec.toNat_xor, BitVec.ofInt_natCast, BitVec.ofInt_natCast, BitVec.toNat_ofNat, BitVec.toNat_ofNat, ha', hb']
  exact w32 rfl (by omega)
theorem and32 {a b : Nat} (ha : a < 4294967296) (hb : b < 4294967296) : bits .and .u32 (a : Int) (b : Int) = ((a &&& b : Nat) : Int) := by
  have hx : a &&& b < 2 ^ 32 := Nat.and_lt_two_pow _ (by omega)
  have ha' : a % 2 ^ 32 = a := Nat.mod_eq_of_lt (by omega)
  have hb' : b % 2 ^ 32 = b := Nat.mod_eq_of_lt (by omega)
  show IntKind.u32.wrap ((BitVec.ofInt 32 (a : Int) &&& BitVec.ofInt 32 (b : Int)).toNat : Int) = _
  rw [BitVec.toNat_and, BitVec.ofInt_natCast, BitVec.ofInt_natCast, BitVec.toNat_ofNat, BitVec.toNat_ofNat, ha', hb']
  exact w32 rfl (by omega)
theorem shr32 (a b : Nat) (hb : b ≤ 32) : shrI .u32 (a : Int) (b : Int) = ((a / 2 ^ b : Nat) : Int) := by
  unfold shrI
  have e : min ((b : Int).toNat) IntKind.u32.bits = b := by simp [IntKind.bits]; omega
  rw [e, Int.fdiv_eq_ediv_of_nonneg _ (by exact_mod_cast Nat.zero_le _)]
  norm_cast
attribute [push_cast] tp List.foldl_cons List.foldl_nil bin_shl bin_shr
attribute [push_cast] bin_rem bin_quo bin_and bin_or bin_xor un_neg cS_int cS_rs cS_sh cS_str cV_int cV_rs cV_sh nums byR_length byR_take nums_byR str_natsOf byR_nr byR_po byR_ts
attribute [push_cast] ioSt ioOb ioC ioArg enterIO ioFin notIo plainXs isVX isV ioR
end Go.Rx
