/- Texts E26 E27 E28 O1 E29 E30 E31 E32 E33 E34 E35, merged. -/
import Derived.Test.YthhgmnpodgmlkaaU2
namespace Go.Proofs.Ythhgmnpodgmlkaa
open Go.RowKit Go.Rx
set_option linter.unusedSimpArgs false
set_option maxRecDepth 100000
variable {Q : Ex → St → Prop} {k : List Fr} {l : List SOp} {σ : St} {dst : Option Tmp} {a a2 : Operand} {ats : Array TypeId} {ty : TypeId}
set_option maxHeartbeats 4000000 in
theorem l16CmdA_any (D : Nat) (r rs1 : Root) (ck tk la : Nat) (htk : tk ≤ 5) (hla : la ≤ 3) (hs1 : getA σ.o rs1 = some ⟨.sl, 3, ssR tk la⟩) (hrs : rs1.1 < D) {c : List UInt8} {p : Nat × Int} (hc : c.length ≤ 1048576) (hp : p.1 ≤ c.length)
    (ha : xsV [ev σ a, ev σ a2] = some [.one (.pt r [] 3 0 0), .agg [.rs rs1 [] 3 0 1, nilS, nilS, .v (.int .i64 ck), .v (.int .i64 1)]]) (hr : getA σ.o r = some (curOb c p)) (hrs0 : rs1 ≠ r) (hd : σ.d ≤ D) (hD : belowS D σ.o = true) (hG : ∀ l' : Store, (σ.o.all fun e => refOkO D l' e.2) = true)
    (H1 : ∀ (p' : Nat × Int) (o tok seq num to_ : Nat) (text task : ByteArray) (yes : Bool), p'.1 ≤ c.length → o ≤ 9 → tok ≤ 1000 → seq ≤ 1000 → num ≤ 1000 → to_ ≤ 1000 → text.size ≤ 600 → task.size ≤ 600 →
      GoL Try.prog l k (exitSt σ.t σ.d dst ⟨[], D, [((D, 256), ⟨.box, 8, [(mkC o tok seq text task num to_ yes).enc]⟩)], setA σ.o r (curOb c p')⟩ [.agg (mkC o tok seq text task num to_ yes).enc]) Q) :
    GoL Try.prog (⟨dst, .call { callee := .value (.func 136), args := #[a, a2], argTypes := ats }, ty, none⟩ :: l) k σ Q := by
  refine GoL_inl2X [6] D Try.func136 rfl (by decide) mo (by decide +kernel) rfl ha hd hD fun K hK => ?_
  generalize σ.o = s at hr hD hG H1 hK hs1
  have hgo : ∀ (l' : Store) (p' : Nat × Int), ((setA s r (curOb c p')).all fun e => refOkO D l' e.2) = true := fun l' p' => all_setA (fun _ => rfl) (hG l')
  have hgo1 : ∀ (l' : Store) (p' : Nat × Int), ((setA s r (curOb c p')).all fun e => refOkO (D + 1) l' e.2) = true := fun l' p' => all_mono (Nat.le_succ D) (hgo l' p')
  have hgo5 : ∀ (l' : Store) (p' : Nat × Int), ((setA s r (curOb c p')).all fun e => refOkO (D + 2) l' e.2) = true := fun l' p' => all_mono (by omega) (hgo l' p')
  have hgo2 := hgo
  simp only [refOkO] at hgo2
  have hgo3 := hgo1
  simp only [refOkO] at hgo3
  have hgo6 := hgo5
  simp only [refOkO] at hgo6
  have hr1 : ∀ ob, getA (setA s r ob) r = some ob := getA_here hr
  have hu : ∀ ob, upS D (setA s r ob) = [] := fun ob => upS_below (by rw [belowS_setA]; exact hD)
  have hv : ∀ ob, dnS D (setA s r ob) = setA s r ob := fun ob => dnS_below (by rw [belowS_setA]; exact hD)
  have hrD : r.1 < D := belowS_get hD r _ hr
  have hne : ∀ n, ((D, n) = r) = False := fun n => eq_false fun e => by rw [← e] at hrD; exact Nat.lt_irrefl _ hrD
  have hne2 : ∀ n, r ≠ (D, n) := fun n e => by rw [e] at hrD; exact Nat.lt_irrefl _ hrD
  have hneS : ∀ n, ((D + 1, n) = r) = False := fun n => eq_false fun e => by rw [← e] at hrD; simp only at hrD; omega
  have hneT : ∀ n, ((D + 2, n) = r) = False := fun n => eq_false fun e => by rw [← e] at hrD; simp only at hrD; omega
  have hnr : ∀ n, (r = (D, n)) = False := fun n => eq_false (hne2 n)
  have hdr : decide (r.1 < D) = true := decide_eq_true hrD
  have hdr1 : decide (r.1 < D + 1) = true := decide_eq_true (by omega)
  have hdr2 : decide (r.1 < D + 2) = true := decide_eq_true (by omega)
  have hDl : decide (D < D + 1) = true := decide_eq_true (Nat.lt_succ_self D)
  have hDl2 : decide (D < D + 2) = true := decide_eq_true (by omega)
  have hDl3 : decide (D + 1 < D + 2) = true := decide_eq_true (by omega)
  have hDS1 : (D + 1 = D) = False := eq_false (by omega)
  have hDS2 : (D = D + 1) = False := eq_false (by omega)
  have hDS3 : (D + 2 = D) = False := eq_false (by omega)
  have hDS4 : (D = D + 2) = False := eq_false (by omega)
  have hDX1 : (D + 1 < D) = False := eq_false (by omega)
  have hDX2 : (D + 2 < D) = False := eq_false (by omega)
  have hDE1 : (D ≤ D + 1) = True := eq_true (by omega)
  have hDE2 : (D ≤ D + 2) = True := eq_true (by omega)
  have hDD : (D < D) = False := eq_false (Nat.lt_irrefl D)
  have hD1 : ∀ ob, belowS (D + 1) (setA s r ob) = true := fun ob => by rw [belowS_setA]; exact belowS_mono (Nat.le_succ D) hD
  have hD2 : ∀ ob, belowS (D + 2) (setA s r ob) = true := fun ob => by rw [belowS_setA]; exact belowS_mono (by omega) hD
  have hs0 := setA_same hr
  rw [← hs0]
  clear hs0
  have hcs : ∀ p, (curOb c p).sz = 3 := fun _ => rfl
  have hcl : ∀ p, (curOb c p).rows.length = 1 := fun _ => rfl
  have hnS : ∀ n, ((D, n) = rs1) = False := fun n => eq_false fun e => by rw [← e] at hrs; exact Nat.lt_irrefl _ hrs
  have hnS1 : ∀ n, ((D + 1, n) = rs1) = False := fun n => eq_false fun e => by rw [← e] at hrs; simp only at hrs; omega
  have hnS2 : ∀ n, ((D + 2, n) = rs1) = False := fun n => eq_false fun e => by rw [← e] at hrs; simp only at hrs; omega
  have hgS : ∀ ob, getA (setA s r ob) rs1 = some ⟨.sl, 3, ssR tk la⟩ := fun ob => by rw [getA_setA, if_neg (Ne.symm hrs0)]; exact hs1
  have hgl : (ssR tk la).length = 1 := rfl
  have hrs1 : decide (rs1.1 < D) = true := decide_eq_true hrs
  have hrs2 : decide (rs1.1 < D + 1) = true := decide_eq_true (by omega)
  have hrs3 : decide (rs1.1 < D + 2) = true := decide_eq_true (by omega)
  simp only [Try.ntmps136, Try.results136, push_cast, seval, slimX, List.contains_cons, List.contains_nil, Nat.reduceBEq, Bool.or_false, Bool.and_true, Bool.and_false, Bool.true_and, Bool.false_and, if_true, if_false, Bool.false_eq_true, setA_setA, hcs, hcl, hne, hr1, hu, hv, hDD, hneS, hneT, hDS1, hDS2, hDS3, hDS4, hDE1, hDE2, hDX1, hDX2, hnS, hnS1, hnS2, hgS, hgl, nilS]
  refine once_any (D + 1) r hc hp rfl (by simp only [push_cast, seval, setA_setA, hne, hr1, hneS, hDX1]) (by simp only; omega) (by simp only [push_cast, seval, setA_setA, hD1, hDl, hDX1]) fun p1 b1 hp1 => ?_
  cases b1
  case true =>
    have h22 := (rfl : decide ((2 : Int) = 2) = true)
    simp only [Try.ntmps136, Try.results136, push_cast, seval, setA_setA, hcs, hcl, hne, hr1, hu, hv, hDD, hneS, hneT, hDS1, hDS2, hDS3, hDS4, hDE1, hDE2, hDX1, hDX2, hnS, hnS1, hnS2, hgS, hgl, nilS, h22]
    refine hK _ ⟨tp 63 [(4, .x (.one (.pt (D, 256) [] 8 0 0)))], D, [((D, 256), ⟨.box, 8, [(mkC 1 0 0 ⟨#[]⟩ ⟨#[]⟩ 0 0 false).enc]⟩)], setA s r (curOb c p1)⟩ _ ?_ rfl rfl (by simp only [Try.ntmps136, Try.results136, push_cast, seval, mkC, Cmd.enc] <;> rfl) (H1 p1 1 0 0 0 0 ⟨#[]⟩ ⟨#[]⟩ false hp1 (by decide) (by decide) (by decide) (by decide) (by decide) (by decide) (by decide))
    simp only [mkC, Cmd.enc]
    exact dropAny (by simp only [push_cast, seval, Int.ofNat_zero]) (by simp only [push_cast, seval, Int.ofNat_zero, hDS1]) (by simp only [push_cast, seval, hdr, Int.ofNat_zero]) (by simp only [push_cast, seval, Int.ofNat_zero]) (hgo _ _)
  case false =>
    simp only [Try.ntmps136, Try.results136, push_cast, seval, setA_setA, hcs, hcl, hne, hr1, hu, hv, hDD, hneS, hneT, hDS1, hDS2, hDS3, hDS4, hDE1, hDE2, hDX1, hDX2, hnS, hnS1, hnS2, hgS, hgl, nilS]
    refine l16OfA_any (D + 1) r rs1 ck tk la (by simp only [push_cast, seval, setA_setA, hnS, hgS]) (by omega) hc hp1 (by first | rfl | (simp only [push_cast, seval, nilS]; rfl)) (by simp only [push_cast, seval, setA_setA, hne, hr1]) hrs0 (by simp only; omega) (by simp only [push_cast, seval, setA_setA, hD1, hDl]) (by simp only [push_cast, seval, hgo3, hrs2]; try exact fun _ => trivial) fun p2 o num to_ text task yes hp2 ho hnum hto htext htask => ?_
    have w0 : IntKind.i64.wrap 0 = 0 := by decide
    have hss : (ssR tk la).getD 0 [] = [.v (.int .i64 tk), .v (.int .i64 la), .v (.string ⟨#[]⟩)] := rfl
    obtain ⟨q1, hq1⟩ : ∃ q, q = la + 1 := ⟨_, rfl⟩
    have wq : IntKind.i64.wrap ((la : Int) + 1) = (q1 : Int) := wN (by omega) (by omega)
    simp only [Try.ntmps136, Try.results136, push_cast, seval, setA_setA, hcs, hcl, hne, hr1, hu, hv, hDD, hneS, hneT, hDS1, hDS2, hDS3, hDS4, hDE1, hDE2, hDX1, hDX2, hnS, hnS1, hnS2, hgS, hgl, nilS, w0, hss, Int.toNat_zero, mkC, Cmd.enc]
    refine once_any (D + 2) r hc hp2 rfl (by simp only [push_cast, seval, setA_setA, hne, hr1, hneS, hDX1]) (by simp only; omega) (by simp only [push_cast, seval, setA_setA, hD2, hDl2, hDl3, hDX1]) fun p3 b3 hp3 => ?_
    cases b3
    case false =>
      simp only [Try.ntmps136, Try.results136, push_cast, seval, setA_setA, hcs, hcl, hne, hr1, hu, hv, hDD, hneS, hneT, hDS1, hDS2, hDS3, hDS4, hDE1, hDE2, hDX1, hDX2, hnS, hnS1, hnS2, hgS, hgl, nilS, w0, hss, Int.toNat_zero, wq]
      refine below_any (D + 2) r hc hp3 rfl (by simp only [push_cast, seval, setA_setA, hne, hr1, hneS, hDX1]) (by simp only; omega) (by simp only [push_cast, seval, setA_setA, hD2, hDl2, hDl3, hDX1]) fun p5 xs hp5 hxs _ => ?_
      by_cases e0 : xs = 0
      · subst e0
        simp only [Try.ntmps136, Try.results136, push_cast, seval, setA_setA, hcs, hcl, hne, hr1, hu, hv, hDD, hneS, hneT, hDS1, hDS2, hDS3, hDS4, hDE1, hDE2, hDX1, hDX2, hnS, hnS1, hnS2, hgS, hgl, nilS, w0, hss, Int.toNat_zero]
        refine hK _ ⟨tp 63 [(4, .x (.one (.pt (D, 256) [] 8 0 0)))], D, [((D, 256), ⟨.box, 8, [(mkC o tk la text task num to_ yes).enc]⟩)], setA s r (curOb c p5)⟩ _ ?_ rfl rfl (by simp only [Try.ntmps136, Try.results136, push_cast, seval, mkC, Cmd.enc] <;> rfl) (H1 p5 o tk la num to_ text task yes hp5 ho (by omega) (by omega) hnum hto htext htask)
        simp only [mkC, Cmd.enc]
        exact dropAny (by simp only [push_cast, seval, Int.ofNat_zero]) (by simp only [push_cast, seval, Int.ofNat_zero, hDS1]) (by simp only [push_cast, seval, hdr, Int.ofNat_zero]) (by simp only [push_cast, seval, Int.ofNat_zero]) (hgo _ _)
      · by_cases e1 : xs = 1
        · subst e1
          simp only [Try.ntmps136, Try.results136, push_cast, seval, setA_setA, hcs, hcl, hne, hr1, hu, hv, hDD, hneS, hneT, hDS1, hDS2, hDS3, hDS4, hDE1, hDE2, hDX1, hDX2, hnS, hnS1, hnS2, hgS, hgl, nilS, w0, hss, Int.toNat_zero]
          refine below_any (D + 2) r hc hp5 rfl (by simp only [push_cast, seval, setA_setA, hne, hr1, hneS, hDX1]) (by simp only; omega) (by simp only [push_cast, seval, setA_setA, hD2, hDl2, hDl3, hDX1]) fun p6 xy hp6 hxy _ => ?_
          obtain ⟨hy0, hy1⟩ := hxy (by decide)
          obtain ⟨ny, rfl⟩ := Int.eq_ofNat_of_zero_le hy0
          simp only [Try.ntmps136, Try.results136, push_cast, seval, setA_setA, hcs, hcl, hne, hr1, hu, hv, hDD, hneS, hneT, hDS1, hDS2, hDS3, hDS4, hDE1, hDE2, hDX1, hDX2, hnS, hnS1, hnS2, hgS, hgl, nilS, w0, hss, Int.toNat_zero]
          refine hK _ ⟨tp 63 [(4, .x (.one (.pt (D, 256) [] 8 0 0)))], D, [((D, 256), ⟨.box, 8, [(mkC o tk ny text task num to_ yes).enc]⟩)], setA s r (curOb c p6)⟩ _ ?_ rfl rfl (by simp only [Try.ntmps136, Try.results136, push_cast, seval, mkC, Cmd.enc] <;> rfl) (H1 p6 o tk ny num to_ text task yes hp6 ho (by omega) (by omega) hnum hto htext htask)
          simp only [mkC, Cmd.enc]
          exact dropAny (by simp only [push_cast, seval, Int.ofNat_zero]) (by simp only [push_cast, seval, Int.ofNat_zero, hDS1]) (by simp only [push_cast, seval, hdr, Int.ofNat_zero]) (by simp only [push_cast, seval, Int.ofNat_zero]) (hgo _ _)
        · by_cases e2 : xs = 2
          · subst e2
            simp only [Try.ntmps136, Try.results136, push_cast, seval, setA_setA, hcs, hcl, hne, hr1, hu, hv, hDD, hneS, hneT, hDS1, hDS2, hDS3, hDS4, hDE1, hDE2, hDX1, hDX2, hnS, hnS1, hnS2, hgS, hgl, nilS, w0, hss, Int.toNat_zero]
            refine below_any (D + 2) r hc hp5 rfl (by simp only [push_cast, seval, setA_setA, hne, hr1, hneS, hDX1]) (by simp only; omega) (by simp only [push_cast, seval, setA_setA, hD2, hDl2, hDl3, hDX1]) fun p6 xy hp6 hxy _ => ?_
            obtain ⟨hy0, hy1⟩ := hxy (by decide)
            obtain ⟨ny, rfl⟩ := Int.eq_ofNat_of_zero_le hy0
            simp only [Try.ntmps136, Try.results136, push_cast, seval, setA_setA, hcs, hcl, hne, hr1, hu, hv, hDD, hneS, hneT, hDS1, hDS2, hDS3, hDS4, hDE1, hDE2, hDX1, hDX2, hnS, hnS1, hnS2, hgS, hgl, nilS, w0, hss, Int.toNat_zero]
            refine hK _ ⟨tp 63 [(4, .x (.one (.pt (D, 256) [] 8 0 0)))], D, [((D, 256), ⟨.box, 8, [(mkC o ny q1 text task num to_ yes).enc]⟩)], setA s r (curOb c p6)⟩ _ ?_ rfl rfl (by simp only [Try.ntmps136, Try.results136, push_cast, seval, mkC, Cmd.enc] <;> rfl) (H1 p6 o ny q1 num to_ text task yes hp6 ho (by omega) (by omega) hnum hto htext htask)
            simp only [mkC, Cmd.enc]
            exact dropAny (by simp only [push_cast, seval, Int.ofNat_zero]) (by simp only [push_cast, seval, Int.ofNat_zero, hDS1]) (by simp only [push_cast, seval, hdr, Int.ofNat_zero]) (by simp only [push_cast, seval, Int.ofNat_zero]) (hgo _ _)
          · simp only [Try.ntmps136, Try.results136, push_cast, seval, setA_setA, hcs, hcl, hne, hr1, hu, hv, hDD, hneS, hneT, hDS1, hDS2, hDS3, hDS4, hDE1, hDE2, hDX1, hDX2, hnS, hnS1, hnS2, hgS, hgl, nilS, w0, hss, Int.toNat_zero, e0, e1, e2]
            refine hK _ ⟨tp 63 [(4, .x (.one (.pt (D, 256) [] 8 0 0)))], D, [((D, 256), ⟨.box, 8, [(mkC o tk q1 text task num to_ yes).enc]⟩)], setA s r (curOb c p5)⟩ _ ?_ rfl rfl (by simp only [Try.ntmps136, Try.results136, push_cast, seval, mkC, Cmd.enc] <;> rfl) (H1 p5 o tk q1 num to_ text task yes hp5 ho (by omega) (by omega) hnum hto htext htask)
            simp only [mkC, Cmd.enc]
            exact dropAny (by simp only [push_cast, seval, Int.ofNat_zero]) (by simp only [push_cast, seval, Int.ofNat_zero, hDS1]) (by simp only [push_cast, seval, hdr, Int.ofNat_zero]) (by simp only [push_cast, seval, Int.ofNat_zero]) (hgo _ _)
    case true =>
      simp only [Try.ntmps136, Try.results136, push_cast, seval, setA_setA, hcs, hcl, hne, hr1, hu, hv, hDD, hneS, hneT, hDS1, hDS2, hDS3, hDS4, hDE1, hDE2, hDX1, hDX2, hnS, hnS1, hnS2, hgS, hgl, nilS, w0, hss, Int.toNat_zero]
      refine Go_anyF [0, 1, 2, 3, 4] (by decide +kernel) fun K2 hK2 => ?_
      refine AnyF_fl 0 (by decide +kernel) rfl rfl rfl ?_
      simp only [push_cast, seval, setA_setA, hcs, hcl, hne, hr1, hu, hv, hDD, hneS, hneT, hDS1, hDS2, hDS3, hDS4, hDE1, hDE2, hDX1, hDX2, hnS, hnS1, hnS2, hgS, hgl, nilS, w0, hss, Int.toNat_zero]
      refine AnyF_fl 1 (by decide +kernel) rfl rfl rfl ?_
      simp only [push_cast, seval, setA_setA, hcs, hcl, hne, hr1, hu, hv, hDD, hneS, hneT, hDS1, hDS2, hDS3, hDS4, hDE1, hDE2, hDX1, hDX2, hnS, hnS1, hnS2, hgS, hgl, nilS, w0, hss, Int.toNat_zero]
      refine AnyF_fl 2 (by decide +kernel) rfl rfl rfl ?_
      simp only [push_cast, seval, setA_setA, hcs, hcl, hne, hr1, hu, hv, hDD, hneS, hneT, hDS1, hDS2, hDS3, hDS4, hDE1, hDE2, hDX1, hDX2, hnS, hnS1, hnS2, hgS, hgl, nilS, w0, hss, Int.toNat_zero]
      refine AnyF_fl 3 (by decide +kernel) rfl rfl rfl ?_
      simp only [push_cast, seval, setA_setA, hcs, hcl, hne, hr1, hu, hv, hDD, hneS, hneT, hDS1, hDS2, hDS3, hDS4, hDE1, hDE2, hDX1, hDX2, hnS, hnS1, hnS2, hgS, hgl, nilS, w0, hss, Int.toNat_zero]
      refine AnyF_fl 4 (by decide +kernel) rfl rfl rfl ?_
      simp only [push_cast, seval, setA_setA, hcs, hcl, hne, hr1, hu, hv, hDD, hneS, hneT, hDS1, hDS2, hDS3, hDS4, hDE1, hDE2, hDX1, hDX2, hnS, hnS1, hnS2, hgS, hgl, nilS, w0, hss, Int.toNat_zero]
      refine AnyF_1 5 [0, 1, 2, 3] (by decide +kernel) rfl rfl (by decide +kernel) ?_
      simp only [push_cast, seval, setA_setA, hcs, hcl, hne, hr1, hu, hv, hDD, hneS, hneT, hDS1, hDS2, hDS3, hDS4, hDE1, hDE2, hDX1, hDX2, hnS, hnS1, hnS2, hgS, hgl, nilS, w0, hss, Int.toNat_zero]
      refine AnyF_1 6 [0, 1, 3] (by decide +kernel) rfl rfl (by decide +kernel) ?_
      refine below_any (D + 2) r hc hp3 rfl (by simp only [push_cast, seval, setA_setA, hne, hr1, hneS, hDX1]) (by simp only; omega) (by simp only [push_cast, seval, setA_setA, hD2, hDl2, hDl3, hDX1]) fun p4 xb hp4 hxb _ => ?_
      obtain ⟨hb0, hb1⟩ := hxb (by decide)
      have hxe : xb = 0 := by omega
      subst hxe
      simp only [push_cast, seval, setA_setA, hcs, hcl, hne, hr1, hu, hv, hDD, hneS, hneT, hDS1, hDS2, hDS3, hDS4, hDE1, hDE2, hDX1, hDX2, hnS, hnS1, hnS2, hgS, hgl, nilS, w0, hss, Int.toNat_zero]
      refine AnyF_1 7 [0, 3] (by decide +kernel) rfl rfl (by decide +kernel) ?_
      simp only [push_cast, seval, setA_setA, hcs, hcl, hne, hr1, hu, hv, hDD, hneS, hneT, hDS1, hDS2, hDS3, hDS4, hDE1, hDE2, hDX1, hDX2, hnS, hnS1, hnS2, hgS, hgl, nilS, w0, hss, Int.toNat_zero]
      refine AnyF_1 8 [0, 3] (by decide +kernel) rfl rfl (by decide +kernel) ?_
      simp only [push_cast, seval, setA_setA, hcs, hcl, hne, hr1, hu, hv, hDD, hneS, hneT, hDS1, hDS2, hDS3, hDS4, hDE1, hDE2, hDX1, hDX2, hnS, hnS1, hnS2, hgS, hgl, nilS, w0, hss, Int.toNat_zero]
      refine AnyF_1 9 [] (by decide +kernel) rfl rfl (by decide +kernel) ?_
      simp only [push_cast, seval, setA_setA, hcs, hcl, hne, hr1, hu, hv, hDD, hneS, hneT, hDS1, hDS2, hDS3, hDS4, hDE1, hDE2, hDX1, hDX2, hnS, hnS1, hnS2, hgS, hgl, nilS, w0, hss, Int.toNat_zero]
      refine AnyF_end (by decide +kernel) (hK2 _ ?_)
      simp only [Try.ntmps136, Try.results136, push_cast, seval, setA_setA, hcs, hcl, hne, hr1, hu, hv, hDD, hneS, hneT, hDS1, hDS2, hDS3, hDS4, hDE1, hDE2, hDX1, hDX2, hnS, hnS1, hnS2, hgS, hgl, nilS, w0, hss, Int.toNat_zero, wq]
      refine below_any (D + 2) r hc hp4 rfl (by simp only [push_cast, seval, setA_setA, hne, hr1, hneS, hDX1]) (by simp only; omega) (by simp only [push_cast, seval, setA_setA, hD2, hDl2, hDl3, hDX1]) fun p5 xs hp5 hxs _ => ?_
      by_cases e0 : xs = 0
      · subst e0
        simp only [Try.ntmps136, Try.results136, push_cast, seval, setA_setA, hcs, hcl, hne, hr1, hu, hv, hDD, hneS, hneT, hDS1, hDS2, hDS3, hDS4, hDE1, hDE2, hDX1, hDX2, hnS, hnS1, hnS2, hgS, hgl, nilS, w0, hss, Int.toNat_zero]
        refine hK _ ⟨tp 63 [(4, .x (.one (.pt (D, 256) [] 8 0 0)))], D, [((D, 256), ⟨.box, 8, [(mkC o tk la text task num to_ yes).enc]⟩)], setA s r (curOb c p5)⟩ _ ?_ rfl rfl (by simp only [Try.ntmps136, Try.results136, push_cast, seval, mkC, Cmd.enc] <;> rfl) (H1 p5 o tk la num to_ text task yes hp5 ho (by omega) (by omega) hnum hto htext htask)
        simp only [mkC, Cmd.enc]
        exact dropAny (by simp only [push_cast, seval, Int.ofNat_zero]) (by simp only [push_cast, seval, Int.ofNat_zero, hDS1]) (by simp only [push_cast, seval, hdr, Int.ofNat_zero]) (by simp only [push_cast, seval, Int.ofNat_zero]) (hgo _ _)
      · by_cases e1 : xs = 1
        · subst e1
          simp only [Try.ntmps136, Try.results136, push_cast, seval, setA_setA, hcs, hcl, hne, hr1, hu, hv, hDD, hneS, hneT, hDS1, hDS2, hDS3, hDS4, hDE1, hDE2, hDX1, hDX2, hnS, hnS1, hnS2, hgS, hgl, nilS, w0, hss, Int.toNat_zero]
          refine below_any (D + 2) r hc hp5 rfl (by simp only [push_cast, seval, setA_setA, hne, hr1, hneS, hDX1]) (by simp only; omega) (by simp only [push_cast, seval, setA_setA, hD2, hDl2, hDl3, hDX1]) fun p6 xy hp6 hxy _ => ?_
          obtain ⟨hy0, hy1⟩ := hxy (by decide)
          obtain ⟨ny, rfl⟩ := Int.eq_ofNat_of_zero_le hy0
          simp only [Try.ntmps136, Try.results136, push_cast, seval, setA_setA, hcs, hcl, hne, hr1, hu, hv, hDD, hneS, hneT, hDS1, hDS2, hDS3, hDS4, hDE1, hDE2, hDX1, hDX2, hnS, hnS1, hnS2, hgS, hgl, nilS, w0, hss, Int.toNat_zero]
          refine hK _ ⟨tp 63 [(4, .x (.one (.pt (D, 256) [] 8 0 0)))], D, [((D, 256), ⟨.box, 8, [(mkC o tk ny text task num to_ yes).enc]⟩)], setA s r (curOb c p6)⟩ _ ?_ rfl rfl (by simp only [Try.ntmps136, Try.results136, push_cast, seval, mkC, Cmd.enc] <;> rfl) (H1 p6 o tk ny num to_ text task yes hp6 ho (by omega) (by omega) hnum hto htext htask)
          simp only [mkC, Cmd.enc]
          exact dropAny (by simp only [push_cast, seval, Int.ofNat_zero]) (by simp only [push_cast, seval, Int.ofNat_zero, hDS1]) (by simp only [push_cast, seval, hdr, Int.ofNat_zero]) (by simp only [push_cast, seval, Int.ofNat_zero]) (hgo _ _)
        · by_cases e2 : xs = 2
          · subst e2
            simp only [Try.ntmps136, Try.results136, push_cast, seval, setA_setA, hcs, hcl, hne, hr1, hu, hv, hDD, hneS, hneT, hDS1, hDS2, hDS3, hDS4, hDE1, hDE2, hDX1, hDX2, hnS, hnS1, hnS2, hgS, hgl, nilS, w0, hss, Int.toNat_zero]
            refine below_any (D + 2) r hc hp5 rfl (by simp only [push_cast, seval, setA_setA, hne, hr1, hneS, hDX1]) (by simp only; omega) (by simp only [push_cast, seval, setA_setA, hD2, hDl2, hDl3, hDX1]) fun p6 xy hp6 hxy _ => ?_
            obtain ⟨hy0, hy1⟩ := hxy (by decide)
            obtain ⟨ny, rfl⟩ := Int.eq_ofNat_of_zero_le hy0
            simp only [Try.ntmps136, Try.results136, push_cast, seval, setA_setA, hcs, hcl, hne, hr1, hu, hv, hDD, hneS, hneT, hDS1, hDS2, hDS3, hDS4, hDE1, hDE2, hDX1, hDX2, hnS, hnS1, hnS2, hgS, hgl, nilS, w0, hss, Int.toNat_zero]
            refine hK _ ⟨tp 63 [(4, .x (.one (.pt (D, 256) [] 8 0 0)))], D, [((D, 256), ⟨.box, 8, [(mkC o ny q1 text task num to_ yes).enc]⟩)], setA s r (curOb c p6)⟩ _ ?_ rfl rfl (by simp only [Try.ntmps136, Try.results136, push_cast, seval, mkC, Cmd.enc] <;> rfl) (H1 p6 o ny q1 num to_ text task yes hp6 ho (by omega) (by omega) hnum hto htext htask)
            simp only [mkC, Cmd.enc]
            exact dropAny (by simp only [push_cast, seval, Int.ofNat_zero]) (by simp only [push_cast, seval, Int.ofNat_zero, hDS1]) (by simp only [push_cast, seval, hdr, Int.ofNat_zero]) (by simp only [push_cast, seval, Int.ofNat_zero]) (hgo _ _)
          · simp only [Try.ntmps136, Try.results136, push_cast, seval, setA_setA, hcs, hcl, hne, hr1, hu, hv, hDD, hneS, hneT, hDS1, hDS2, hDS3, hDS4, hDE1, hDE2, hDX1, hDX2, hnS, hnS1, hnS2, hgS, hgl, nilS, w0, hss, Int.toNat_zero, e0, e1, e2]
            refine hK _ ⟨tp 63 [(4, .x (.one (.pt (D, 256) [] 8 0 0)))], D, [((D, 256), ⟨.box, 8, [(mkC o tk q1 text task num to_ yes).enc]⟩)], setA s r (curOb c p5)⟩ _ ?_ rfl rfl (by simp only [Try.ntmps136, Try.results136, push_cast, seval, mkC, Cmd.enc] <;> rfl) (H1 p5 o tk q1 num to_ text task yes hp5 ho (by omega) (by omega) hnum hto htext htask)
            simp only [mkC, Cmd.enc]
            exact dropAny (by simp only [push_cast, seval, Int.ofNat_zero]) (by simp only [push_cast, seval, Int.ofNat_zero, hDS1]) (by simp only [push_cast, seval, hdr, Int.ofNat_zero]) (by simp only [push_cast, seval, Int.ofNat_zero]) (hgo _ _)
set_option maxHeartbeats 4000000 in
theorem l16CmdB_any (D : Nat) (r rs1 rp rr : Root) (ck tk la : Nat) (hck : ck ≤ 50) (htk : tk ≤ 5) (hla : la ≤ 3) (hs1 : getA σ.o rs1 = some ⟨.sl, 3, ssR tk la⟩) (hrs : rs1.1 < D) (hp1' : getA σ.o rp = some ⟨.sl, 9, [plRow]⟩) (hrp : rp.1 < D) (hr1' : getA σ.o rr = some ⟨.sl, 5, []⟩) (hrr : rr.1 < D) {c : List UInt8} {p : Nat × Int} (hc : c.length ≤ 1048576) (hp : p.1 ≤ c.length)
    (ha : xsV [ev σ a, ev σ a2] = some [.one (.pt r [] 3 0 0), .agg [.rs rs1 [] 3 0 1, .rs rp [] 9 0 1, .rs rr [] 5 0 0, .v (.int .i64 ck), .v (.int .i64 1)]]) (hr : getA σ.o r = some (curOb c p)) (hrs0 : rs1 ≠ r) (hrp0 : rp ≠ r) (hrr0 : rr ≠ r) (hd : σ.d ≤ D) (hD : belowS D σ.o = true) (hG : ∀ l' : Store, (σ.o.all fun e => refOkO D l' e.2) = true)
    (H1 : ∀ (p' : Nat × Int) (o tok seq num to_ : Nat) (text task : ByteArray) (yes : Bool), p'.1 ≤ c.length → o ≤ 9 → tok ≤ 1000 → seq ≤ 1000 → num ≤ 1000 → to_ ≤ 1000 → text.size ≤ 600 → task.size ≤ 600 →
      GoL Try.prog l k (exitSt σ.t σ.d dst ⟨[], D, [((D, 256), ⟨.box, 8, [(mkC o tok seq text task num to_ yes).enc]⟩)], setA σ.o r (curOb c p')⟩ [.agg (mkC o tok seq text task num to_ yes).enc]) Q) :
    GoL Try.prog (⟨dst, .call { callee := .value (.func 136), args := #[a, a2], argTypes := ats }, ty, none⟩ :: l) k σ Q := by
  refine GoL_inl2X [6] D Try.func136 rfl (by decide) mo (by decide +kernel) rfl ha hd hD fun K hK => ?_
  generalize σ.o = s at hr hD hG H1 hK hs1 hp1' hr1'
  have hgo : ∀ (l' : Store) (p' : Nat × Int), ((setA s r (curOb c p')).all fun e => refOkO D l' e.2) = true := fun l' p' => all_setA (fun _ => rfl) (hG l')
  have hgo1 : ∀ (l' : Store) (p' : Nat × Int), ((setA s r (curOb c p')).all fun e => refOkO (D + 1) l' e.2) = true := fun l' p' => all_mono (Nat.le_succ D) (hgo l' p')
  have hgo5 : ∀ (l' : Store) (p' : Nat × Int), ((setA s r (curOb c p')).all fun e => refOkO (D + 2) l' e.2) = true := fun l' p' => all_mono (by omega) (hgo l' p')
  have hgo2 := hgo
  simp only [refOkO] at hgo2
  have hgo3 := hgo1
  simp only [refOkO] at hgo3
  have hgo6 := hgo5
  simp only [refOkO] at hgo6
  have hr1 : ∀ ob, getA (setA s r ob) r = some ob := getA_here hr
  have hu : ∀ ob, upS D (setA s r ob) = [] := fun ob => upS_below (by rw [belowS_setA]; exact hD)
  have hv : ∀ ob, dnS D (setA s r ob) = setA s r ob := fun ob => dnS_below (by rw [belowS_setA]; exact hD)
  have hrD : r.1 < D := belowS_get hD r _ hr
  have hne : ∀ n, ((D, n) = r) = False := fun n => eq_false fun e => by rw [← e] at hrD; exact Nat.lt_irrefl _ hrD
  have hne2 : ∀ n, r ≠ (D, n) := fun n e => by rw [e] at hrD; exact Nat.lt_irrefl _ hrD
  have hneS : ∀ n, ((D + 1, n) = r) = False := fun n => eq_false fun e => by rw [← e] at hrD; simp only at hrD; omega
  have hneT : ∀ n, ((D + 2, n) = r) = False := fun n => eq_false fun e => by rw [← e] at hrD; simp only at hrD; omega
  have hnr : ∀ n, (r = (D, n)) = False := fun n => eq_false (hne2 n)
  have hdr : decide (r.1 < D) = true := decide_eq_true hrD
  have hdr1 : decide (r.1 < D + 1) = true := decide_eq_true (by omega)
  have hdr2 : decide (r.1 < D + 2) = true := decide_eq_true (by omega)
  have hDl : decide (D < D + 1) = true := decide_eq_true (Nat.lt_succ_self D)
  have hDl2 : decide (D < D + 2) = true := decide_eq_true (by omega)
  have hDl3 : decide (D + 1 < D + 2) = true := decide_eq_true (by omega)
  have hDS1 : (D + 1 = D) = False := eq_false (by omega)
  have hDS2 : (D = D + 1) = False := eq_false (by omega)
  have hDS3 : (D + 2 = D) = False := eq_false (by omega)
  have hDS4 : (D = D + 2) = False := eq_false (by omega)
  have hDX1 : (D + 1 < D) = False := eq_false (by omega)
  have hDX2 : (D + 2 < D) = False := eq_false (by omega)
  have hDE1 : (D ≤ D + 1) = True := eq_true (by omega)
  have hDE2 : (D ≤ D + 2) = True := eq_true (by omega)
  have hDD : (D < D) = False := eq_false (Nat.lt_irrefl D)
  have hD1 : ∀ ob, belowS (D + 1) (setA s r ob) = true := fun ob => by rw [belowS_setA]; exact belowS_mono (Nat.le_succ D) hD
  have hD2 : ∀ ob, belowS (D + 2) (setA s r ob) = true := fun ob => by rw [belowS_setA]; exact belowS_mono (by omega) hD
  have hs0 := setA_same hr
  rw [← hs0]
  clear hs0
  have hcs : ∀ p, (curOb c p).sz = 3 := fun _ => rfl
  have hcl : ∀ p, (curOb c p).rows.length = 1 := fun _ => rfl
  have hnS : ∀ n, ((D, n) = rs1) = False := fun n => eq_false fun e => by rw [← e] at hrs; exact Nat.lt_irrefl _ hrs
  have hnS1 : ∀ n, ((D + 1, n) = rs1) = False := fun n => eq_false fun e => by rw [← e] at hrs; simp only at hrs; omega
  have hnS2 : ∀ n, ((D + 2, n) = rs1) = False := fun n => eq_false fun e => by rw [← e] at hrs; simp only at hrs; omega
  have hgS : ∀ ob, getA (setA s r ob) rs1 = some ⟨.sl, 3, ssR tk la⟩ := fun ob => by rw [getA_setA, if_neg (Ne.symm hrs0)]; exact hs1
  have hgl : (ssR tk la).length = 1 := rfl
  have hrs1 : decide (rs1.1 < D) = true := decide_eq_true hrs
  have hrs2 : decide (rs1.1 < D + 1) = true := decide_eq_true (by omega)
  have hrs3 : decide (rs1.1 < D + 2) = true := decide_eq_true (by omega)
  have hnP : ∀ n, ((D, n) = rp) = False := fun n => eq_false fun e => by rw [← e] at hrp; exact Nat.lt_irrefl _ hrp
  have hnP1 : ∀ n, ((D + 1, n) = rp) = False := fun n => eq_false fun e => by rw [← e] at hrp; simp only at hrp; omega
  have hnP2 : ∀ n, ((D + 2, n) = rp) = False := fun n => eq_false fun e => by rw [← e] at hrp; simp only at hrp; omega
  have hgP : ∀ ob, getA (setA s r ob) rp = some ⟨.sl, 9, [plRow]⟩ := fun ob => by rw [getA_setA, if_neg (Ne.symm hrp0)]; exact hp1'
  have hrp1 : decide (rp.1 < D) = true := decide_eq_true hrp
  have hrp2 : decide (rp.1 < D + 1) = true := decide_eq_true (by omega)
  have hrp3 : decide (rp.1 < D + 2) = true := decide_eq_true (by omega)
  have hnR : ∀ n, ((D, n) = rr) = False := fun n => eq_false fun e => by rw [← e] at hrr; exact Nat.lt_irrefl _ hrr
  have hnR1 : ∀ n, ((D + 1, n) = rr) = False := fun n => eq_false fun e => by rw [← e] at hrr; simp only at hrr; omega
  have hnR2 : ∀ n, ((D + 2, n) = rr) = False := fun n => eq_false fun e => by rw [← e] at hrr; simp only at hrr; omega
  have hgR : ∀ ob, getA (setA s r ob) rr = some ⟨.sl, 5, []⟩ := fun ob => by rw [getA_setA, if_neg (Ne.symm hrr0)]; exact hr1'
  have hrr1 : decide (rr.1 < D) = true := decide_eq_true hrr
  have hrr2 : decide (rr.1 < D + 1) = true := decide_eq_true (by omega)
  have hrr3 : decide (rr.1 < D + 2) = true := decide_eq_true (by omega)
  have hpl0 : [plRow].getD 0 [] = plRow := rfl
  have hplL : [plRow].length = 1 := rfl
  simp only [Try.ntmps136, Try.results136, push_cast, seval, slimX, List.contains_cons, List.contains_nil, Nat.reduceBEq, Bool.or_false, Bool.and_true, Bool.and_false, Bool.true_and, Bool.false_and, if_true, if_false, Bool.false_eq_true, setA_setA, hcs, hcl, hne, hr1, hu, hv, hDD, hneS, hneT, hDS1, hDS2, hDS3, hDS4, hDE1, hDE2, hDX1, hDX2, hnS, hnS1, hnS2, hgS, hgl, hnP, hnP1, hnP2, hgP, hnR, hnR1, hnR2, hgR]
  refine once_any (D + 1) r hc hp rfl (by simp only [push_cast, seval, setA_setA, hne, hr1, hneS, hDX1]) (by simp only; omega) (by simp only [push_cast, seval, setA_setA, hD1, hDl, hDX1]) fun p1 b1 hp1 => ?_
  cases b1
  case true =>
    have h22 := (rfl : decide ((2 : Int) = 2) = true)
    simp only [Try.ntmps136, Try.results136, push_cast, seval, setA_setA, hcs, hcl, hne, hr1, hu, hv, hDD, hneS, hneT, hDS1, hDS2, hDS3, hDS4, hDE1, hDE2, hDX1, hDX2, hnS, hnS1, hnS2, hgS, hgl, hnP, hnP1, hnP2, hgP, hnR, hnR1, hnR2, hgR, h22]
    refine hK _ ⟨tp 63 [(4, .x (.one (.pt (D, 256) [] 8 0 0)))], D, [((D, 256), ⟨.box, 8, [(mkC 1 0 0 ⟨#[]⟩ ⟨#[]⟩ 0 0 false).enc]⟩)], setA s r (curOb c p1)⟩ _ ?_ rfl rfl (by simp only [Try.ntmps136, Try.results136, push_cast, seval, mkC, Cmd.enc] <;> rfl) (H1 p1 1 0 0 0 0 ⟨#[]⟩ ⟨#[]⟩ false hp1 (by decide) (by decide) (by decide) (by decide) (by decide) (by decide) (by decide))
    simp only [mkC, Cmd.enc]
    exact dropAny (by simp only [push_cast, seval, Int.ofNat_zero]) (by simp only [push_cast, seval, Int.ofNat_zero, hDS1]) (by simp only [push_cast, seval, hdr, Int.ofNat_zero]) (by simp only [push_cast, seval, Int.ofNat_zero]) (hgo _ _)
  case false =>
    simp only [Try.ntmps136, Try.results136, push_cast, seval, setA_setA, hcs, hcl, hne, hr1, hu, hv, hDD, hneS, hneT, hDS1, hDS2, hDS3, hDS4, hDE1, hDE2, hDX1, hDX2, hnS, hnS1, hnS2, hgS, hgl, hnP, hnP1, hnP2, hgP, hnR, hnR1, hnR2, hgR]
    refine l16OfB_any (D + 1) r rs1 rp rr ck hck tk la (by simp only [push_cast, seval, setA_setA, hnS, hgS]) (by omega) (by simp only [push_cast, seval, setA_setA, hnP, hgP]) (by omega) (by simp only [push_cast, seval, setA_setA, hnR, hgR]) (by omega) hc hp1 (by first | rfl | (simp only [push_cast, seval, nilS]; rfl)) (by simp only [push_cast, seval, setA_setA, hne, hr1]) hrs0 hrp0 hrr0 (by simp only; omega) (by simp only [push_cast, seval, setA_setA, hD1, hDl]) (by simp only [push_cast, seval, hgo3, hrs2, hrp2, hrr2]; try exact fun _ => trivial) fun p2 o num to_ text task yes hp2 ho hnum hto htext htask => ?_
    have w0 : IntKind.i64.wrap 0 = 0 := by decide
    have hss : (ssR tk la).getD 0 [] = [.v (.int .i64 tk), .v (.int .i64 la), .v (.string ⟨#[]⟩)] := rfl
    obtain ⟨q1, hq1⟩ : ∃ q, q = la + 1 := ⟨_, rfl⟩
    have wq : IntKind.i64.wrap ((la : Int) + 1) = (q1 : Int) := wN (by omega) (by omega)
    simp only [Try.ntmps136, Try.results136, push_cast, seval, setA_setA, hcs, hcl, hne, hr1, hu, hv, hDD, hneS, hneT, hDS1, hDS2, hDS3, hDS4, hDE1, hDE2, hDX1, hDX2, hnS, hnS1, hnS2, hgS, hgl, hnP, hnP1, hnP2, hgP, hnR, hnR1, hnR2, hgR, w0, hss, Int.toNat_zero, mkC, Cmd.enc]
    refine once_any (D + 2) r hc hp2 rfl (by simp only [push_cast, seval, setA_setA, hne, hr1, hneS, hDX1]) (by simp only; omega) (by simp only [push_cast, seval, setA_setA, hD2, hDl2, hDl3, hDX1]) fun p3 b3 hp3 => ?_
    cases b3
    case false =>
      simp only [Try.ntmps136, Try.results136, push_cast, seval, setA_setA, hcs, hcl, hne, hr1, hu, hv, hDD, hneS, hneT, hDS1, hDS2, hDS3, hDS4, hDE1, hDE2, hDX1, hDX2, hnS, hnS1, hnS2, hgS, hgl, hnP, hnP1, hnP2, hgP, hnR, hnR1, hnR2, hgR, w0, hss, Int.toNat_zero, wq]
      refine below_any (D + 2) r hc hp3 rfl (by simp only [push_cast, seval, setA_setA, hne, hr1, hneS, hDX1]) (by simp only; omega) (by simp only [push_cast, seval, setA_setA, hD2, hDl2, hDl3, hDX1]) fun p5 xs hp5 hxs _ => ?_
      by_cases e0 : xs = 0
      · subst e0
        simp only [Try.ntmps136, Try.results136, push_cast, seval, setA_setA, hcs, hcl, hne, hr1, hu, hv, hDD, hneS, hneT, hDS1, hDS2, hDS3, hDS4, hDE1, hDE2, hDX1, hDX2, hnS, hnS1, hnS2, hgS, hgl, hnP, hnP1, hnP2, hgP, hnR, hnR1, hnR2, hgR, w0, hss, Int.toNat_zero]
        refine hK _ ⟨tp 63 [(4, .x (.one (.pt (D, 256) [] 8 0 0)))], D, [((D, 256), ⟨.box, 8, [(mkC o tk la text task num to_ yes).enc]⟩)], setA s r (curOb c p5)⟩ _ ?_ rfl rfl (by simp only [Try.ntmps136, Try.results136, push_cast, seval, mkC, Cmd.enc] <;> rfl) (H1 p5 o tk la num to_ text task yes hp5 ho (by omega) (by omega) hnum hto htext htask)
        simp only [mkC, Cmd.enc]
        exact dropAny (by simp only [push_cast, seval, Int.ofNat_zero]) (by simp only [push_cast, seval, Int.ofNat_zero, hDS1]) (by simp only [push_cast, seval, hdr, Int.ofNat_zero]) (by simp only [push_cast, seval, Int.ofNat_zero]) (hgo _ _)
      · by_cases e1 : xs = 1
        · subst e1
          simp only [Try.ntmps136, Try.results136, push_cast, seval, setA_setA, hcs, hcl, hne, hr1, hu, hv, hDD, hneS, hneT, hDS1, hDS2, hDS3, hDS4, hDE1, hDE2, hDX1, hDX2, hnS, hnS1, hnS2, hgS, hgl, hnP, hnP1, hnP2, hgP, hnR, hnR1, hnR2, hgR, w0, hss, Int.toNat_zero]
          refine below_any (D + 2) r hc hp5 rfl (by simp only [push_cast, seval, setA_setA, hne, hr1, hneS, hDX1]) (by simp only; omega) (by simp only [push_cast, seval, setA_setA, hD2, hDl2, hDl3, hDX1]) fun p6 xy hp6 hxy _ => ?_
          obtain ⟨hy0, hy1⟩ := hxy (by decide)
          obtain ⟨ny, rfl⟩ := Int.eq_ofNat_of_zero_le hy0
          simp only [Try.ntmps136, Try.results136, push_cast, seval, setA_setA, hcs, hcl, hne, hr1, hu, hv, hDD, hneS, hneT, hDS1, hDS2, hDS3, hDS4, hDE1, hDE2, hDX1, hDX2, hnS, hnS1, hnS2, hgS, hgl, hnP, hnP1, hnP2, hgP, hnR, hnR1, hnR2, hgR, w0, hss, Int.toNat_zero]
          refine hK _ ⟨tp 63 [(4, .x (.one (.pt (D, 256) [] 8 0 0)))], D, [((D, 256), ⟨.box, 8, [(mkC o tk ny text task num to_ yes).enc]⟩)], setA s r (curOb c p6)⟩ _ ?_ rfl rfl (by simp only [Try.ntmps136, Try.results136, push_cast, seval, mkC, Cmd.enc] <;> rfl) (H1 p6 o tk ny num to_ text task yes hp6 ho (by omega) (by omega) hnum hto htext htask)
          simp only [mkC, Cmd.enc]
          exact dropAny (by simp only [push_cast, seval, Int.ofNat_zero]) (by simp only [push_cast, seval, Int.ofNat_zero, hDS1]) (by simp only [push_cast, seval, hdr, Int.ofNat_zero]) (by simp only [push_cast, seval, Int.ofNat_zero]) (hgo _ _)
        · by_cases e2 : xs = 2
          · subst e2
            simp only [Try.ntmps136, Try.results136, push_cast, seval, setA_setA, hcs, hcl, hne, hr1, hu, hv, hDD, hneS, hneT, hDS1, hDS2, hDS3, hDS4, hDE1, hDE2, hDX1, hDX2, hnS, hnS1, hnS2, hgS, hgl, hnP, hnP1, hnP2, hgP, hnR, hnR1, hnR2, hgR, w0, hss, Int.toNat_zero]
            refine below_any (D + 2) r hc hp5 rfl (by simp only [push_cast, seval, setA_setA, hne, hr1, hneS, hDX1]) (by simp only; omega) (by simp only [push_cast, seval, setA_setA, hD2, hDl2, hDl3, hDX1]) fun p6 xy hp6 hxy _ => ?_
            obtain ⟨hy0, hy1⟩ := hxy (by decide)
            obtain ⟨ny, rfl⟩ := Int.eq_ofNat_of_zero_le hy0
            simp only [Try.ntmps136, Try.results136, push_cast, seval, setA_setA, hcs, hcl, hne, hr1, hu, hv, hDD, hneS, hneT, hDS1, hDS2, hDS3, hDS4, hDE1, hDE2, hDX1, hDX2, hnS, hnS1, hnS2, hgS, hgl, hnP, hnP1, hnP2, hgP, hnR, hnR1, hnR2, hgR, w0, hss, Int.toNat_zero]
            refine hK _ ⟨tp 63 [(4, .x (.one (.pt (D, 256) [] 8 0 0)))], D, [((D, 256), ⟨.box, 8, [(mkC o ny q1 text task num to_ yes).enc]⟩)], setA s r (curOb c p6)⟩ _ ?_ rfl rfl (by simp only [Try.ntmps136, Try.results136, push_cast, seval, mkC, Cmd.enc] <;> rfl) (H1 p6 o ny q1 num to_ text task yes hp6 ho (by omega) (by omega) hnum hto htext htask)
            simp only [mkC, Cmd.enc]
            exact dropAny (by simp only [push_cast, seval, Int.ofNat_zero]) (by simp only [push_cast, seval, Int.ofNat_zero, hDS1]) (by simp only [push_cast, seval, hdr, Int.ofNat_zero]) (by simp only [push_cast, seval, Int.ofNat_zero]) (hgo _ _)
          · simp only [Try.ntmps136, Try.results136, push_cast, seval, setA_setA, hcs, hcl, hne, hr1, hu, hv, hDD, hneS, hneT, hDS1, hDS2, hDS3, hDS4, hDE1, hDE2, hDX1, hDX2, hnS, hnS1, hnS2, hgS, hgl, hnP, hnP1, hnP2, hgP, hnR, hnR1, hnR2, hgR, w0, hss, Int.toNat_zero, e0, e1, e2]
            refine hK _ ⟨tp 63 [(4, .x (.one (.pt (D, 256) [] 8 0 0)))], D, [((D, 256), ⟨.box, 8, [(mkC o tk q1 text task num to_ yes).enc]⟩)], setA s r (curOb c p5)⟩ _ ?_ rfl rfl (by simp only [Try.ntmps136, Try.results136, push_cast, seval, mkC, Cmd.enc] <;> rfl) (H1 p5 o tk q1 num to_ text task yes hp5 ho (by omega) (by omega) hnum hto htext htask)
            simp only [mkC, Cmd.enc]
            exact dropAny (by simp only [push_cast, seval, Int.ofNat_zero]) (by simp only [push_cast, seval, Int.ofNat_zero, hDS1]) (by simp only [push_cast, seval, hdr, Int.ofNat_zero]) (by simp only [push_cast, seval, Int.ofNat_zero]) (hgo _ _)
    case true =>
      simp only [Try.ntmps136, Try.results136, push_cast, seval, setA_setA, hcs, hcl, hne, hr1, hu, hv, hDD, hneS, hneT, hDS1, hDS2, hDS3, hDS4, hDE1, hDE2, hDX1, hDX2, hnS, hnS1, hnS2, hgS, hgl, hnP, hnP1, hnP2, hgP, hnR, hnR1, hnR2, hgR, w0, hss, Int.toNat_zero]
      refine Go_anyF [0, 1, 2, 3, 4] (by decide +kernel) fun K2 hK2 => ?_
      refine AnyF_fl 0 (by decide +kernel) rfl rfl rfl ?_
      simp only [push_cast, seval, setA_setA, hcs, hcl, hne, hr1, hu, hv, hDD, hneS, hneT, hDS1, hDS2, hDS3, hDS4, hDE1, hDE2, hDX1, hDX2, hnS, hnS1, hnS2, hgS, hgl, hnP, hnP1, hnP2, hgP, hnR, hnR1, hnR2, hgR, w0, hss, Int.toNat_zero]
      refine AnyF_fl 1 (by decide +kernel) rfl rfl rfl ?_
      simp only [push_cast, seval, setA_setA, hcs, hcl, hne, hr1, hu, hv, hDD, hneS, hneT, hDS1, hDS2, hDS3, hDS4, hDE1, hDE2, hDX1, hDX2, hnS, hnS1, hnS2, hgS, hgl, hnP, hnP1, hnP2, hgP, hnR, hnR1, hnR2, hgR, w0, hss, Int.toNat_zero]
      refine AnyF_fl 2 (by decide +kernel) rfl rfl rfl ?_
      simp only [push_cast, seval, setA_setA, hcs, hcl, hne, hr1, hu, hv, hDD, hneS, hneT, hDS1, hDS2, hDS3, hDS4, hDE1, hDE2, hDX1, hDX2, hnS, hnS1, hnS2, hgS, hgl, hnP, hnP1, hnP2, hgP, hnR, hnR1, hnR2, hgR, w0, hss, Int.toNat_zero]
      refine AnyF_fl 3 (by decide +kernel) rfl rfl rfl ?_
      simp only [push_cast, seval, setA_setA, hcs, hcl, hne, hr1, hu, hv, hDD, hneS, hneT, hDS1, hDS2, hDS3, hDS4, hDE1, hDE2, hDX1, hDX2, hnS, hnS1, hnS2, hgS, hgl, hnP, hnP1, hnP2, hgP, hnR, hnR1, hnR2, hgR, w0, hss, Int.toNat_zero]
      refine AnyF_fl 4 (by decide +kernel) rfl rfl rfl ?_
      simp only [push_cast, seval, setA_setA, hcs, hcl, hne, hr1, hu, hv, hDD, hneS, hneT, hDS1, hDS2, hDS3, hDS4, hDE1, hDE2, hDX1, hDX2, hnS, hnS1, hnS2, hgS, hgl, hnP, hnP1, hnP2, hgP, hnR, hnR1, hnR2, hgR, w0, hss, Int.toNat_zero]
      refine AnyF_1 5 [0, 1, 2, 3] (by decide +kernel) rfl rfl (by decide +kernel) ?_
      simp only [push_cast, seval, setA_setA, hcs, hcl, hne, hr1, hu, hv, hDD, hneS, hneT, hDS1, hDS2, hDS3, hDS4, hDE1, hDE2, hDX1, hDX2, hnS, hnS1, hnS2, hgS, hgl, hnP, hnP1, hnP2, hgP, hnR, hnR1, hnR2, hgR, w0, hss, Int.toNat_zero]
      refine AnyF_1 6 [0, 1, 3] (by decide +kernel) rfl rfl (by decide +kernel) ?_
      refine below_any (D + 2) r hc hp3 rfl (by simp only [push_cast, seval, setA_setA, hne, hr1, hneS, hDX1]) (by simp only; omega) (by simp only [push_cast, seval, setA_setA, hD2, hDl2, hDl3, hDX1]) fun p4 xb hp4 hxb _ => ?_
      obtain ⟨hb0, hb1⟩ := hxb (by decide)
      have hxe : xb = 0 := by omega
      subst hxe
      simp only [push_cast, seval, setA_setA, hcs, hcl, hne, hr1, hu, hv, hDD, hneS, hneT, hDS1, hDS2, hDS3, hDS4, hDE1, hDE2, hDX1, hDX2, hnS, hnS1, hnS2, hgS, hgl, hnP, hnP1, hnP2, hgP, hnR, hnR1, hnR2, hgR, w0, hss, Int.toNat_zero]
      refine AnyF_1 7 [0, 3] (by decide +kernel) rfl rfl (by decide +kernel) ?_
      simp only [push_cast, seval, setA_setA, hcs, hcl, hne, hr1, hu, hv, hDD, hneS, hneT, hDS1, hDS2, hDS3, hDS4, hDE1, hDE2, hDX1, hDX2, hnS, hnS1, hnS2, hgS, hgl, hnP, hnP1, hnP2, hgP, hnR, hnR1, hnR2, hgR, w0, hss, Int.toNat_zero]
      refine AnyF_1 8 [0, 3] (by decide +kernel) rfl rfl (by decide +kernel) ?_
      simp only [push_cast, seval, setA_setA, hcs, hcl, hne, hr1, hu, hv, hDD, hneS, hneT, hDS1, hDS2, hDS3, hDS4, hDE1, hDE2, hDX1, hDX2, hnS, hnS1, hnS2, hgS, hgl, hnP, hnP1, hnP2, hgP, hnR, hnR1, hnR2, hgR, w0, hss, Int.toNat_zero]
      refine AnyF_1 9 [] (by decide +kernel) rfl rfl (by decide +kernel) ?_
      simp only [push_cast, seval, setA_setA, hcs, hcl, hne, hr1, hu, hv, hDD, hneS, hneT, hDS1, hDS2, hDS3, hDS4, hDE1, hDE2, hDX1, hDX2, hnS, hnS1, hnS2, hgS, hgl, hnP, hnP1, hnP2, hgP, hnR, hnR1, hnR2, hgR, w0, hss, Int.toNat_zero]
      refine AnyF_end (by decide +kernel) (hK2 _ ?_)
      simp only [Try.ntmps136, Try.results136, push_cast, seval, setA_setA, hcs, hcl, hne, hr1, hu, hv, hDD, hneS, hneT, hDS1, hDS2, hDS3, hDS4, hDE1, hDE2, hDX1, hDX2, hnS, hnS1, hnS2, hgS, hgl, hnP, hnP1, hnP2, hgP, hnR, hnR1, hnR2, hgR, w0, hss, Int.toNat_zero, wq]
      refine below_any (D + 2) r hc hp4 rfl (by simp only [push_cast, seval, setA_setA, hne, hr1, hneS, hDX1]) (by simp only; omega) (by simp only [push_cast, seval, setA_setA, hD2, hDl2, hDl3, hDX1]) fun p5 xs hp5 hxs _ => ?_
      by_cases e0 : xs = 0
      · subst e0
        simp only [Try.ntmps136, Try.results136, push_cast, seval, setA_setA, hcs, hcl, hne, hr1, hu, hv, hDD, hneS, hneT, hDS1, hDS2, hDS3, hDS4, hDE1, hDE2, hDX1, hDX2, hnS, hnS1, hnS2, hgS, hgl, hnP, hnP1, hnP2, hgP, hnR, hnR1, hnR2, hgR, w0, hss, Int.toNat_zero]
        refine hK _ ⟨tp 63 [(4, .x (.one (.pt (D, 256) [] 8 0 0)))], D, [((D, 256), ⟨.box, 8, [(mkC o tk la text task num to_ yes).enc]⟩)], setA s r (curOb c p5)⟩ _ ?_ rfl rfl (by simp only [Try.ntmps136, Try.results136, push_cast, seval, mkC, Cmd.enc] <;> rfl) (H1 p5 o tk la num to_ text task yes hp5 ho (by omega) (by omega) hnum hto htext htask)
        simp only [mkC, Cmd.enc]
        exact dropAny (by simp only [push_cast, seval, Int.ofNat_zero]) (by simp only [push_cast, seval, Int.ofNat_zero, hDS1]) (by simp only [push_cast, seval, hdr, Int.ofNat_zero]) (by simp only [push_cast, seval, Int.ofNat_zero]) (hgo _ _)
      · by_cases e1 : xs = 1
        · subst e1
          simp only [Try.ntmps136, Try.results136, push_cast, seval, setA_setA, hcs, hcl, hne, hr1, hu, hv, hDD, hneS, hneT, hDS1, hDS2, hDS3, hDS4, hDE1, hDE2, hDX1, hDX2, hnS, hnS1, hnS2, hgS, hgl, hnP, hnP1, hnP2, hgP, hnR, hnR1, hnR2, hgR, w0, hss, Int.toNat_zero]
          refine below_any (D + 2) r hc hp5 rfl (by simp only [push_cast, seval, setA_setA, hne, hr1, hneS, hDX1]) (by simp only; omega) (by simp only [push_cast, seval, setA_setA, hD2, hDl2, hDl3, hDX1]) fun p6 xy hp6 hxy _ => ?_
          obtain ⟨hy0, hy1⟩ := hxy (by decide)
          obtain ⟨ny, rfl⟩ := Int.eq_ofNat_of_zero_le hy0
          simp only [Try.ntmps136, Try.results136, push_cast, seval, setA_setA, hcs, hcl, hne, hr1, hu, hv, hDD, hneS, hneT, hDS1, hDS2, hDS3, hDS4, hDE1, hDE2, hDX1, hDX2, hnS, hnS1, hnS2, hgS, hgl, hnP, hnP1, hnP2, hgP, hnR, hnR1, hnR2, hgR, w0, hss, Int.toNat_zero]
          refine hK _ ⟨tp 63 [(4, .x (.one (.pt (D, 256) [] 8 0 0)))], D, [((D, 256), ⟨.box, 8, [(mkC o tk ny text task num to_ yes).enc]⟩)], setA s r (curOb c p6)⟩ _ ?_ rfl rfl (by simp only [Try.ntmps136, Try.results136, push_cast, seval, mkC, Cmd.enc] <;> rfl) (H1 p6 o tk ny num to_ text task yes hp6 ho (by omega) (by omega) hnum hto htext htask)
          simp only [mkC, Cmd.enc]
          exact dropAny (by simp only [push_cast, seval, Int.ofNat_zero]) (by simp only [push_cast, seval, Int.ofNat_zero, hDS1]) (by simp only [push_cast, seval, hdr, Int.ofNat_zero]) (by simp only [push_cast, seval, Int.ofNat_zero]) (hgo _ _)
        · by_cases e2 : xs = 2
          · subst e2
            simp only [Try.ntmps136, Try.results136, push_cast, seval, setA_setA, hcs, hcl, hne, hr1, hu, hv, hDD, hneS, hneT, hDS1, hDS2, hDS3, hDS4, hDE1, hDE2, hDX1, hDX2, hnS, hnS1, hnS2, hgS, hgl, hnP, hnP1, hnP2, hgP, hnR, hnR1, hnR2, hgR, w0, hss, Int.toNat_zero]
            refine below_any (D + 2) r hc hp5 rfl (by simp only [push_cast, seval, setA_setA, hne, hr1, hneS, hDX1]) (by simp only; omega) (by simp only [push_cast, seval, setA_setA, hD2, hDl2, hDl3, hDX1]) fun p6 xy hp6 hxy _ => ?_
            obtain ⟨hy0, hy1⟩ := hxy (by decide)
            obtain ⟨ny, rfl⟩ := Int.eq_ofNat_of_zero_le hy0
            simp only [Try.ntmps136, Try.results136, push_cast, seval, setA_setA, hcs, hcl, hne, hr1, hu, hv, hDD, hneS, hneT, hDS1, hDS2, hDS3, hDS4, hDE1, hDE2, hDX1, hDX2, hnS, hnS1, hnS2, hgS, hgl, hnP, hnP1, hnP2, hgP, hnR, hnR1, hnR2, hgR, w0, hss, Int.toNat_zero]
            refine hK _ ⟨tp 63 [(4, .x (.one (.pt (D, 256) [] 8 0 0)))], D, [((D, 256), ⟨.box, 8, [(mkC o ny q1 text task num to_ yes).enc]⟩)], setA s r (curOb c p6)⟩ _ ?_ rfl rfl (by simp only [Try.ntmps136, Try.results136, push_cast, seval, mkC, Cmd.enc] <;> rfl) (H1 p6 o ny q1 num to_ text task yes hp6 ho (by omega) (by omega) hnum hto htext htask)
            simp only [mkC, Cmd.enc]
            exact dropAny (by simp only [push_cast, seval, Int.ofNat_zero]) (by simp only [push_cast, seval, Int.ofNat_zero, hDS1]) (by simp only [push_cast, seval, hdr, Int.ofNat_zero]) (by simp only [push_cast, seval, Int.ofNat_zero]) (hgo _ _)
          · simp only [Try.ntmps136, Try.results136, push_cast, seval, setA_setA, hcs, hcl, hne, hr1, hu, hv, hDD, hneS, hneT, hDS1, hDS2, hDS3, hDS4, hDE1, hDE2, hDX1, hDX2, hnS, hnS1, hnS2, hgS, hgl, hnP, hnP1, hnP2, hgP, hnR, hnR1, hnR2, hgR, w0, hss, Int.toNat_zero, e0, e1, e2]
            refine hK _ ⟨tp 63 [(4, .x (.one (.pt (D, 256) [] 8 0 0)))], D, [((D, 256), ⟨.box, 8, [(mkC o tk q1 text task num to_ yes).enc]⟩)], setA s r (curOb c p5)⟩ _ ?_ rfl rfl (by simp only [Try.ntmps136, Try.results136, push_cast, seval, mkC, Cmd.enc] <;> rfl) (H1 p5 o tk q1 num to_ text task yes hp5 ho (by omega) (by omega) hnum hto htext htask)
            simp only [mkC, Cmd.enc]
            exact dropAny (by simp only [push_cast, seval, Int.ofNat_zero]) (by simp only [push_cast, seval, Int.ofNat_zero, hDS1]) (by simp only [push_cast, seval, hdr, Int.ofNat_zero]) (by simp only [push_cast, seval, Int.ofNat_zero]) (hgo _ _)
end Go.Proofs.Ythhgmnpodgmlkaa
namespace Go.Proofs.Ythhgmnpodgmlkaa
open Go.RowKit Go.Rx
set_option linter.unusedSimpArgs false
set_option maxRecDepth 100000
variable {Q : Ex → St → Prop} {k : List Fr} {l : List SOp} {σ : St} {dst : Option Tmp} {a a2 : Operand} {ats : Array TypeId} {ty : TypeId}
set_option maxHeartbeats 4000000 in
theorem l17Right_any (D : Nat) (r : Root) {c : List UInt8} {p : Nat × Int} (hc : c.length ≤ 1048576) (hp : p.1 ≤ c.length)
    (ha : xsV [ev σ a] = some [.one (.pt r [] 3 0 0)]) (hr : getA σ.o r = some (curOb c p)) (hd : σ.d ≤ D) (hD : belowS D σ.o = true) (hG : ∀ l' : Store, (σ.o.all fun e => refOkO D l' e.2) = true)
    (H1 : ∀ (p' : Nat × Int) (o tok seq num to_ : Nat) (text task : ByteArray) (yes : Bool), p'.1 ≤ c.length → o ≤ 9 → tok ≤ 1000 → seq ≤ 1000 → num ≤ 1000 → to_ ≤ 1000 → text.size ≤ 600 → task.size ≤ 600 →
      GoL Try.prog l k (exitSt σ.t σ.d dst ⟨[], D, [((D, 128), ⟨.box, 8, [(mkC o tok seq text task num to_ yes).enc]⟩)], setA σ.o r (curOb c p')⟩ [.agg (mkC o tok seq text task num to_ yes).enc]) Q) :
    GoL Try.prog (⟨dst, .call { callee := .value (.func 114), args := #[a], argTypes := ats }, ty, none⟩ :: l) k σ Q := by
  refine GoL_inl2 D Try.func114 rfl (by decide) mo (by decide +kernel) rfl ha hd hD fun K hK => ?_
  generalize σ.o = s at hr hD hG H1 hK
  have hgo : ∀ (l' : Store) (p' : Nat × Int), ((setA s r (curOb c p')).all fun e => refOkO D l' e.2) = true := fun l' p' => all_setA (fun _ => rfl) (hG l')
  have hgo1 : ∀ (l' : Store) (p' : Nat × Int), ((setA s r (curOb c p')).all fun e => refOkO (D + 1) l' e.2) = true := fun l' p' => all_mono (Nat.le_succ D) (hgo l' p')
  have hgo5 : ∀ (l' : Store) (p' : Nat × Int), ((setA s r (curOb c p')).all fun e => refOkO (D + 2) l' e.2) = true := fun l' p' => all_mono (by omega) (hgo l' p')
  have hgo2 := hgo
  simp only [refOkO] at hgo2
  have hgo3 := hgo1
  simp only [refOkO] at hgo3
  have hgo6 := hgo5
  simp only [refOkO] at hgo6
  have hr1 : ∀ ob, getA (setA s r ob) r = some ob := getA_here hr
  have hu : ∀ ob, upS D (setA s r ob) = [] := fun ob => upS_below (by rw [belowS_setA]; exact hD)
  have hv : ∀ ob, dnS D (setA s r ob) = setA s r ob := fun ob => dnS_below (by rw [belowS_setA]; exact hD)
  have hrD : r.1 < D := belowS_get hD r _ hr
  have hne : ∀ n, ((D, n) = r) = False := fun n => eq_false fun e => by rw [← e] at hrD; exact Nat.lt_irrefl _ hrD
  have hne2 : ∀ n, r ≠ (D, n) := fun n e => by rw [e] at hrD; exact Nat.lt_irrefl _ hrD
  have hneS : ∀ n, ((D + 1, n) = r) = False := fun n => eq_false fun e => by rw [← e] at hrD; simp only at hrD; omega
  have hneT : ∀ n, ((D + 2, n) = r) = False := fun n => eq_false fun e => by rw [← e] at hrD; simp only at hrD; omega
  have hnr : ∀ n, (r = (D, n)) = False := fun n => eq_false (hne2 n)
  have hdr : decide (r.1 < D) = true := decide_eq_true hrD
  have hdr1 : decide (r.1 < D + 1) = true := decide_eq_true (by omega)
  have hdr2 : decide (r.1 < D + 2) = true := decide_eq_true (by omega)
  have hDl : decide (D < D + 1) = true := decide_eq_true (Nat.lt_succ_self D)
  have hDl2 : decide (D < D + 2) = true := decide_eq_true (by omega)
  have hDl3 : decide (D + 1 < D + 2) = true := decide_eq_true (by omega)
  have hDS1 : (D + 1 = D) = False := eq_false (by omega)
  have hDS2 : (D = D + 1) = False := eq_false (by omega)
  have hDS3 : (D + 2 = D) = False := eq_false (by omega)
  have hDS4 : (D = D + 2) = False := eq_false (by omega)
  have hDX1 : (D + 1 < D) = False := eq_false (by omega)
  have hDX2 : (D + 2 < D) = False := eq_false (by omega)
  have hDE1 : (D ≤ D + 1) = True := eq_true (by omega)
  have hDE2 : (D ≤ D + 2) = True := eq_true (by omega)
  have hDD : (D < D) = False := eq_false (Nat.lt_irrefl D)
  have hD1 : ∀ ob, belowS (D + 1) (setA s r ob) = true := fun ob => by rw [belowS_setA]; exact belowS_mono (Nat.le_succ D) hD
  have hD2 : ∀ ob, belowS (D + 2) (setA s r ob) = true := fun ob => by rw [belowS_setA]; exact belowS_mono (by omega) hD
  have hs0 := setA_same hr
  rw [← hs0]
  clear hs0
  have hcs : ∀ p, (curOb c p).sz = 3 := fun _ => rfl
  have hcl : ∀ p, (curOb c p).rows.length = 1 := fun _ => rfl
  have kB := boardNew_ok
  unfold nilS at kB
  simp only [Try.ntmps114, Try.results114, push_cast, seval, setA_setA, hcs, hcl, hne, hr1, hu, hv, hDD, hneS, hneT, hDS1, hDS2, hDS3, hDS4, hDE1, hDE2, hDX1, hDX2]
  refine GoL_call rfl rfl kB rfl rfl ?_
  simp only [Try.ntmps114, Try.results114, push_cast, seval, setA_setA, hcs, hcl, hne, hr1, hu, hv, hDD, hneS, hneT, hDS1, hDS2, hDS3, hDS4, hDE1, hDE2, hDX1, hDX2]
  refine below_any (D + 1) r hc hp rfl (by simp only [push_cast, seval, setA_setA, hne, hr1, hneS, hDX1]) (by simp only; omega) (by simp only [push_cast, seval, setA_setA, hD1, hDl, hDX1]) fun p1 x1 hp1 hx1 _ => ?_
  obtain ⟨hx10, hx11⟩ := hx1 (by decide)
  obtain ⟨n1, rfl⟩ := Int.eq_ofNat_of_zero_le hx10
  obtain ⟨tk, htk⟩ : ∃ t, t = 1 + n1 := ⟨_, rfl⟩
  have wt : IntKind.i64.wrap (1 + (n1 : Int)) = (tk : Int) := by rw [show (1 : Int) + (n1 : Int) = (tk : Int) by omega]; exact w64 (by omega) (by omega)
  simp only [Try.ntmps114, Try.results114, push_cast, seval, setA_setA, hcs, hcl, hne, hr1, hu, hv, hDD, hneS, hneT, hDS1, hDS2, hDS3, hDS4, hDE1, hDE2, hDX1, hDX2, wt]
  refine below_any (D + 1) r hc hp1 rfl (by simp only [push_cast, seval, setA_setA, hne, hr1, hneS, hDX1]) (by simp only; omega) (by simp only [push_cast, seval, setA_setA, hD1, hDl, hDX1]) fun p2 x2 hp2 hx2 _ => ?_
  obtain ⟨hx20, hx21⟩ := hx2 (by decide)
  obtain ⟨la, rfl⟩ := Int.eq_ofNat_of_zero_le hx20
  simp only [Try.ntmps114, Try.results114, push_cast, seval, setA_setA, hcs, hcl, hne, hr1, hu, hv, hDD, hneS, hneT, hDS1, hDS2, hDS3, hDS4, hDE1, hDE2, hDX1, hDX2, flatRows, flatRow, hgo, hgo2, hnr, hdr]
  refine below_any (D + 1) r hc hp2 rfl (by simp only [push_cast, seval, setA_setA, hne, hr1, hneS, hDX1]) (by simp only; omega) (by simp only [push_cast, seval, setA_setA, hD1, hDl, hDX1]) fun p3 x3 hp3 hx3 _ => ?_
  obtain ⟨hx30, hx31⟩ := hx3 (by decide)
  obtain ⟨ck, rfl⟩ := Int.eq_ofNat_of_zero_le hx30
  simp only [Try.ntmps114, Try.results114, push_cast, seval, setA_setA, hcs, hcl, hne, hr1, hu, hv, hDD, hneS, hneT, hDS1, hDS2, hDS3, hDS4, hDE1, hDE2, hDX1, hDX2]
  refine once_any (D + 1) r hc hp3 rfl (by simp only [push_cast, seval, setA_setA, hne, hr1, hneS, hDX1]) (by simp only; omega) (by simp only [push_cast, seval, setA_setA, hD1, hDl, hDX1]) fun p4 b4 hp4 => ?_
  cases b4
  case false =>
    simp only [Try.ntmps114, Try.results114, push_cast, seval, setA_setA, hcs, hcl, hne, hr1, hu, hv, hDD, hneS, hneT, hDS1, hDS2, hDS3, hDS4, hDE1, hDE2, hDX1, hDX2]
    refine l16CmdA_any (D + 1) r (D, 768) ck tk la (by omega) (by omega) (by simp only [push_cast, seval, ssR]) (Nat.lt_succ_self D) hc hp4 (by simp only [push_cast, seval, nilS]; try rfl) (by simp only [push_cast, seval, setA_setA, hne, hr1]) (fun e => hne2 _ e.symm) (by simp only; omega) (by simp only [push_cast, seval, setA_setA, hD1, hDl]) (by simp only [push_cast, seval, hgo3, hDl]; try exact fun _ => trivial) fun p5 o tok seq num to_ text task yes hp5 ho htok hseq hnum hto htext htask => ?_
    have kO := commandOkS_ok (mkC o tok seq text task num to_ yes) ⟨by simp only [mkC]; omega, by simp only [mkC]; omega⟩
    obtain ⟨bo1, hbo⟩ : ∃ b, b = cokB (mkC o tok seq text task num to_ yes) := ⟨_, rfl⟩
    rw [← hbo] at kO
    simp only [mkC, Cmd.enc] at kO
    simp only [Try.ntmps114, Try.results114, push_cast, seval, setA_setA, hcs, hcl, hne, hr1, hu, hv, hDD, hneS, hneT, hDS1, hDS2, hDS3, hDS4, hDE1, hDE2, hDX1, hDX2, mkC, Cmd.enc]
    refine GoL_call rfl rfl kO rfl rfl ?_
    cases bo1
    · simp only [Try.ntmps114, Try.results114, push_cast, seval, setA_setA, hcs, hcl, hne, hr1, hu, hv, hDD, hneS, hneT, hDS1, hDS2, hDS3, hDS4, hDE1, hDE2, hDX1, hDX2]
      refine hK _ ⟨tp 32 [(2, .x (.one (.pt (D, 128) [] 8 0 0)))], D, [((D, 128), ⟨.box, 8, [(mkC 5 1 1 ⟨#[]⟩ ⟨#[]⟩ 0 0 false).enc]⟩)], setA s r (curOb c p5)⟩ _ ?_ rfl rfl (by simp only [Try.ntmps114, Try.results114, push_cast, seval, mkC, Cmd.enc] <;> rfl) (H1 p5 5 1 1 0 0 ⟨#[]⟩ ⟨#[]⟩ false hp5 (by decide) (by decide) (by decide) (by decide) (by decide) (by decide) (by decide))
      simp only [mkC, Cmd.enc]
      exact dropAny (by simp only [push_cast, seval, Int.ofNat_zero, Int.ofNat_one]) (by simp only [push_cast, seval, Int.ofNat_zero, Int.ofNat_one, hDS1]) (by simp only [push_cast, seval, hdr, Int.ofNat_zero, Int.ofNat_one]) (by simp only [push_cast, seval, Int.ofNat_zero, Int.ofNat_one]) (hgo _ _)
    · simp only [Try.ntmps114, Try.results114, push_cast, seval, setA_setA, hcs, hcl, hne, hr1, hu, hv, hDD, hneS, hneT, hDS1, hDS2, hDS3, hDS4, hDE1, hDE2, hDX1, hDX2]
      refine hK _ ⟨tp 32 [(2, .x (.one (.pt (D, 128) [] 8 0 0)))], D, [((D, 128), ⟨.box, 8, [(mkC o tok seq text task num to_ yes).enc]⟩)], setA s r (curOb c p5)⟩ _ ?_ rfl rfl (by simp only [Try.ntmps114, Try.results114, push_cast, seval, mkC, Cmd.enc] <;> rfl) (H1 p5 o tok seq num to_ text task yes hp5 ho htok hseq hnum hto htext htask)
      simp only [mkC, Cmd.enc]
      exact dropAny (by simp only [push_cast, seval, Int.ofNat_zero, Int.ofNat_one]) (by simp only [push_cast, seval, Int.ofNat_zero, Int.ofNat_one, hDS1]) (by simp only [push_cast, seval, hdr, Int.ofNat_zero, Int.ofNat_one]) (by simp only [push_cast, seval, Int.ofNat_zero, Int.ofNat_one]) (hgo _ _)
  case true =>
    simp only [Try.ntmps114, Try.results114, push_cast, seval, setA_setA, hcs, hcl, hne, hr1, hu, hv, hDD, hneS, hneT, hDS1, hDS2, hDS3, hDS4, hDE1, hDE2, hDX1, hDX2]
    have kS := submit_ok tk la ck
    unfold bdC ssR nilS at kS
    refine GoL_call rfl (by simp only [push_cast, seval]; try rfl) kS (by simp only [plRow, tkA, nilS]; rfl) (by simp only [push_cast, seval, freshR, newRoots]; try rfl) ?_
    simp only [Try.ntmps114, Try.results114, push_cast, seval, setA_setA, hcs, hcl, hne, hr1, hu, hv, hDD, hneS, hneT, hDS1, hDS2, hDS3, hDS4, hDE1, hDE2, hDX1, hDX2, hgo, hgo2, hnr, hdr]
    refine l16CmdB_any (D + 1) r (D, 1344) (D, 1345) (D, 1346) ck tk la (by omega) (by omega) (by omega) (by simp only [push_cast, seval, ssR]) (Nat.lt_succ_self D) (by simp only [push_cast, seval]) (Nat.lt_succ_self D) (by simp only [push_cast, seval]) (Nat.lt_succ_self D) hc hp4 (by simp only [push_cast, seval, nilS]; try rfl) (by simp only [push_cast, seval, setA_setA, hne, hr1]) (fun e => hne2 _ e.symm) (fun e => hne2 _ e.symm) (fun e => hne2 _ e.symm) (by simp only; omega) (by simp only [push_cast, seval, setA_setA, hD1, hDl]) (by simp only [push_cast, seval, hgo3, hDl]; try exact fun _ => trivial) fun p5 o tok seq num to_ text task yes hp5 ho htok hseq hnum hto htext htask => ?_
    have kO := commandOkS_ok (mkC o tok seq text task num to_ yes) ⟨by simp only [mkC]; omega, by simp only [mkC]; omega⟩
    obtain ⟨bo1, hbo⟩ : ∃ b, b = cokB (mkC o tok seq text task num to_ yes) := ⟨_, rfl⟩
    rw [← hbo] at kO
    simp only [mkC, Cmd.enc] at kO
    simp only [Try.ntmps114, Try.results114, push_cast, seval, setA_setA, hcs, hcl, hne, hr1, hu, hv, hDD, hneS, hneT, hDS1, hDS2, hDS3, hDS4, hDE1, hDE2, hDX1, hDX2, mkC, Cmd.enc]
    refine GoL_call rfl rfl kO rfl rfl ?_
    cases bo1
    · simp only [Try.ntmps114, Try.results114, push_cast, seval, setA_setA, hcs, hcl, hne, hr1, hu, hv, hDD, hneS, hneT, hDS1, hDS2, hDS3, hDS4, hDE1, hDE2, hDX1, hDX2]
      refine hK _ ⟨tp 32 [(2, .x (.one (.pt (D, 128) [] 8 0 0)))], D, [((D, 128), ⟨.box, 8, [(mkC 5 1 1 ⟨#[]⟩ ⟨#[]⟩ 0 0 false).enc]⟩)], setA s r (curOb c p5)⟩ _ ?_ rfl rfl (by simp only [Try.ntmps114, Try.results114, push_cast, seval, mkC, Cmd.enc] <;> rfl) (H1 p5 5 1 1 0 0 ⟨#[]⟩ ⟨#[]⟩ false hp5 (by decide) (by decide) (by decide) (by decide) (by decide) (by decide) (by decide))
      simp only [mkC, Cmd.enc]
      exact dropAny (by simp only [push_cast, seval, Int.ofNat_zero, Int.ofNat_one]) (by simp only [push_cast, seval, Int.ofNat_zero, Int.ofNat_one, hDS1]) (by simp only [push_cast, seval, hdr, Int.ofNat_zero, Int.ofNat_one]) (by simp only [push_cast, seval, Int.ofNat_zero, Int.ofNat_one]) (hgo _ _)
    · simp only [Try.ntmps114, Try.results114, push_cast, seval, setA_setA, hcs, hcl, hne, hr1, hu, hv, hDD, hneS, hneT, hDS1, hDS2, hDS3, hDS4, hDE1, hDE2, hDX1, hDX2]
      refine hK _ ⟨tp 32 [(2, .x (.one (.pt (D, 128) [] 8 0 0)))], D, [((D, 128), ⟨.box, 8, [(mkC o tok seq text task num to_ yes).enc]⟩)], setA s r (curOb c p5)⟩ _ ?_ rfl rfl (by simp only [Try.ntmps114, Try.results114, push_cast, seval, mkC, Cmd.enc] <;> rfl) (H1 p5 o tok seq num to_ text task yes hp5 ho htok hseq hnum hto htext htask)
      simp only [mkC, Cmd.enc]
      exact dropAny (by simp only [push_cast, seval, Int.ofNat_zero, Int.ofNat_one]) (by simp only [push_cast, seval, Int.ofNat_zero, Int.ofNat_one, hDS1]) (by simp only [push_cast, seval, hdr, Int.ofNat_zero, Int.ofNat_one]) (by simp only [push_cast, seval, Int.ofNat_zero, Int.ofNat_one]) (hgo _ _)
end Go.Proofs.Ythhgmnpodgmlkaa
namespace Go.Proofs.Ythhgmnpodgmlkaa
open Go.RowKit Go.Rx
set_option linter.unusedSimpArgs false
set_option maxRecDepth 100000
variable {Q : Ex → St → Prop} {k : List Fr} {l : List SOp} {σ : St} {dst : Option Tmp} {a a2 : Operand} {ats : Array TypeId} {ty : TypeId}
set_option maxHeartbeats 4000000 in
theorem l05Conf_any (D : Nat) (r : Root) {c : List UInt8} {p : Nat × Int} (hc : c.length ≤ 1048576) (hp : p.1 ≤ c.length)
    (ha : xsV [ev σ a] = some [.one (.pt r [] 3 0 0)]) (hr : getA σ.o r = some (curOb c p)) (hd : σ.d ≤ D) (hD : belowS D σ.o = true) (hG : ∀ l' : Store, (σ.o.all fun e => refOkO D l' e.2) = true)
    (H1 : ∀ (p' : Nat × Int) (L : List Int) (m : Nat), p'.1 ≤ c.length → 0 < L.length → L.length ≤ 4 → GoL Try.prog l k (exitSt σ.t σ.d dst ⟨[], D, [((D, m), ⟨.sl, 1, vR (ints L)⟩)], setA σ.o r (curOb c p')⟩ [.one (.rs (D, m) [] 1 0 L.length)]) Q) :
    GoL Try.prog (⟨dst, .call { callee := .value (.func 86), args := #[a], argTypes := ats }, ty, none⟩ :: l) k σ Q := by
  refine GoL_inl2 D Try.func86 rfl (by decide) mo (by decide +kernel) rfl ha hd hD fun K hK => ?_
  generalize σ.o = s at hr hD hG H1 hK
  have hgo : ∀ (l' : Store) (p' : Nat × Int), ((setA s r (curOb c p')).all fun e => refOkO D l' e.2) = true := fun l' p' => all_setA (fun _ => rfl) (hG l')
  have hgo1 : ∀ (l' : Store) (p' : Nat × Int), ((setA s r (curOb c p')).all fun e => refOkO (D + 1) l' e.2) = true := fun l' p' => all_mono (Nat.le_succ D) (hgo l' p')
  have hgo5 : ∀ (l' : Store) (p' : Nat × Int), ((setA s r (curOb c p')).all fun e => refOkO (D + 2) l' e.2) = true := fun l' p' => all_mono (by omega) (hgo l' p')
  have hgo2 := hgo
  simp only [refOkO] at hgo2
  have hgo3 := hgo1
  simp only [refOkO] at hgo3
  have hgo6 := hgo5
  simp only [refOkO] at hgo6
  have hr1 : ∀ ob, getA (setA s r ob) r = some ob := getA_here hr
  have hu : ∀ ob, upS D (setA s r ob) = [] := fun ob => upS_below (by rw [belowS_setA]; exact hD)
  have hv : ∀ ob, dnS D (setA s r ob) = setA s r ob := fun ob => dnS_below (by rw [belowS_setA]; exact hD)
  have hrD : r.1 < D := belowS_get hD r _ hr
  have hne : ∀ n, ((D, n) = r) = False := fun n => eq_false fun e => by rw [← e] at hrD; exact Nat.lt_irrefl _ hrD
  have hne2 : ∀ n, r ≠ (D, n) := fun n e => by rw [e] at hrD; exact Nat.lt_irrefl _ hrD
  have hneS : ∀ n, ((D + 1, n) = r) = False := fun n => eq_false fun e => by rw [← e] at hrD; simp only at hrD; omega
  have hneT : ∀ n, ((D + 2, n) = r) = False := fun n => eq_false fun e => by rw [← e] at hrD; simp only at hrD; omega
  have hnr : ∀ n, (r = (D, n)) = False := fun n => eq_false (hne2 n)
  have hdr : decide (r.1 < D) = true := decide_eq_true hrD
  have hdr1 : decide (r.1 < D + 1) = true := decide_eq_true (by omega)
  have hdr2 : decide (r.1 < D + 2) = true := decide_eq_true (by omega)
  have hDl : decide (D < D + 1) = true := decide_eq_true (Nat.lt_succ_self D)
  have hDl2 : decide (D < D + 2) = true := decide_eq_true (by omega)
  have hDl3 : decide (D + 1 < D + 2) = true := decide_eq_true (by omega)
  have hDS1 : (D + 1 = D) = False := eq_false (by omega)
  have hDS2 : (D = D + 1) = False := eq_false (by omega)
  have hDS3 : (D + 2 = D) = False := eq_false (by omega)
  have hDS4 : (D = D + 2) = False := eq_false (by omega)
  have hDX1 : (D + 1 < D) = False := eq_false (by omega)
  have hDX2 : (D + 2 < D) = False := eq_false (by omega)
  have hDE1 : (D ≤ D + 1) = True := eq_true (by omega)
  have hDE2 : (D ≤ D + 2) = True := eq_true (by omega)
  have hDD : (D < D) = False := eq_false (Nat.lt_irrefl D)
  have hD1 : ∀ ob, belowS (D + 1) (setA s r ob) = true := fun ob => by rw [belowS_setA]; exact belowS_mono (Nat.le_succ D) hD
  have hD2 : ∀ ob, belowS (D + 2) (setA s r ob) = true := fun ob => by rw [belowS_setA]; exact belowS_mono (by omega) hD
  have hs0 := setA_same hr
  rw [← hs0]
  clear hs0
  have hcs : ∀ p, (curOb c p).sz = 3 := fun _ => rfl
  have hcl : ∀ p, (curOb c p).rows.length = 1 := fun _ => rfl
  simp only [Try.ntmps86, Try.results86, push_cast, seval, setA_setA, hcs, hcl, hne, hr1, hu, hv, hDD, hneS, hneT, hDS1, hDS2, hDS3, hDS4, hDE1, hDE2, hDX1, hDX2]
  refine Go_loop (α := {q : (Nat × Int) × List Int × Nat × Nat // q.1.1 ≤ c.length ∧ q.2.1.length ≤ q.2.2.2 ∧ q.2.2.2 ≤ 4 ∧ (q.2.2.1 = 320 ∨ q.2.2.1 = 960)})
    (fun q => ⟨tp 23 [(0, .x (.one (.pt r [] 3 0 0))), (3, .x (.one (.rs (D, q.1.2.2.1) [] 1 0 q.1.2.1.length))), (4, .x (i64 ((q.1.2.2.2 : Int) + 1)))], D, [((D, q.1.2.2.1), ⟨.sl, 1, vR (ints q.1.2.1)⟩)], setA s r (curOb c q.1.1)⟩)
    (fun q => 4 - q.1.2.2.2) ⟨(p, [], 320, 0), hp, Nat.le_refl _, by simp only; omega, .inl rfl⟩ ?_ ?_
  · have hv0 : vR (ints []) = [] := rfl
    simp only [hv0, List.length_nil]
    exact dropAny (by simp only [push_cast, seval, Int.ofNat_zero, Int.zero_add]) (by simp only [push_cast, seval]) (by simp only [push_cast, seval, hdr]) (by simp only [push_cast, seval]) (hgo _ _)
  · rintro ⟨⟨pc, L, m, j⟩, hpc, hL, hj, hmm⟩ X hX
    simp only at hpc hL hj hmm ⊢
    have hm8 : (m = 896) = False := eq_false (by omega)
    have hm9 : (m = 1280) = False := eq_false (by omega)
    have hm6 : (896 = m) = False := eq_false (by omega)
    have hm7 : (1280 = m) = False := eq_false (by omega)
    have hm5 : (m = 1344) = False := eq_false (by omega)
    have hil := ints_length L
    have hm0 : ((D, m) = r) = False := hne m
    have hm1 : (r = (D, m)) = False := hnr m
    by_cases hlt : (j : Int) + 1 ≤ 4
    · obtain ⟨j', hj1⟩ : ∃ j', j' = j + 1 := ⟨_, rfl⟩
      have ws : IntKind.i64.wrap ((j : Int) + 1 + 1) = (j' : Int) + 1 := by rw [show (j : Int) + 1 + 1 = (j' : Int) + 1 by omega]; exact w64 (by omega) (by omega)
      simp only [Try.ntmps86, Try.results86, push_cast, seval, hlt]
      refine once_any (D + 1) r hc hpc rfl (by simp only [push_cast, seval, setA_setA, hne, hr1, hneS, hDX1]) (by simp only; omega) (by simp only [push_cast, seval, setA_setA, hD1, hDl, hDX1]) fun p2 b2 hp2 => ?_
      cases b2
      · simp only [Try.ntmps86, Try.results86, push_cast, seval, setA_setA, hcs, hcl, hne, hr1, hu, hv, hDD, hneS, hneT, hDS1, hDS2, hDS3, hDS4, hDE1, hDE2, hDX1, hDX2, ws, hil]
        refine ⟨_, ?_, hX ⟨(p2, L, m, j'), hp2, by simp only; omega, by simp only; omega, hmm⟩ (by simp only; omega)⟩
        exact dropAny (by simp only [push_cast, seval]) (by simp only [push_cast, seval]) (by simp only [push_cast, seval, hdr]) (by simp only [push_cast, seval]) (hgo _ _)
      · have a0 : L.length + 1 ≤ 4294967296 := by omega
        have a1 := max_len a0
        have a2 := room_le (b := 8) a0 (by decide)
        have hsn := ints_snoc L ((j : Int) + 1)
        simp only [Try.ntmps86, Try.results86, push_cast, seval, setA_setA, hcs, hcl, hne, hr1, hu, hv, hDD, hneS, hneT, hDS1, hDS2, hDS3, hDS4, hDE1, hDE2, hDX1, hDX2, ws, hil, a1, a2, hsn, flatRows, flatRow, hgo, hgo2, hnr, hdr, hm0, hm1, hm8, hm9, hm6, hm7, hm5]
        refine ⟨_, ?_, hX ⟨(p2, L ++ [(j : Int) + 1], 960, j'), hp2, by simp only [List.length_append, List.length_singleton]; omega, by simp only; omega, .inr rfl⟩ (by simp only; omega)⟩
        simp only [List.length_append, List.length_singleton]
        exact dropAny (by simp only [push_cast, seval]) (by simp only [push_cast, seval]) (by simp only [push_cast, seval, hdr]) (by simp only [push_cast, seval]) (hgo _ _)
    · cases L with
      | nil =>
        have hv0 : vR (ints []) = [] := rfl
        have hi0 : (ints []).length = 0 := rfl
        simp only [Try.ntmps86, Try.results86, push_cast, seval, setA_setA, hcs, hcl, hne, hr1, hu, hv, hDD, hneS, hneT, hDS1, hDS2, hDS3, hDS4, hDE1, hDE2, hDX1, hDX2, hlt, hv0, hi0, List.length_nil, flatRows, flatRow, hgo, hgo2, hnr, hdr, hm0, hm1, hm8, hm9, hm6, hm7, hm5]
        refine hK _ ⟨tp 23 [(2, .x (.one (.rs (D, 1344) [] 1 0 1)))], D, [((D, 1344), ⟨.sl, 1, vR (ints [1])⟩)], setA s r (curOb c pc)⟩ _ ?_ rfl rfl (by simp only [Try.ntmps86, Try.results86, push_cast, seval] <;> rfl) (H1 pc [1] 1344 hpc (by decide) (by decide))
        rw [show vR (ints [1]) = [[C.v (.int .i64 1)]] from rfl]
        exact dropAny (by simp only [push_cast, seval]) (by simp only [push_cast, seval]) (by simp only [push_cast, seval, hdr]) (by simp only [push_cast, seval]) (hgo _ _)
      | cons x L =>
        have hl0 : ¬ ((L.length : Int) + 1 = 0) := by omega
        have hl1 : (ints (x :: L)).length = L.length + 1 := ints_length (x :: L)
        simp only [Try.ntmps86, Try.results86, push_cast, seval, setA_setA, hcs, hcl, hne, hr1, hu, hv, hDD, hneS, hneT, hDS1, hDS2, hDS3, hDS4, hDE1, hDE2, hDX1, hDX2, hlt, hl0, hl1, List.length_cons, hgo, hgo2, hnr, hdr, hm0, hm1, hm8, hm9, hm6, hm7, hm5]
        have hq := H1 pc (x :: L) m hpc (by simp) (by omega)
        simp only [List.length_cons] at hq
        refine hK _ ⟨tp 23 [(2, .x (.one (.rs (D, m) [] 1 0 (L.length + 1))))], D, [((D, m), ⟨.sl, 1, vR (ints (x :: L))⟩)], setA s r (curOb c pc)⟩ _ ?_ rfl rfl (by simp only [Try.ntmps86, Try.results86, push_cast, seval] <;> rfl) hq
        exact dropAny (by simp only [push_cast, seval]) (by simp only [push_cast, seval]) (by simp only [push_cast, seval, hdr]) (by simp only [push_cast, seval]) (hgo _ _)
end Go.Proofs.Ythhgmnpodgmlkaa
namespace Go.Proofs.Ythhgmnpodgmlkaa
open Go.RowKit Go.Rx
set_option linter.unusedSimpArgs false
set_option maxRecDepth 100000
def oct8 (n : Int) : UInt8 := UInt8.ofNat (n % 256).toNat
theorem oct8_wrap (n : Int) : IntKind.u8.wrap n = ((oct8 n).toNat : Int) := by
  rw [IntKind.wrap_u8]; unfold oct8; simp; omega
def octB (l : List Int) : ByteArray := ⟨(l.map oct8).toArray⟩
theorem octB_list (l : List Int) : (octB l).data.toList = l.map oct8 := by simp [octB]
theorem octB_size (l : List Int) : (octB l).size = l.length := by simp [octB, ByteArray.size]
theorem oct_take (l : List Int) {i : Nat} (h : i < l.length) : (l.map oct8).take (i + 1) = (l.map oct8).take i ++ [oct8 (at_ l i)] := by
  rw [List.take_add_one, List.getElem?_map, List.getElem?_eq_getElem h]
  simp [at_, List.getD_eq_getElem?_getD, List.getElem?_eq_getElem h]
theorem octets_ok (l : List Int) (hl : l.length ≤ 1000000) : PureFn Try.prog 40 [.one (.sh 1 (vR (ints l)))] [st (octB l)] := by
  refine PureFn_of_Go Try.func40 rfl (by decide) mo (by decide +kernel) ?_
  obtain ⟨F, hF⟩ : ∃ F, F = l.map oct8 := ⟨_, rfl⟩
  have hFl : F.length = l.length := by rw [hF, List.length_map]
  have hfin : (⟨F.toArray⟩ : ByteArray) = octB l := by rw [hF]; rfl
  simp only [Try.ntmps40, Try.results40, push_cast, seval, ints_length]
  refine Go_loop (α := {i : Nat // i ≤ l.length})
    (fun i => ⟨tp 20 [(0, .x (.one (.sh 1 (vR (ints l))))), (3, .x (.one (.rs (0, 1024) [] 1 0 i.1))), (6, .x (.one (.sh 1 (vR (ints l))))), (7, int l.length), (8, int i.1)], 0, [((0, 1024), ⟨.sl, 1, byR (F.take i.1)⟩)], []⟩) (fun i => l.length - i.1) ⟨0, by omega⟩ ?_ ?_
  · refine Weak.trans (Weak.nilRoot (0, 1024) 1 3 rfl rfl rfl) ?_
    simp only [push_cast, seval, List.take_zero, byR_nil]
    exact Weak.same (by simp only [push_cast, seval, Int.ofNat_zero])
  · rintro ⟨i, hi⟩ X hX
    have hll : (byR (F.take i)).length = i := by rw [byR_length, List.length_take, hFl]; omega
    by_cases hlt : (i : Int) < (l.length : Int)
    · have hi' : i < l.length := by omega
      have ws := wsucc hi' (by omega)
      have hg := ints_getD l hi'
      rw [show l.getD i default = at_ l i from rfl] at hg
      have hw := oct8_wrap (at_ l i)
      have a0 : i + 1 ≤ 4294967296 := by omega
      have a1 := max_len a0
      have a2 := room_le (b := 1) a0 (by decide)
      have s1 := byR_snoc (F.take i) (oct8 (at_ l i))
      have e1 : F.take i ++ [oct8 (at_ l i)] = F.take (i + 1) := by rw [hF, oct_take l hi']
      rw [e1] at s1
      obtain ⟨y, hy⟩ : ∃ y, y = oct8 (at_ l i) := ⟨_, rfl⟩
      rw [← hy] at hw s1
      obtain ⟨x, hx⟩ : ∃ x, x = at_ l i := ⟨_, rfl⟩
      rw [← hx] at hg hw
      obtain ⟨i', hi1⟩ : ∃ i', i' = i + 1 := ⟨_, rfl⟩
      rw [← hi1] at ws s1
      simp only [push_cast, seval, ints_length, hlt, hi', vR_getD, hg, hw, hll, a1, a2, s1, ws]
      refine ⟨_, ?_, hX ⟨i', by omega⟩ (by simp only; omega)⟩
      exact Weak.drop (by simp only [push_cast, seval, hi1]) (by simp only [push_cast, seval, hi1]) (by simp only [push_cast, seval, hi1])
    · have hie : i = l.length := by omega
      have hft : F.take i = F := List.take_of_length_le (by rw [hFl, hie]; exact Nat.le_refl _)
      rw [hft] at hll
      have ht := byR_take F
      rw [byR_length] at hll
      rw [hll] at ht
      simp only [hft]
      simp only [Try.ntmps40, Try.results40, push_cast, seval, hlt, hll, ht, byR_length, hfin]
theorem entryTextI_ok (index term kind : Nat) (hi : index ≤ 1000000000) (ht : term ≤ 1000000000) (data : ByteArray) (hd : data.size ≤ 140737488355328) : PureFn Try.prog 32 [i64 index, .agg (entC term kind data)] [st (etB index term kind data)] := by
  refine PureFn_of_Go Try.func32 rfl (by decide) mo (by decide +kernel) ?_
  have h1 := varB_size index
  have h2 := varB_size term
  have r1 : (⟨#[69]⟩ : ByteArray).size + (varB index).size ≤ 9223372036854775807 := by have e1 : (⟨#[69]⟩ : ByteArray).size = 1 := rfl; omega
  have r2 : (⟨#[69]⟩ ++ varB index).size + (varB term).size ≤ 9223372036854775807 := by have e1 : (⟨#[69]⟩ : ByteArray).size = 1 := rfl; rw [ByteArray.size_append]; omega
  have hk : PureFn Try.prog 40 [.one (.sh 1 [[.v (.int .i64 (kind : Int))]])] [st (octB [(kind : Int)])] := octets_ok [(kind : Int)] (by simp)
  have e2 : (octB [(kind : Int)]).size = 1 := octB_size _
  have hoct : octB [(kind : Int)] = ⟨[UInt8.ofNat kind].toArray⟩ := by
    unfold octB oct8
    have : UInt8.ofNat (((kind : Int) % 256).toNat) = UInt8.ofNat kind := by
      apply UInt8.toNat_inj.1
      simp
      omega
    simp [this]
  have r3 : ((⟨#[69]⟩ ++ varB index) ++ varB term).size + (octB [(kind : Int)]).size ≤ 9223372036854775807 := by have e1 : (⟨#[69]⟩ : ByteArray).size = 1 := rfl; rw [ByteArray.size_append, ByteArray.size_append]; omega
  have r4 : (((⟨#[69]⟩ ++ varB index) ++ varB term) ++ octB [(kind : Int)]).size + data.size ≤ 9223372036854775807 := by have e1 : (⟨#[69]⟩ : ByteArray).size = 1 := rfl; rw [ByteArray.size_append, ByteArray.size_append, ByteArray.size_append]; omega
  unfold etB
  rw [← hoct]
  generalize hq : octB [(kind : Int)] = q at *
  simp only [Try.ntmps32, Try.results32, push_cast, seval, entC]
  refine GoD_call rfl rfl (varText_ok index (by omega)) rfl rfl ?_
  simp only [Try.ntmps32, Try.results32, push_cast, seval, r1]
  refine GoD_call rfl rfl (varText_ok term (by omega)) rfl rfl ?_
  simp only [Try.ntmps32, Try.results32, push_cast, seval, r1, r2]
  refine GoD_call rfl rfl hk rfl rfl ?_
  simp only [Try.ntmps32, Try.results32, push_cast, seval, r1, r2, r3, r4]
end Go.Proofs.Ythhgmnpodgmlkaa
namespace Go.Proofs.Ythhgmnpodgmlkaa
open Go.RowKit Go.Rx
set_option linter.unusedSimpArgs false
set_option maxRecDepth 100000
def ctX (l : List Int) : List X := if confB l then [st (octB l), bo true] else [st ⟨#[]⟩, bo false]
theorem confB_len {l : List Int} (h : confB l = true) : l.length ≤ 4 := by
  simp only [confB, Bool.and_eq_true, decide_eq_true_eq] at h; exact rise_len h.2
theorem confTextS_ok (l : List Int) (hl : l.length ≤ 140737488355328) : PureFn Try.prog 112 [.one (.sh 1 (vR (ints l)))] (ctX l) := by
  refine PureFn_of_Go Try.func112 rfl (by decide) mo (by decide +kernel) ?_
  have kc := confOkS_ok l hl
  unfold ctX
  cases c : confB l with
  | false =>
    rw [c] at kc
    simp only [Try.ntmps112, Try.results112, push_cast, seval]
    refine GoL_call rfl rfl kc rfl rfl ?_
    simp only [Try.ntmps112, Try.results112, push_cast, seval, Bool.false_eq_true]
  | true =>
  rw [c] at kc
  have hl4 := confB_len c
  simp only [Try.ntmps112, Try.results112, push_cast, seval]
  refine GoL_call rfl rfl kc rfl rfl ?_
  obtain ⟨F, hF⟩ : ∃ F, F = l.map oct8 := ⟨_, rfl⟩
  have hFl : F.length = l.length := by rw [hF, List.length_map]
  have hfin : (⟨F.toArray⟩ : ByteArray) = octB l := by rw [hF]; rfl
  simp only [Try.ntmps112, Try.results112, push_cast, seval, ints_length]
  refine Go_loop (α := {i : Nat // i ≤ l.length})
    (fun i => ⟨tp 26 [(0, .x (.one (.sh 1 (vR (ints l))))), (4, .x (.one (.rs (0, 1472) [] 1 0 i.1))), (5, int i.1)], 0, [((0, 1472), ⟨.sl, 1, byR (F.take i.1)⟩)], []⟩) (fun i => l.length - i.1) ⟨0, by omega⟩ ?_ ?_
  · refine Weak.trans (Weak.rename (0, 576) (0, 1472) rfl rfl (by decide) rfl) ?_
    simp only [push_cast, seval, List.take_zero, byR_nil]
    exact Weak.same (by simp only [push_cast, seval, Int.ofNat_zero, byR_nil])
  · rintro ⟨i, hi⟩ X hX
    have hll : (byR (F.take i)).length = i := by rw [byR_length, List.length_take, hFl]; omega
    by_cases hlt : (i : Int) < (l.length : Int)
    · have hi' : i < l.length := by omega
      have ws := wsucc hi' (by omega)
      have hg := ints_getD l hi'
      rw [show l.getD i default = at_ l i from rfl] at hg
      have hw := oct8_wrap (at_ l i)
      have a0 : i + 1 ≤ 4294967296 := by omega
      have a1 := max_len a0
      have a2 := room_le (b := 1) a0 (by decide)
      have s1 := byR_snoc (F.take i) (oct8 (at_ l i))
      have e1 : F.take i ++ [oct8 (at_ l i)] = F.take (i + 1) := by rw [hF, oct_take l hi']
      rw [e1] at s1
      obtain ⟨y, hy⟩ : ∃ y, y = oct8 (at_ l i) := ⟨_, rfl⟩
      rw [← hy] at hw s1
      obtain ⟨x, hx⟩ : ∃ x, x = at_ l i := ⟨_, rfl⟩
      rw [← hx] at hg hw
      obtain ⟨i', hi1⟩ : ∃ i', i' = i + 1 := ⟨_, rfl⟩
      rw [← hi1] at ws s1
      simp only [push_cast, seval, ints_length, hlt, hi', vR_getD, hg, hw, hll, a1, a2, s1, ws]
      refine ⟨_, ?_, hX ⟨i', by omega⟩ (by simp only; omega)⟩
      exact Weak.drop (by simp only [push_cast, seval, hi1]) (by simp only [push_cast, seval, hi1]) (by simp only [push_cast, seval, hi1])
    · have hie : i = l.length := by omega
      have hft : F.take i = F := List.take_of_length_le (by rw [hFl, hie]; exact Nat.le_refl _)
      rw [hft] at hll
      have ht := byR_take F
      rw [byR_length] at hll
      rw [hll] at ht
      simp only [hft]
      simp only [Try.ntmps112, Try.results112, push_cast, seval, ints_length, hlt, hll, ht, byR_length, hfin]
end Go.Proofs.Ythhgmnpodgmlkaa
namespace Go.Proofs.Ythhgmnpodgmlkaa
open Go.RowKit Go.Rx
set_option linter.unusedSimpArgs false
set_option maxRecDepth 100000
variable {Q : Ex → St → Prop} {k : List Fr} {l : List SOp} {σ : St} {dst : Option Tmp} {a a2 : Operand} {ats : Array TypeId} {ty : TypeId}
set_option maxHeartbeats 4000000 in
theorem l05AnyConf_any (D : Nat) (r : Root) {c : List UInt8} {p : Nat × Int} (hc : c.length ≤ 1048576) (hp : p.1 ≤ c.length)
    (ha : xsV [ev σ a] = some [.one (.pt r [] 3 0 0)]) (hr : getA σ.o r = some (curOb c p)) (hd : σ.d ≤ D) (hD : belowS D σ.o = true) (hG : ∀ l' : Store, (σ.o.all fun e => refOkO D l' e.2) = true)
    (H1 : ∀ (p' : Nat × Int) (L : List Int) (q : Root), p'.1 ≤ c.length → D ≤ q.1 → q.1 ≤ D + 1 → L.length ≤ 5 → GoL Try.prog l k (exitSt σ.t σ.d dst ⟨[], D, [(q, ⟨.sl, 1, vR (ints L)⟩)], setA σ.o r (curOb c p')⟩ [.one (.rs q [] 1 0 L.length)]) Q) :
    GoL Try.prog (⟨dst, .call { callee := .value (.func 39), args := #[a], argTypes := ats }, ty, none⟩ :: l) k σ Q := by
  refine GoL_inl2 D Try.func39 rfl (by decide) mo (by decide +kernel) rfl ha hd hD fun K hK => ?_
  generalize σ.o = s at hr hD hG H1 hK
  have hgo : ∀ (l' : Store) (p' : Nat × Int), ((setA s r (curOb c p')).all fun e => refOkO D l' e.2) = true := fun l' p' => all_setA (fun _ => rfl) (hG l')
  have hgo1 : ∀ (l' : Store) (p' : Nat × Int), ((setA s r (curOb c p')).all fun e => refOkO (D + 1) l' e.2) = true := fun l' p' => all_mono (Nat.le_succ D) (hgo l' p')
  have hgo5 : ∀ (l' : Store) (p' : Nat × Int), ((setA s r (curOb c p')).all fun e => refOkO (D + 2) l' e.2) = true := fun l' p' => all_mono (by omega) (hgo l' p')
  have hgo2 := hgo
  simp only [refOkO] at hgo2
  have hgo3 := hgo1
  simp only [refOkO] at hgo3
  have hgo6 := hgo5
  simp only [refOkO] at hgo6
  have hr1 : ∀ ob, getA (setA s r ob) r = some ob := getA_here hr
  have hu : ∀ ob, upS D (setA s r ob) = [] := fun ob => upS_below (by rw [belowS_setA]; exact hD)
  have hv : ∀ ob, dnS D (setA s r ob) = setA s r ob := fun ob => dnS_below (by rw [belowS_setA]; exact hD)
  have hrD : r.1 < D := belowS_get hD r _ hr
  have hne : ∀ n, ((D, n) = r) = False := fun n => eq_false fun e => by rw [← e] at hrD; exact Nat.lt_irrefl _ hrD
  have hne2 : ∀ n, r ≠ (D, n) := fun n e => by rw [e] at hrD; exact Nat.lt_irrefl _ hrD
  have hneS : ∀ n, ((D + 1, n) = r) = False := fun n => eq_false fun e => by rw [← e] at hrD; simp only at hrD; omega
  have hneT : ∀ n, ((D + 2, n) = r) = False := fun n => eq_false fun e => by rw [← e] at hrD; simp only at hrD; omega
  have hnr : ∀ n, (r = (D, n)) = False := fun n => eq_false (hne2 n)
  have hdr : decide (r.1 < D) = true := decide_eq_true hrD
  have hdr1 : decide (r.1 < D + 1) = true := decide_eq_true (by omega)
  have hdr2 : decide (r.1 < D + 2) = true := decide_eq_true (by omega)
  have hDl : decide (D < D + 1) = true := decide_eq_true (Nat.lt_succ_self D)
  have hDl2 : decide (D < D + 2) = true := decide_eq_true (by omega)
  have hDl3 : decide (D + 1 < D + 2) = true := decide_eq_true (by omega)
  have hDS1 : (D + 1 = D) = False := eq_false (by omega)
  have hDS2 : (D = D + 1) = False := eq_false (by omega)
  have hDS3 : (D + 2 = D) = False := eq_false (by omega)
  have hDS4 : (D = D + 2) = False := eq_false (by omega)
  have hDX1 : (D + 1 < D) = False := eq_false (by omega)
  have hDX2 : (D + 2 < D) = False := eq_false (by omega)
  have hDE1 : (D ≤ D + 1) = True := eq_true (by omega)
  have hDE2 : (D ≤ D + 2) = True := eq_true (by omega)
  have hDD : (D < D) = False := eq_false (Nat.lt_irrefl D)
  have hD1 : ∀ ob, belowS (D + 1) (setA s r ob) = true := fun ob => by rw [belowS_setA]; exact belowS_mono (Nat.le_succ D) hD
  have hD2 : ∀ ob, belowS (D + 2) (setA s r ob) = true := fun ob => by rw [belowS_setA]; exact belowS_mono (by omega) hD
  have hs0 := setA_same hr
  rw [← hs0]
  clear hs0
  have hcs : ∀ p, (curOb c p).sz = 3 := fun _ => rfl
  have hcl : ∀ p, (curOb c p).rows.length = 1 := fun _ => rfl
  simp only [Try.ntmps39, Try.results39, push_cast, seval, setA_setA, hcs, hcl, hne, hr1, hu, hv, hDD, hneS, hneT, hDS1, hDS2, hDS3, hDS4, hDE1, hDE2, hDX1, hDX2]
  refine l05Conf_any (D + 1) r hc hp rfl (by simp only [push_cast, seval, setA_setA, hne, hr1]) (by simp only; omega) (by simp only [push_cast, seval, setA_setA, hD1, hDl]) (by simp only [push_cast, seval, hgo3]; try exact fun _ => trivial) fun p1 L m hp1 hL0 hL4 => ?_
  have hil := ints_length L
  simp only [Try.ntmps39, Try.results39, push_cast, seval, setA_setA, hcs, hcl, hne, hr1, hu, hv, hDD, hneS, hneT, hDS1, hDS2, hDS3, hDS4, hDE1, hDE2, hDX1, hDX2, hil]
  refine below_any (D + 2) r hc hp1 rfl (by simp only [push_cast, seval, setA_setA, hne, hr1, hneS, hDX1]) (by simp only; omega) (by simp only [push_cast, seval, setA_setA, hD2, hDl2, hDl3, hDX1]) fun p2 x hp2 hx _ => ?_
  by_cases e0 : x = 0
  · subst e0
    simp only [Try.ntmps39, Try.results39, push_cast, seval, setA_setA, hcs, hcl, hne, hr1, hu, hv, hDD, hneS, hneT, hDS1, hDS2, hDS3, hDS4, hDE1, hDE2, hDX1, hDX2, hil]
    refine pickInt_any (D + 2) r (D, 768) [0, 4, 5, 1] hc hp2 (by decide) (by decide) (hne2 _) rfl (by simp only [push_cast, seval, setA_setA, hne, hneS, hr1, hDX1]) (by simp only [push_cast, seval, hDS1]; try rfl) (by simp only; omega) (by simp only [push_cast, seval, setA_setA, hD2, hDl2, hDl3, hDX1]) fun p3 y hp3 hy => ?_
    have a0 : L.length + 1 ≤ 4294967296 := by omega
    have a1 := max_len a0
    have a2 := room_le (b := 8) a0 (by decide)
    have hsn := ints_snoc L y
    have hnrS : ∀ n, (r = (D + 1, n)) = False := fun n => eq_false fun e => by rw [e] at hrD; simp only at hrD; omega
    simp only [Try.ntmps39, Try.results39, push_cast, seval, setA_setA, hcs, hcl, hne, hr1, hu, hv, hDD, hneS, hneT, hDS1, hDS2, hDS3, hDS4, hDE1, hDE2, hDX1, hDX2, hil, a1, a2, hsn, flatRows, flatRow, hgo, hgo2, hnr, hdr, hnrS]
    have hq := H1 p3 (L ++ [y]) (D, 960) hp3 (Nat.le_refl _) (Nat.le_succ _) (by rw [List.length_append, List.length_singleton]; omega)
    simp only [List.length_append, List.length_singleton] at hq
    refine hK _ ⟨tp 20 [(2, .x (.one (.rs (D, 960) [] 1 0 (L.length + 1))))], D, [((D, 960), ⟨.sl, 1, vR (ints (L ++ [y]))⟩)], setA s r (curOb c p3)⟩ _ ?_ rfl rfl (by simp only [Try.ntmps39, Try.results39, push_cast, seval] <;> rfl) hq
    exact dropAny (by simp only [push_cast, seval]) (by simp only [push_cast, seval]) (by simp only [push_cast, seval, hdr]) (by simp only [push_cast, seval]) (hgo _ _)
  · by_cases e1 : x = 1
    · subst e1
      simp only [Try.ntmps39, Try.results39, push_cast, seval, setA_setA, hcs, hcl, hne, hr1, hu, hv, hDD, hneS, hneT, hDS1, hDS2, hDS3, hDS4, hDE1, hDE2, hDX1, hDX2, hil]
      refine hK _ ⟨tp 20 [(2, .x (.one (.rs (D, 1152) [] 1 0 0)))], D, [((D, 1152), ⟨.sl, 1, vR (ints [])⟩)], setA s r (curOb c p2)⟩ _ ?_ rfl rfl (by simp only [Try.ntmps39, Try.results39, push_cast, seval] <;> rfl) (H1 p2 [] (D, 1152) hp2 (Nat.le_refl _) (Nat.le_succ _) (by decide))
      rw [show vR (ints []) = [] from rfl]
      exact dropAny (by simp only [push_cast, seval]) (by simp only [push_cast, seval]) (by simp only [push_cast, seval, hdr]) (by simp only [push_cast, seval]) (hgo _ _)
    · simp only [Try.ntmps39, Try.results39, push_cast, seval, setA_setA, hcs, hcl, hne, hr1, hu, hv, hDD, hneS, hneT, hDS1, hDS2, hDS3, hDS4, hDE1, hDE2, hDX1, hDX2, hil, e0, e1]
      refine hK _ ⟨tp 20 [(2, .x (.one (.rs (D + 1, m) [] 1 0 L.length)))], D, [((D + 1, m), ⟨.sl, 1, vR (ints L)⟩)], setA s r (curOb c p2)⟩ _ ?_ rfl rfl (by simp only [Try.ntmps39, Try.results39, push_cast, seval] <;> rfl) (H1 p2 L (D + 1, m) hp2 (Nat.le_succ _) (Nat.le_refl _) (by omega))
      exact dropAny (by simp only [push_cast, seval]) (by simp only [push_cast, seval]) (by simp only [push_cast, seval, hdr]) (by simp only [push_cast, seval]) (hgo _ _)
set_option maxHeartbeats 4000000 in
theorem l05Index_any (D : Nat) (r : Root) {c : List UInt8} {p : Nat × Int} (hc : c.length ≤ 1048576) (hp : p.1 ≤ c.length)
    (ha : xsV [ev σ a] = some [.one (.pt r [] 3 0 0)]) (hr : getA σ.o r = some (curOb c p)) (hd : σ.d ≤ D) (hD : belowS D σ.o = true) (hG : ∀ l' : Store, (σ.o.all fun e => refOkO D l' e.2) = true)
    (H1 : ∀ (p' : Nat × Int) (x : Int), p'.1 ≤ c.length → -1 ≤ x → x ≤ 1000001 → GoL Try.prog l k (exitSt σ.t σ.d dst ⟨[], D, [], setA σ.o r (curOb c p')⟩ [i64 x]) Q) :
    GoL Try.prog (⟨dst, .call { callee := .value (.func 28), args := #[a], argTypes := ats }, ty, none⟩ :: l) k σ Q := by
  refine GoL_inl2 D Try.func28 rfl (by decide) mo (by decide +kernel) rfl ha hd hD fun K hK => ?_
  generalize σ.o = s at hr hD hG H1 hK
  have hgo : ∀ (l' : Store) (p' : Nat × Int), ((setA s r (curOb c p')).all fun e => refOkO D l' e.2) = true := fun l' p' => all_setA (fun _ => rfl) (hG l')
  have hgo1 : ∀ (l' : Store) (p' : Nat × Int), ((setA s r (curOb c p')).all fun e => refOkO (D + 1) l' e.2) = true := fun l' p' => all_mono (Nat.le_succ D) (hgo l' p')
  have hgo5 : ∀ (l' : Store) (p' : Nat × Int), ((setA s r (curOb c p')).all fun e => refOkO (D + 2) l' e.2) = true := fun l' p' => all_mono (by omega) (hgo l' p')
  have hgo2 := hgo
  simp only [refOkO] at hgo2
  have hgo3 := hgo1
  simp only [refOkO] at hgo3
  have hgo6 := hgo5
  simp only [refOkO] at hgo6
  have hr1 : ∀ ob, getA (setA s r ob) r = some ob := getA_here hr
  have hu : ∀ ob, upS D (setA s r ob) = [] := fun ob => upS_below (by rw [belowS_setA]; exact hD)
  have hv : ∀ ob, dnS D (setA s r ob) = setA s r ob := fun ob => dnS_below (by rw [belowS_setA]; exact hD)
  have hrD : r.1 < D := belowS_get hD r _ hr
  have hne : ∀ n, ((D, n) = r) = False := fun n => eq_false fun e => by rw [← e] at hrD; exact Nat.lt_irrefl _ hrD
  have hne2 : ∀ n, r ≠ (D, n) := fun n e => by rw [e] at hrD; exact Nat.lt_irrefl _ hrD
  have hneS : ∀ n, ((D + 1, n) = r) = False := fun n => eq_false fun e => by rw [← e] at hrD; simp only at hrD; omega
  have hneT : ∀ n, ((D + 2, n) = r) = False := fun n => eq_false fun e => by rw [← e] at hrD; simp only at hrD; omega
  have hnr : ∀ n, (r = (D, n)) = False := fun n => eq_false (hne2 n)
  have hdr : decide (r.1 < D) = true := decide_eq_true hrD
  have hdr1 : decide (r.1 < D + 1) = true := decide_eq_true (by omega)
  have hdr2 : decide (r.1 < D + 2) = true := decide_eq_true (by omega)
  have hDl : decide (D < D + 1) = true := decide_eq_true (Nat.lt_succ_self D)
  have hDl2 : decide (D < D + 2) = true := decide_eq_true (by omega)
  have hDl3 : decide (D + 1 < D + 2) = true := decide_eq_true (by omega)
  have hDS1 : (D + 1 = D) = False := eq_false (by omega)
  have hDS2 : (D = D + 1) = False := eq_false (by omega)
  have hDS3 : (D + 2 = D) = False := eq_false (by omega)
  have hDS4 : (D = D + 2) = False := eq_false (by omega)
  have hDX1 : (D + 1 < D) = False := eq_false (by omega)
  have hDX2 : (D + 2 < D) = False := eq_false (by omega)
  have hDE1 : (D ≤ D + 1) = True := eq_true (by omega)
  have hDE2 : (D ≤ D + 2) = True := eq_true (by omega)
  have hDD : (D < D) = False := eq_false (Nat.lt_irrefl D)
  have hD1 : ∀ ob, belowS (D + 1) (setA s r ob) = true := fun ob => by rw [belowS_setA]; exact belowS_mono (Nat.le_succ D) hD
  have hD2 : ∀ ob, belowS (D + 2) (setA s r ob) = true := fun ob => by rw [belowS_setA]; exact belowS_mono (by omega) hD
  have hs0 := setA_same hr
  rw [← hs0]
  clear hs0
  have hcs : ∀ p, (curOb c p).sz = 3 := fun _ => rfl
  have hcl : ∀ p, (curOb c p).rows.length = 1 := fun _ => rfl
  simp only [Try.ntmps28, Try.results28, push_cast, seval, setA_setA, hcs, hcl, hne, hr1, hu, hv, hDD, hneS, hneT, hDS1, hDS2, hDS3, hDS4, hDE1, hDE2, hDX1, hDX2]
  refine once_any (D + 1) r hc hp rfl (by simp only [push_cast, seval, setA_setA, hne, hr1, hneS, hDX1]) (by simp only; omega) (by simp only [push_cast, seval, setA_setA, hD1, hDl, hDX1]) fun p1 b1 hp1 => ?_
  cases b1
  · simp only [Try.ntmps28, Try.results28, push_cast, seval, setA_setA, hcs, hcl, hne, hr1, hu, hv, hDD, hneS, hneT, hDS1, hDS2, hDS3, hDS4, hDE1, hDE2, hDX1, hDX2]
    refine below_any (D + 1) r hc hp1 rfl (by simp only [push_cast, seval, setA_setA, hne, hr1, hneS, hDX1]) (by simp only; omega) (by simp only [push_cast, seval, setA_setA, hD1, hDl, hDX1]) fun p2 x hp2 hx _ => ?_
    obtain ⟨hx0, hx1⟩ := hx (by decide)
    have w1 : IntKind.i64.wrap (1 + x) = 1 + x := w64 (by omega) (by omega)
    simp only [Try.ntmps28, Try.results28, push_cast, seval, setA_setA, hcs, hcl, hne, hr1, hu, hv, hDD, hneS, hneT, hDS1, hDS2, hDS3, hDS4, hDE1, hDE2, hDX1, hDX2, w1]
    refine hK _ ⟨tp 11 [(2, .x (i64 (1 + x)))], D, [], setA s r (curOb c p2)⟩ _ ?_ rfl rfl (by simp only [Try.ntmps28, Try.results28, push_cast, seval] <;> rfl) (H1 p2 (1 + x) hp2 (by omega) (by omega))
    exact dropAny (by simp only [push_cast, seval]) (by simp only [push_cast, seval]) (by simp only [push_cast, seval, hdr]) (by simp only [push_cast, seval]) (hgo _ _)
  · simp only [Try.ntmps28, Try.results28, push_cast, seval, setA_setA, hcs, hcl, hne, hr1, hu, hv, hDD, hneS, hneT, hDS1, hDS2, hDS3, hDS4, hDE1, hDE2, hDX1, hDX2]
    refine pickInt_any (D + 1) r (D, 384) [0, -1, 1000000, 1000001] hc hp1 (by decide) (by decide) (hne2 _) rfl (by simp only [push_cast, seval, setA_setA, hne, hr1]) (by simp only [push_cast, seval]; try rfl) (by simp only; omega) (by simp only [push_cast, seval, setA_setA, hD1, hDl]) fun p2 x hp2 hx => ?_
    have hx2 : -1 ≤ x ∧ x ≤ 1000001 := by
      simp only [List.mem_cons, List.not_mem_nil, or_false] at hx
      omega
    simp only [Try.ntmps28, Try.results28, push_cast, seval, setA_setA, hcs, hcl, hne, hr1, hu, hv, hDD, hneS, hneT, hDS1, hDS2, hDS3, hDS4, hDE1, hDE2, hDX1, hDX2]
    refine hK _ ⟨tp 11 [(2, .x (i64 x))], D, [], setA s r (curOb c p2)⟩ _ ?_ rfl rfl (by simp only [Try.ntmps28, Try.results28, push_cast, seval] <;> rfl) (H1 p2 x hp2 hx2.1 hx2.2)
    exact dropAny (by simp only [push_cast, seval]) (by simp only [push_cast, seval]) (by simp only [push_cast, seval, hdr]) (by simp only [push_cast, seval]) (hgo _ _)
end Go.Proofs.Ythhgmnpodgmlkaa
namespace Go.Proofs.Ythhgmnpodgmlkaa
open Go.RowKit Go.Rx
set_option linter.unusedSimpArgs false
set_option maxRecDepth 100000
variable {Q : Ex → St → Prop} {k : List Fr} {l : List SOp} {σ : St} {dst : Option Tmp} {a a2 : Operand} {ats : Array TypeId} {ty : TypeId}
theorem ctX_eq {L : List Int} (hL : L.length ≤ 5) : ∃ t b, ctX L = [st t, bo b] ∧ t.size ≤ 100000 := by
  unfold ctX
  split
  · exact ⟨_, _, rfl, by rw [octB_size]; omega⟩
  · exact ⟨_, _, rfl, by decide⟩
theorem cmX_eq (o tok seq : Nat) (text task : ByteArray) (num to_ : Nat) (yes : Bool) (h1 : tok ≤ 1000) (h2 : seq ≤ 1000) (h3 : num ≤ 1000) (h4 : to_ ≤ 1000) (h5 : text.size ≤ 600) (h6 : task.size ≤ 600) :
    ∃ t b, (if cokB (mkC o tok seq text task num to_ yes) then [st (ctB o tok seq text task num to_ yes), bo true] else [st ⟨#[]⟩, bo false]) = [st t, bo b] ∧ t.size ≤ 100000 := by
  split
  · refine ⟨_, _, rfl, ?_⟩
    unfold ctB shortB
    simp only [ByteArray.size_append]
    have a1 := varB_size tok
    have a2 := varB_size seq
    have a3 := varB_size num
    have a4 := varB_size to_
    have a5 := varB_size text.size
    have a6 := varB_size task.size
    have a7 : (oneB o).size = 1 := rfl
    have a8 : (flB yes).size = 1 := by cases yes <;> rfl
    omega
  · exact ⟨_, _, rfl, by decide⟩
set_option maxHeartbeats 4000000 in
theorem l05Right_any (D : Nat) (r : Root) (term : Int) {c : List UInt8} {p : Nat × Int} (hc : c.length ≤ 1048576) (hp : p.1 ≤ c.length)
    (ha : xsV [ev σ a, ev σ a2] = some [.one (.pt r [] 3 0 0), i64 term]) (hr : getA σ.o r = some (curOb c p)) (hd : σ.d ≤ D) (hD : belowS D σ.o = true) (hG : ∀ l' : Store, (σ.o.all fun e => refOkO D l' e.2) = true)
    (H1 : ∀ (p' : Nat × Int) (kind : Int) (data : ByteArray), p'.1 ≤ c.length → 1 ≤ kind → kind ≤ 3 → data.size ≤ 100000 → GoL Try.prog l k (exitSt σ.t σ.d dst ⟨[], D, [((D, 256), ⟨.box, 3, [entC term kind data]⟩)], setA σ.o r (curOb c p')⟩ [.agg (entC term kind data)]) Q) :
    GoL Try.prog (⟨dst, .call { callee := .value (.func 80), args := #[a, a2], argTypes := ats }, ty, none⟩ :: l) k σ Q := by
  refine GoL_inl2 D Try.func80 rfl (by decide) mo (by decide +kernel) rfl ha hd hD fun K hK => ?_
  generalize σ.o = s at hr hD hG H1 hK
  have hgo : ∀ (l' : Store) (p' : Nat × Int), ((setA s r (curOb c p')).all fun e => refOkO D l' e.2) = true := fun l' p' => all_setA (fun _ => rfl) (hG l')
  have hgo1 : ∀ (l' : Store) (p' : Nat × Int), ((setA s r (curOb c p')).all fun e => refOkO (D + 1) l' e.2) = true := fun l' p' => all_mono (Nat.le_succ D) (hgo l' p')
  have hgo5 : ∀ (l' : Store) (p' : Nat × Int), ((setA s r (curOb c p')).all fun e => refOkO (D + 2) l' e.2) = true := fun l' p' => all_mono (by omega) (hgo l' p')
  have hgo2 := hgo
  simp only [refOkO] at hgo2
  have hgo3 := hgo1
  simp only [refOkO] at hgo3
  have hgo6 := hgo5
  simp only [refOkO] at hgo6
  have hr1 : ∀ ob, getA (setA s r ob) r = some ob := getA_here hr
  have hu : ∀ ob, upS D (setA s r ob) = [] := fun ob => upS_below (by rw [belowS_setA]; exact hD)
  have hv : ∀ ob, dnS D (setA s r ob) = setA s r ob := fun ob => dnS_below (by rw [belowS_setA]; exact hD)
  have hrD : r.1 < D := belowS_get hD r _ hr
  have hne : ∀ n, ((D, n) = r) = False := fun n => eq_false fun e => by rw [← e] at hrD; exact Nat.lt_irrefl _ hrD
  have hne2 : ∀ n, r ≠ (D, n) := fun n e => by rw [e] at hrD; exact Nat.lt_irrefl _ hrD
  have hneS : ∀ n, ((D + 1, n) = r) = False := fun n => eq_false fun e => by rw [← e] at hrD; simp only at hrD; omega
  have hneT : ∀ n, ((D + 2, n) = r) = False := fun n => eq_false fun e => by rw [← e] at hrD; simp only at hrD; omega
  have hnr : ∀ n, (r = (D, n)) = False := fun n => eq_false (hne2 n)
  have hdr : decide (r.1 < D) = true := decide_eq_true hrD
  have hdr1 : decide (r.1 < D + 1) = true := decide_eq_true (by omega)
  have hdr2 : decide (r.1 < D + 2) = true := decide_eq_true (by omega)
  have hDl : decide (D < D + 1) = true := decide_eq_true (Nat.lt_succ_self D)
  have hDl2 : decide (D < D + 2) = true := decide_eq_true (by omega)
  have hDl3 : decide (D + 1 < D + 2) = true := decide_eq_true (by omega)
  have hDS1 : (D + 1 = D) = False := eq_false (by omega)
  have hDS2 : (D = D + 1) = False := eq_false (by omega)
  have hDS3 : (D + 2 = D) = False := eq_false (by omega)
  have hDS4 : (D = D + 2) = False := eq_false (by omega)
  have hDX1 : (D + 1 < D) = False := eq_false (by omega)
  have hDX2 : (D + 2 < D) = False := eq_false (by omega)
  have hDE1 : (D ≤ D + 1) = True := eq_true (by omega)
  have hDE2 : (D ≤ D + 2) = True := eq_true (by omega)
  have hDD : (D < D) = False := eq_false (Nat.lt_irrefl D)
  have hD1 : ∀ ob, belowS (D + 1) (setA s r ob) = true := fun ob => by rw [belowS_setA]; exact belowS_mono (Nat.le_succ D) hD
  have hD2 : ∀ ob, belowS (D + 2) (setA s r ob) = true := fun ob => by rw [belowS_setA]; exact belowS_mono (by omega) hD
  have hs0 := setA_same hr
  rw [← hs0]
  clear hs0
  have hcs : ∀ p, (curOb c p).sz = 3 := fun _ => rfl
  have hcl : ∀ p, (curOb c p).rows.length = 1 := fun _ => rfl
  simp only [Try.ntmps80, Try.results80, push_cast, seval, setA_setA, hcs, hcl, hne, hr1, hu, hv, hDD, hneS, hneT, hDS1, hDS2, hDS3, hDS4, hDE1, hDE2, hDX1, hDX2]
  refine pickInt_any (D + 1) r (D, 512) [1, 2, 3, 3, 3] hc hp (by decide) (by decide) (hne2 _) rfl (by simp only [push_cast, seval, setA_setA, hne, hr1]) (by simp only [push_cast, seval]; try rfl) (by simp only; omega) (by simp only [push_cast, seval, setA_setA, hD1, hDl]) fun p1 kk hp1 hkk => ?_
  have hk3 : kk = 1 ∨ kk = 2 ∨ kk = 3 := by
    simp only [List.mem_cons, List.not_mem_nil, or_false] at hkk
    omega
  rcases hk3 with rfl | rfl | rfl
  · simp only [Try.ntmps80, Try.results80, push_cast, seval, setA_setA, hcs, hcl, hne, hr1, hu, hv, hDD, hneS, hneT, hDS1, hDS2, hDS3, hDS4, hDE1, hDE2, hDX1, hDX2]
    refine hK _ ⟨tp 32 [(4, .x (.one (.pt (D, 256) [] 3 0 0)))], D, [((D, 256), ⟨.box, 3, [entC term 1 ⟨#[]⟩]⟩)], setA s r (curOb c p1)⟩ _ ?_ rfl rfl (by simp only [Try.ntmps80, Try.results80, push_cast, seval, entC] <;> rfl) (H1 p1 1 ⟨#[]⟩ hp1 (by decide) (by decide) (by decide))
    simp only [entC]
    exact dropAny (by simp only [push_cast, seval]) (by simp only [push_cast, seval, hDS1]) (by simp only [push_cast, seval, hdr]) (by simp only [push_cast, seval]) (hgo _ _)
  · simp only [Try.ntmps80, Try.results80, push_cast, seval, setA_setA, hcs, hcl, hne, hr1, hu, hv, hDD, hneS, hneT, hDS1, hDS2, hDS3, hDS4, hDE1, hDE2, hDX1, hDX2]
    refine l05Conf_any (D + 1) r hc hp1 rfl (by simp only [push_cast, seval, setA_setA, hne, hr1]) (by simp only; omega) (by simp only [push_cast, seval, setA_setA, hD1, hDl]) (by simp only [push_cast, seval, hgo3]; try exact fun _ => trivial) fun p2 L m hp2 hL0 hL4 => ?_
    have hil := ints_length L
    have kC := confTextS_ok L (by omega)
    obtain ⟨tt, bb, hX, ht⟩ := ctX_eq (L := L) (by omega)
    rw [hX] at kC
    simp only [Try.ntmps80, Try.results80, push_cast, seval, setA_setA, hcs, hcl, hne, hr1, hu, hv, hDD, hneS, hneT, hDS1, hDS2, hDS3, hDS4, hDE1, hDE2, hDX1, hDX2, hil]
    refine GoL_call rfl (by first | rfl | (simp only [push_cast, seval, ints_takeE, vR_take, vR_ts]; try rfl)) kC rfl rfl ?_
    simp only [Try.ntmps80, Try.results80, push_cast, seval, setA_setA, hcs, hcl, hne, hr1, hu, hv, hDD, hneS, hneT, hDS1, hDS2, hDS3, hDS4, hDE1, hDE2, hDX1, hDX2, hil]
    refine hK _ ⟨tp 32 [(4, .x (.one (.pt (D, 256) [] 3 0 0)))], D, [((D, 256), ⟨.box, 3, [entC term 2 tt]⟩)], setA s r (curOb c p2)⟩ _ ?_ rfl rfl (by simp only [Try.ntmps80, Try.results80, push_cast, seval, entC] <;> rfl) (H1 p2 2 tt hp2 (by decide) (by decide) ht)
    simp only [entC]
    exact dropAny (by simp only [push_cast, seval]) (by simp only [push_cast, seval, hDS1]) (by simp only [push_cast, seval, hdr]) (by simp only [push_cast, seval]) (hgo _ _)
  · simp only [Try.ntmps80, Try.results80, push_cast, seval, setA_setA, hcs, hcl, hne, hr1, hu, hv, hDD, hneS, hneT, hDS1, hDS2, hDS3, hDS4, hDE1, hDE2, hDX1, hDX2]
    refine l17Right_any (D + 1) r hc hp1 rfl (by simp only [push_cast, seval, setA_setA, hne, hr1]) (by simp only; omega) (by simp only [push_cast, seval, setA_setA, hD1, hDl]) (by simp only [push_cast, seval, hgo3]; try exact fun _ => trivial) fun p2 o tok seq num to_ text task yes hp2 ho htok hseq hnum hto htext htask => ?_
    have kC := commandText_ok o tok seq text task num to_ yes (by omega) (by omega) (by omega) (by omega) (by omega) (by omega)
    obtain ⟨tt, bb, hX, ht⟩ := cmX_eq o tok seq text task num to_ yes htok hseq hnum hto htext htask
    rw [hX] at kC
    simp only [mkC, Cmd.enc] at kC
    simp only [Try.ntmps80, Try.results80, push_cast, seval, setA_setA, hcs, hcl, hne, hr1, hu, hv, hDD, hneS, hneT, hDS1, hDS2, hDS3, hDS4, hDE1, hDE2, hDX1, hDX2, mkC, Cmd.enc]
    refine GoL_call rfl rfl kC rfl rfl ?_
    simp only [Try.ntmps80, Try.results80, push_cast, seval, setA_setA, hcs, hcl, hne, hr1, hu, hv, hDD, hneS, hneT, hDS1, hDS2, hDS3, hDS4, hDE1, hDE2, hDX1, hDX2]
    refine hK _ ⟨tp 32 [(4, .x (.one (.pt (D, 256) [] 3 0 0)))], D, [((D, 256), ⟨.box, 3, [entC term 3 tt]⟩)], setA s r (curOb c p2)⟩ _ ?_ rfl rfl (by simp only [Try.ntmps80, Try.results80, push_cast, seval, entC] <;> rfl) (H1 p2 3 tt hp2 (by decide) (by decide) ht)
    simp only [entC]
    exact dropAny (by simp only [push_cast, seval]) (by simp only [push_cast, seval, hDS1]) (by simp only [push_cast, seval, hdr]) (by simp only [push_cast, seval]) (hgo _ _)
set_option maxHeartbeats 4000000 in
theorem l05Any_any (D : Nat) (r : Root) {c : List UInt8} {p : Nat × Int} (hc : c.length ≤ 1048576) (hp : p.1 ≤ c.length)
    (ha : xsV [ev σ a] = some [.one (.pt r [] 3 0 0)]) (hr : getA σ.o r = some (curOb c p)) (hd : σ.d ≤ D) (hD : belowS D σ.o = true) (hG : ∀ l' : Store, (σ.o.all fun e => refOkO D l' e.2) = true)
    (H1 : ∀ (p' : Nat × Int) (term kind : Int) (data : ByteArray), p'.1 ≤ c.length → -1 ≤ term → term ≤ 100001 → 0 ≤ kind → kind ≤ 4 → data.size ≤ 100000 → GoL Try.prog l k (exitSt σ.t σ.d dst ⟨[], D, [((D, 128), ⟨.box, 3, [entC term kind data]⟩)], setA σ.o r (curOb c p')⟩ [.agg (entC term kind data)]) Q) :
    GoL Try.prog (⟨dst, .call { callee := .value (.func 29), args := #[a], argTypes := ats }, ty, none⟩ :: l) k σ Q := by
  refine GoL_inl2 D Try.func29 rfl (by decide) mo (by decide +kernel) rfl ha hd hD fun K hK => ?_
  generalize σ.o = s at hr hD hG H1 hK
  have hgo : ∀ (l' : Store) (p' : Nat × Int), ((setA s r (curOb c p')).all fun e => refOkO D l' e.2) = true := fun l' p' => all_setA (fun _ => rfl) (hG l')
  have hgo1 : ∀ (l' : Store) (p' : Nat × Int), ((setA s r (curOb c p')).all fun e => refOkO (D + 1) l' e.2) = true := fun l' p' => all_mono (Nat.le_succ D) (hgo l' p')
  have hgo5 : ∀ (l' : Store) (p' : Nat × Int), ((setA s r (curOb c p')).all fun e => refOkO (D + 2) l' e.2) = true := fun l' p' => all_mono (by omega) (hgo l' p')
  have hgo2 := hgo
  simp only [refOkO] at hgo2
  have hgo3 := hgo1
  simp only [refOkO] at hgo3
  have hgo6 := hgo5
  simp only [refOkO] at hgo6
  have hr1 : ∀ ob, getA (setA s r ob) r = some ob := getA_here hr
  have hu : ∀ ob, upS D (setA s r ob) = [] := fun ob => upS_below (by rw [belowS_setA]; exact hD)
  have hv : ∀ ob, dnS D (setA s r ob) = setA s r ob := fun ob => dnS_below (by rw [belowS_setA]; exact hD)
  have hrD : r.1 < D := belowS_get hD r _ hr
  have hne : ∀ n, ((D, n) = r) = False := fun n => eq_false fun e => by rw [← e] at hrD; exact Nat.lt_irrefl _ hrD
  have hne2 : ∀ n, r ≠ (D, n) := fun n e => by rw [e] at hrD; exact Nat.lt_irrefl _ hrD
  have hneS : ∀ n, ((D + 1, n) = r) = False := fun n => eq_false fun e => by rw [← e] at hrD; simp only at hrD; omega
  have hneT : ∀ n, ((D + 2, n) = r) = False := fun n => eq_false fun e => by rw [← e] at hrD; simp only at hrD; omega
  have hnr : ∀ n, (r = (D, n)) = False := fun n => eq_false (hne2 n)
  have hdr : decide (r.1 < D) = true := decide_eq_true hrD
  have hdr1 : decide (r.1 < D + 1) = true := decide_eq_true (by omega)
  have hdr2 : decide (r.1 < D + 2) = true := decide_eq_true (by omega)
  have hDl : decide (D < D + 1) = true := decide_eq_true (Nat.lt_succ_self D)
  have hDl2 : decide (D < D + 2) = true := decide_eq_true (by omega)
  have hDl3 : decide (D + 1 < D + 2) = true := decide_eq_true (by omega)
  have hDS1 : (D + 1 = D) = False := eq_false (by omega)
  have hDS2 : (D = D + 1) = False := eq_false (by omega)
  have hDS3 : (D + 2 = D) = False := eq_false (by omega)
  have hDS4 : (D = D + 2) = False := eq_false (by omega)
  have hDX1 : (D + 1 < D) = False := eq_false (by omega)
  have hDX2 : (D + 2 < D) = False := eq_false (by omega)
  have hDE1 : (D ≤ D + 1) = True := eq_true (by omega)
  have hDE2 : (D ≤ D + 2) = True := eq_true (by omega)
  have hDD : (D < D) = False := eq_false (Nat.lt_irrefl D)
  have hD1 : ∀ ob, belowS (D + 1) (setA s r ob) = true := fun ob => by rw [belowS_setA]; exact belowS_mono (Nat.le_succ D) hD
  have hD2 : ∀ ob, belowS (D + 2) (setA s r ob) = true := fun ob => by rw [belowS_setA]; exact belowS_mono (by omega) hD
  have hs0 := setA_same hr
  rw [← hs0]
  clear hs0
  have hcs : ∀ p, (curOb c p).sz = 3 := fun _ => rfl
  have hcl : ∀ p, (curOb c p).rows.length = 1 := fun _ => rfl
  simp only [Try.ntmps29, Try.results29, push_cast, seval, setA_setA, hcs, hcl, hne, hr1, hu, hv, hDD, hneS, hneT, hDS1, hDS2, hDS3, hDS4, hDE1, hDE2, hDX1, hDX2]
  refine below_any (D + 1) r hc hp rfl (by simp only [push_cast, seval, setA_setA, hne, hr1, hneS, hDX1]) (by simp only; omega) (by simp only [push_cast, seval, setA_setA, hD1, hDl, hDX1]) fun p1 tm hp1 htm _ => ?_
  obtain ⟨ht0, ht1⟩ := htm (by decide)
  simp only [Try.ntmps29, Try.results29, push_cast, seval, setA_setA, hcs, hcl, hne, hr1, hu, hv, hDD, hneS, hneT, hDS1, hDS2, hDS3, hDS4, hDE1, hDE2, hDX1, hDX2]
  refine l05Right_any (D + 1) r tm hc hp1 rfl (by simp only [push_cast, seval, setA_setA, hne, hr1]) (by simp only; omega) (by simp only [push_cast, seval, setA_setA, hD1, hDl]) (by simp only [push_cast, seval, hgo3]; try exact fun _ => trivial) fun p2 kind data hp2 hk1 hk3 hds => ?_
  simp only [Try.ntmps29, Try.results29, push_cast, seval, setA_setA, hcs, hcl, hne, hr1, hu, hv, hDD, hneS, hneT, hDS1, hDS2, hDS3, hDS4, hDE1, hDE2, hDX1, hDX2, entC]
  refine below_any (D + 2) r hc hp2 rfl (by simp only [push_cast, seval, setA_setA, hne, hr1, hneS, hDX1]) (by simp only; omega) (by simp only [push_cast, seval, setA_setA, hD2, hDl2, hDl3, hDX1]) fun p3 x hp3 hx _ => ?_
  by_cases e0 : x = 0
  · subst e0
    simp only [Try.ntmps29, Try.results29, push_cast, seval, setA_setA, hcs, hcl, hne, hr1, hu, hv, hDD, hneS, hneT, hDS1, hDS2, hDS3, hDS4, hDE1, hDE2, hDX1, hDX2, entC]
    refine pickInt_any (D + 2) r (D, 832) [-1, 100000, 100001] hc hp3 (by decide) (by decide) (hne2 _) rfl (by simp only [push_cast, seval, setA_setA, hne, hneS, hr1, hDX1]) (by simp only [push_cast, seval, hDS1]; try rfl) (by simp only; omega) (by simp only [push_cast, seval, setA_setA, hD2, hDl2, hDl3, hDX1]) fun p4 y hp4 hy => ?_
    have hy2 : -1 ≤ y ∧ y ≤ 100001 := by
      simp only [List.mem_cons, List.not_mem_nil, or_false] at hy
      omega
    simp only [Try.ntmps29, Try.results29, push_cast, seval, setA_setA, hcs, hcl, hne, hr1, hu, hv, hDD, hneS, hneT, hDS1, hDS2, hDS3, hDS4, hDE1, hDE2, hDX1, hDX2]
    refine hK _ ⟨tp 30 [(2, .x (.one (.pt (D, 128) [] 3 0 0)))], D, [((D, 128), ⟨.box, 3, [entC y kind data]⟩)], setA s r (curOb c p4)⟩ _ ?_ rfl rfl (by simp only [Try.ntmps29, Try.results29, push_cast, seval, entC] <;> rfl) (H1 p4 y kind data hp4 hy2.1 hy2.2 (by omega) (by omega) hds)
    simp only [entC]
    exact dropAny (by simp only [push_cast, seval]) (by simp only [push_cast, seval, hDS1]) (by simp only [push_cast, seval, hdr]) (by simp only [push_cast, seval]) (hgo _ _)
  · by_cases e1 : x = 1
    · subst e1
      simp only [Try.ntmps29, Try.results29, push_cast, seval, setA_setA, hcs, hcl, hne, hr1, hu, hv, hDD, hneS, hneT, hDS1, hDS2, hDS3, hDS4, hDE1, hDE2, hDX1, hDX2, entC]
      refine pickInt_any (D + 2) r (D, 1216) [0, 4, 1, 2] hc hp3 (by decide) (by decide) (hne2 _) rfl (by simp only [push_cast, seval, setA_setA, hne, hneS, hr1, hDX1]) (by simp only [push_cast, seval, hDS1]; try rfl) (by simp only; omega) (by simp only [push_cast, seval, setA_setA, hD2, hDl2, hDl3, hDX1]) fun p4 y hp4 hy => ?_
      have hy2 : 0 ≤ y ∧ y ≤ 4 := by
        simp only [List.mem_cons, List.not_mem_nil, or_false] at hy
        omega
      simp only [Try.ntmps29, Try.results29, push_cast, seval, setA_setA, hcs, hcl, hne, hr1, hu, hv, hDD, hneS, hneT, hDS1, hDS2, hDS3, hDS4, hDE1, hDE2, hDX1, hDX2]
      refine hK _ ⟨tp 30 [(2, .x (.one (.pt (D, 128) [] 3 0 0)))], D, [((D, 128), ⟨.box, 3, [entC tm y data]⟩)], setA s r (curOb c p4)⟩ _ ?_ rfl rfl (by simp only [Try.ntmps29, Try.results29, push_cast, seval, entC] <;> rfl) (H1 p4 tm y data hp4 (by omega) (by omega) hy2.1 hy2.2 hds)
      simp only [entC]
      exact dropAny (by simp only [push_cast, seval]) (by simp only [push_cast, seval, hDS1]) (by simp only [push_cast, seval, hdr]) (by simp only [push_cast, seval]) (hgo _ _)
    · by_cases e2 : x = 2
      · subst e2
        simp only [Try.ntmps29, Try.results29, push_cast, seval, setA_setA, hcs, hcl, hne, hr1, hu, hv, hDD, hneS, hneT, hDS1, hDS2, hDS3, hDS4, hDE1, hDE2, hDX1, hDX2, entC]
        refine below_any (D + 2) r hc hp3 rfl (by simp only [push_cast, seval, setA_setA, hne, hr1, hneS, hDX1]) (by simp only; omega) (by simp only [push_cast, seval, setA_setA, hD2, hDl2, hDl3, hDX1]) fun p4 y hp4 hy _ => ?_
        obtain ⟨hy0, hy1⟩ := hy (by decide)
        obtain ⟨m, rfl⟩ := Int.eq_ofNat_of_zero_le hy0
        obtain ⟨m8, hm8⟩ : ∃ m8, m8 = 640 + m := ⟨_, rfl⟩
        have w8 : IntKind.i64.wrap (640 + (m : Int)) = (m8 : Int) := by rw [show (640 : Int) + (m : Int) = (m8 : Int) by omega]; exact w64 (by omega) (by omega)
        simp only [Try.ntmps29, Try.results29, push_cast, seval, setA_setA, hcs, hcl, hne, hr1, hu, hv, hDD, hneS, hneT, hDS1, hDS2, hDS3, hDS4, hDE1, hDE2, hDX1, hDX2, w8]
        refine GoL_call rfl rfl (long_ok m8 65 (by omega)) rfl rfl ?_
        simp only [Try.ntmps29, Try.results29, push_cast, seval, setA_setA, hcs, hcl, hne, hr1, hu, hv, hDD, hneS, hneT, hDS1, hDS2, hDS3, hDS4, hDE1, hDE2, hDX1, hDX2]
        refine hK _ ⟨tp 30 [(2, .x (.one (.pt (D, 128) [] 3 0 0)))], D, [((D, 128), ⟨.box, 3, [entC 0 3 (longB m8 65)]⟩)], setA s r (curOb c p4)⟩ _ ?_ rfl rfl (by simp only [Try.ntmps29, Try.results29, push_cast, seval, entC] <;> rfl) (H1 p4 0 3 (longB m8 65) hp4 (by decide) (by decide) (by decide) (by decide) (by rw [longB_size]; omega))
        simp only [entC]
        exact dropAny (by simp only [push_cast, seval]) (by simp only [push_cast, seval, hDS1]) (by simp only [push_cast, seval, hdr]) (by simp only [push_cast, seval]) (hgo _ _)
      · simp only [Try.ntmps29, Try.results29, push_cast, seval, setA_setA, hcs, hcl, hne, hr1, hu, hv, hDD, hneS, hneT, hDS1, hDS2, hDS3, hDS4, hDE1, hDE2, hDX1, hDX2, entC, e0, e1, e2]
        refine hK _ ⟨tp 30 [(2, .x (.one (.pt (D, 128) [] 3 0 0)))], D, [((D, 128), ⟨.box, 3, [entC tm kind data]⟩)], setA s r (curOb c p3)⟩ _ ?_ rfl rfl (by simp only [Try.ntmps29, Try.results29, push_cast, seval, entC] <;> rfl) (H1 p3 tm kind data hp3 (by omega) (by omega) (by omega) (by omega) hds)
        simp only [entC]
        exact dropAny (by simp only [push_cast, seval]) (by simp only [push_cast, seval, hDS1]) (by simp only [push_cast, seval, hdr]) (by simp only [push_cast, seval]) (hgo _ _)
end Go.Proofs.Ythhgmnpodgmlkaa
namespace Go.Proofs.Ythhgmnpodgmlkaa
open Go.RowKit Go.Rx
set_option linter.unusedSimpArgs false
set_option maxRecDepth 100000
theorem varL_pos (n : Nat) : 0 < (varL n).length := by
  by_cases h : n ≤ 127
  · rw [varL_small h]; exact Nat.zero_lt_one
  · rw [varL_big h]; exact Nat.succ_pos _
theorem varL_le : ∀ (k n : Nat), n < 128 ^ (k + 1) → (varL n).length ≤ k + 1
  | 0, n, h => by rw [varL_small (by omega)]; exact Nat.le_refl _
  | k + 1, n, h => by
    by_cases h1 : n ≤ 127
    · rw [varL_small h1]; simp
    · rw [varL_big h1, List.length_cons]
      have := varL_le k (n / 128) (by rw [Nat.pow_succ] at h; omega)
      omega
theorem rvL_back {s : ByteArray} {a : Nat} : ∀ (n k i m u : Nat), (∀ j, j < (varL n).length → a + i + j < s.size ∧ bu s (a + i + j) = (varL n).getD j 0) → ¬ (0 < i ∧ n = 0) → m + n * u ≤ 1000000000 → (varL n).length ≤ k →
    rvL s a k i m u = some (m + n * u, a + i + (varL n).length) := by
  intro n
  induction n using Nat.strongRecOn with
  | ind n ih =>
    intro k i m u hb h0 hm hk
    have hp := varL_pos n
    obtain ⟨k', rfl⟩ : ∃ k', k = k' + 1 := ⟨k - 1, by omega⟩
    by_cases h1 : n ≤ 127
    · obtain ⟨b1, b2⟩ := hb 0 hp
      rw [Nat.add_zero] at b1 b2
      rw [varL_small h1] at b2 ⊢
      have e : (bu s (a + i)).toNat = n := by
        rw [b2]; show (UInt8.ofNat n).toNat = n
        rw [UInt8.toNat_ofNat']; omega
      have e2 : n % 128 = n := Nat.mod_eq_of_lt (by omega)
      rw [rvL_yes b1 (by rw [e]; omega) (by rw [e, e2]; omega), e, e2]
      rfl
    · obtain ⟨b1, b2⟩ := hb 0 hp
      rw [Nat.add_zero] at b1 b2
      have hl := varL_big h1
      rw [hl] at b2
      have e : (bu s (a + i)).toNat = 128 + n % 128 := by
        rw [b2]; show (UInt8.ofNat (128 + n % 128)).toNat = _
        rw [UInt8.toNat_ofNat']; omega
      have e2 : (128 + n % 128) % 128 = n % 128 := by omega
      have hmul : m + n % 128 * u + n / 128 * (u * 128) = m + n * u := by
        have h3 : n * u = (n % 128 + 128 * (n / 128)) * u := by rw [Nat.mod_add_div]
        rw [h3, Nat.add_mul, Nat.add_assoc]
        congr 2
        rw [Nat.mul_comm u 128, ← Nat.mul_assoc, Nat.mul_comm (n / 128) 128]
      rw [rvL_go b1 (by rw [e]; omega), e, e2]
      have hlen : (varL n).length = (varL (n / 128)).length + 1 := by rw [hl]; rfl
      rw [ih (n / 128) (by omega) k' (i + 1) (m + n % 128 * u) (u * 128) (fun j hj => by
        obtain ⟨c1, c2⟩ := hb (j + 1) (by omega)
        rw [hl] at c2
        refine ⟨by omega, ?_⟩
        rw [show a + (i + 1) + j = a + i + (j + 1) by omega, c2]; rfl) (by omega) (by rw [hmul]; exact hm) (by omega), hmul, hlen]
      congr 2; omega
theorem rvO_back {s : ByteArray} {a n : Nat} (hn : n ≤ 1000000000) (ha : a ≤ s.size) (h : ∀ j, j < (varL n).length → a + j < s.size ∧ bu s (a + j) = (varL n).getD j 0) : rvO s a = some (n, a + (varL n).length) := by
  unfold rvO
  rw [if_pos ⟨by omega, by omega⟩, Int.toNat_natCast]
  have := rvL_back (s := s) (a := a) n 5 0 0 1 (by simpa using h) (by omega) (by omega) (varL_le 4 n (by omega))
  rw [this]; simp
theorem getD_app_r {l r : List UInt8} {j : Nat} : (l ++ r).getD (l.length + j) 0 = r.getD j 0 := by
  rw [List.getD_eq_getElem?_getD, List.getElem?_append_right (by omega), Nat.add_sub_cancel_left, ← List.getD_eq_getElem?_getD]
theorem getD_app_l {l r : List UInt8} {j : Nat} (h : j < l.length) : (l ++ r).getD j 0 = l.getD j 0 := by
  rw [List.getD_eq_getElem?_getD, List.getElem?_append_left h, ← List.getD_eq_getElem?_getD]
theorem bu_of {s : ByteArray} {p q r : List UInt8} (h : s.data.toList = p ++ (q ++ r)) {j : Nat} (hj : j < q.length) : p.length + j < s.size ∧ bu s (p.length + j) = q.getD j 0 := by
  have hs : s.size = s.data.toList.length := by rw [Array.length_toList]; rfl
  refine ⟨by rw [hs, h, List.length_append, List.length_append]; omega, ?_⟩
  unfold bu
  rw [h, getD_app_r, getD_app_l hj]
theorem eX_back {i t k : Nat} {d : ByteArray} (h : etOk i t k d = true) (hk : k < 256) : eX (etB i t k d) = [i64 i, .agg (entC t k d), bo true] := by
  have h' := h
  unfold etOk at h'
  rw [Bool.and_eq_true] at h'
  obtain ⟨he, hi⟩ := h'
  have hi2 := inR_spec.1 hi
  have ht2 : (t : Int) ≤ 100000 := by
    unfold eoB at he
    rw [Bool.and_eq_true] at he
    exact (inR_spec.1 he.1).2
  obtain ⟨s, hs⟩ : ∃ s, s = etB i t k d := ⟨_, rfl⟩
  rw [← hs]
  have hl : s.data.toList = [69] ++ (varL i ++ (varL t ++ ([UInt8.ofNat k] ++ d.data.toList))) := by
    rw [hs]; unfold etB
    rw [app_list, app_list, app_list, app_list, varB_list, varB_list]
    simp
  have hsz : s.size = 1 + ((varL i).length + ((varL t).length + (1 + d.size))) := by
    have : s.size = s.data.toList.length := by rw [Array.length_toList]; rfl
    rw [this, hl]
    simp only [List.length_append, List.length_cons, List.length_nil, Array.length_toList]
    rfl
  have hT : takeT s 0 false 1 = ⟨#[69]⟩ := by
    have : takeOk s 0 false 1 = true := by simp [takeOk]; omega
    rw [takeT, if_pos this]
    apply bytes_ext
    rw [extract_list, seg, hl]; rfl
  have a1 : eA1 s = 1 := by
    have : takeOk s 0 false 1 = true := by simp [takeOk]; omega
    rw [eA1, takeA, if_pos this]
  have b1 : eB1 s = false := by
    have : takeOk s 0 false 1 = true := by simp [takeOk]; omega
    rw [eB1, takeB, this]; rfl
  have r1 : rvO s ((1 : Nat) : Int) = some (i, 1 + (varL i).length) := rvO_back (by omega) (by omega) fun j hj => bu_of (p := [69]) hl hj
  have n1 : eN1 s = i := by rw [eN1, a1, b1, numN, r1]; rfl
  have a2 : eA2 s = 1 + (varL i).length := by rw [eA2, a1, b1, numA, r1]; rfl
  have b2 : eB2 s = false := by rw [eB2, a1, b1, numB, r1]; rfl
  have hl2 : s.data.toList = ([69] ++ varL i) ++ (varL t ++ ([UInt8.ofNat k] ++ d.data.toList)) := by rw [hl, List.append_assoc]
  have r2 : rvO s ((1 + (varL i).length : Nat) : Int) = some (t, 1 + (varL i).length + (varL t).length) := rvO_back (by omega) (by omega) fun j hj => by
    have := bu_of hl2 hj
    rwa [List.length_append, show [(69 : UInt8)].length = 1 from rfl] at this
  have n2 : eN2 s = t := by rw [eN2, a2, b2, numN, r2]; rfl
  have a3 : eA3 s = 1 + (varL i).length + (varL t).length := by rw [eA3, a2, b2, numA, r2]; rfl
  have b3 : eB3 s = false := by rw [eB3, a2, b2, numB, r2]; rfl
  have o3 : takeOk s (1 + (varL i).length + (varL t).length) false 1 = true := by simp [takeOk]; omega
  have hl3 : s.data.toList = (([69] ++ varL i) ++ varL t) ++ ([UInt8.ofNat k] ++ d.data.toList) := by rw [hl]; simp only [List.append_assoc]
  have k3 : eK s = k := by
    rw [eK, a3, b3, octN, if_pos o3]
    have := (bu_of hl3 (j := 0) Nat.zero_lt_one).2
    rw [List.length_append, List.length_append, show [(69 : UInt8)].length = 1 from rfl, Nat.add_zero] at this
    rw [this]
    show (UInt8.ofNat k).toNat = k
    rw [UInt8.toNat_ofNat']; omega
  have a4 : eA4 s = 1 + (varL i).length + (varL t).length + 1 := by rw [eA4, a3, b3, takeA, if_pos o3]
  have b4 : eB4 s = false := by rw [eB4, a3, b3, takeB, o3]; rfl
  have d4 : eD s = d := by
    rw [eD, a4]
    apply bytes_ext
    rw [extract_list, seg, hl3, ← List.append_assoc]
    rw [List.drop_left' (by simp only [List.length_append, List.length_cons, List.length_nil]), List.take_of_length_le]
    rw [hsz, Array.length_toList]; show d.size ≤ _; omega
  have ok : eOk s = true := by
    rw [eOk, b4, hT, n1, n2, k3, d4, hi, he]; rfl
  rw [eX_true ok, n1, n2, k3, d4]
end Go.Proofs.Ythhgmnpodgmlkaa
namespace Go.Proofs.Ythhgmnpodgmlkaa
open Go.RowKit Go.Rx
set_option linter.unusedSimpArgs false
set_option maxRecDepth 100000
theorem big_ok (c : List UInt8) : PureFn Try.prog 5 [.one (.sh 1 (byR c))] [bo (decide ((1048576 : Int) < (c.length : Int)))] := by
  refine PureFn_of_Go Try.func5 rfl (by decide) mo (by decide +kernel) ?_
  simp only [Try.ntmps5, Try.results5, push_cast, seval]
theorem sameInts_ok (l : List Int) (hl : l.length ≤ 1048576) : PureFn Try.prog 14 [.one (.sh 1 (vR (ints l))), .one (.sh 1 (vR (ints l)))] [bo true] := by
  refine PureFn_of_Go Try.func14 rfl (by decide) mo (by decide +kernel) ?_
  simp only [Try.ntmps14, Try.results14, push_cast, seval, ints_length]
  refine Go_loop (α := {i : Nat // i ≤ l.length})
    (fun i => ⟨tp 26 [(0, .x (.one (.sh 1 (vR (ints l))))), (1, .x (.one (.sh 1 (vR (ints l))))), (4, .x (bo false)), (5, int i.1)], 0, [], []⟩) (fun i => l.length - i.1) ⟨0, Nat.zero_le _⟩ ?_ ?_
  · exact Weak.same (by simp only [push_cast, seval, Int.ofNat_zero])
  · rintro ⟨i, hi⟩ X hX
    by_cases hlt : (i : Int) < (l.length : Int)
    · have hi' : i < l.length := by omega
      have hg := ints_getD l hi'
      have ws := wsucc hi' (by omega)
      obtain ⟨i', hi1⟩ : ∃ i', i' = i + 1 := ⟨_, rfl⟩
      rw [← hi1] at ws
      simp only [push_cast, seval, ints_length, hlt, hi', vR_getD, hg, ws]
      refine ⟨_, ?_, hX ⟨i', by omega⟩ (by simp only; omega)⟩
      exact Weak.same (by simp only [push_cast, seval])
    · simp only [Try.ntmps14, Try.results14, push_cast, seval, ints_length, hlt]
def etZ (index term kind : Int) (data : ByteArray) : List X := if eoB term kind data && inR index 1 1000000 then [st (etB index.toNat term.toNat kind.toNat data), bo true] else [st ⟨#[]⟩, bo false]
theorem eoB_nat {term kind : Int} {data : ByteArray} (h : eoB term kind data = true) : (0 ≤ term ∧ term ≤ 100000) ∧ (1 ≤ kind ∧ kind ≤ 3) := by
  unfold eoB at h
  rw [Bool.and_eq_true] at h
  refine ⟨inR_spec.1 h.1, ?_⟩
  have h2 := h.2
  split at h2
  · rename_i e; have := of_decide_eq_true e; omega
  · split at h2
    · rename_i e; have := of_decide_eq_true e; omega
    · split at h2
      · rename_i e; have := of_decide_eq_true e; omega
      · cases h2
theorem etZ_nat {index term kind : Int} {data : ByteArray} (h1 : eoB term kind data = true) (h2 : inR index 1 1000000 = true) : etOk index.toNat term.toNat kind.toNat data = true := by
  obtain ⟨⟨a1, a2⟩, b1, b2⟩ := eoB_nat h1
  have c := inR_spec.1 h2
  unfold etOk
  rw [Int.toNat_of_nonneg a1, Int.toNat_of_nonneg (by omega : 0 ≤ kind), Int.toNat_of_nonneg (by omega : 0 ≤ index), h1, h2]; rfl
theorem entryTextS_z (index term kind : Int) (data : ByteArray) (hd : data.size ≤ 140737488355328) : PureFn Try.prog 8 [i64 index, .agg (entC term kind data)] (etZ index term kind data) := by
  have k1 := entryOkS_ok term kind data hd
  have k2 := l01In_ok index 1 1000000
  rw [show (decide ((1 : Int) ≤ index) && decide (index ≤ 1000000)) = inR index 1 1000000 from rfl] at k2
  cases c1 : eoB term kind data with
  | false =>
    have hx : etZ index term kind data = [st ⟨#[]⟩, bo false] := by simp only [etZ, c1, Bool.false_and, Bool.false_eq_true, if_false]
    rw [hx]
    rw [c1] at k1
    refine PureFn_of_Go Try.func8 rfl (by decide) mo (by decide +kernel) ?_
    simp only [entC] at k1
    simp only [Try.ntmps8, Try.results8, push_cast, seval, entC]
    refine GoL_call rfl rfl k1 rfl rfl ?_
    simp only [Try.ntmps8, Try.results8, push_cast, seval]
  | true =>
    cases c2 : inR index 1 1000000 with
    | false =>
      have hx : etZ index term kind data = [st ⟨#[]⟩, bo false] := by simp only [etZ, c1, c2, Bool.true_and, Bool.false_eq_true, if_false]
      rw [hx]
      rw [c1] at k1
      rw [c2] at k2
      refine PureFn_of_Go Try.func8 rfl (by decide) mo (by decide +kernel) ?_
      simp only [entC] at k1
      simp only [Try.ntmps8, Try.results8, push_cast, seval, entC]
      refine GoL_call rfl rfl k1 rfl rfl ?_
      simp only [Try.ntmps8, Try.results8, push_cast, seval]
      refine GoL_call rfl rfl k2 rfl rfl ?_
      simp only [Try.ntmps8, Try.results8, push_cast, seval]
    | true =>
      obtain ⟨⟨a1, a2⟩, b1, b2⟩ := eoB_nat c1
      have c := inR_spec.1 c2
      have h := entryTextS_ok index.toNat term.toNat kind.toNat (by omega) (by omega) data hd
      rw [etX, if_pos (etZ_nat c1 c2), Int.toNat_of_nonneg a1, Int.toNat_of_nonneg (by omega : 0 ≤ kind), Int.toNat_of_nonneg (by omega : 0 ≤ index)] at h
      rw [etZ, c1, c2]; exact h
theorem entryTextI_z (index term kind : Int) (data : ByteArray) (hd : data.size ≤ 140737488355328) : PureFn Try.prog 7 [i64 index, .agg (entC term kind data)] (etZ index term kind data) := by
  have k1 := entryOkI_ok term kind data hd
  have k2 := inRange_ok index 1 1000000
  rw [show (decide ((1 : Int) ≤ index) && decide (index ≤ 1000000)) = inR index 1 1000000 from rfl] at k2
  refine PureFn_of_Go Try.func7 rfl (by decide) mo (by decide +kernel) ?_
  simp only [entC] at k1
  simp only [Try.ntmps7, Try.results7, push_cast, seval, entC]
  refine GoL_call rfl rfl k2 rfl rfl ?_
  cases c2 : inR index 1 1000000 with
  | false =>
    have hx : etZ index term kind data = [st ⟨#[]⟩, bo false] := by simp only [etZ, c2, Bool.and_false, Bool.false_eq_true, if_false]
    rw [hx]
    simp only [Try.ntmps7, Try.results7, push_cast, seval]
  | true =>
    simp only [Try.ntmps7, Try.results7, push_cast, seval]
    refine GoL_call rfl rfl k1 rfl rfl ?_
    cases c1 : eoB term kind data with
    | false =>
      have hx : etZ index term kind data = [st ⟨#[]⟩, bo false] := by simp only [etZ, c1, Bool.false_and, Bool.false_eq_true, if_false]
      rw [hx]
      simp only [Try.ntmps7, Try.results7, push_cast, seval]
    | true =>
      obtain ⟨⟨a1, a2⟩, b1, b2⟩ := eoB_nat c1
      have c := inR_spec.1 c2
      have k3 := entryTextI_ok index.toNat term.toNat kind.toNat (by omega) (by omega) data hd
      rw [Int.toNat_of_nonneg a1, Int.toNat_of_nonneg (by omega : 0 ≤ kind), Int.toNat_of_nonneg (by omega : 0 ≤ index)] at k3
      simp only [entC] at k3
      rw [etZ, c1, c2]
      simp only [Try.ntmps7, Try.results7, push_cast, seval]
      refine GoL_call rfl rfl k3 rfl rfl ?_
      simp only [Try.ntmps7, Try.results7, push_cast, seval]
theorem ent_same (x y : Operand) (t k : Int) (d : ByteArray) :
    binV Try.prog .neq 25 x y (.x (.agg [.v (.int .i64 t), .v (.int .i64 k), .v (.string d)])) (.x (.agg [.v (.int .i64 t), .v (.int .i64 k), .v (.string d)])) = some (one (.v (.bool (!true)))) := by
  refine bin_neA (by kernel_rfl) rfl rfl ((equal_flat Try.underlying25 (by kernel_rfl) (e := fun _ => true) ?_).trans ?_)
  · intro f hf
    simp only [List.mem_cons, List.not_mem_nil, or_false] at hf
    rcases hf with rfl | rfl | rfl
    · exact ⟨by decide, T3.2.1, _, _, rfl, rfl, fun d => (eq_int U3 _ _).trans (by simp)⟩
    · exact ⟨by decide, T3.2.1, _, _, rfl, rfl, fun d => (eq_int U3 _ _).trans (by simp)⟩
    · exact ⟨by decide, T9.2.1, _, _, rfl, rfl, fun d => (eq_str U9 _ _).trans (by simp)⟩
  · rfl
theorem confTextI_ok (l : List Int) (hl : l.length ≤ 1000000) : PureFn Try.prog 11 [.one (.sh 1 (vR (ints l)))] (ctX l) := by
  refine PureFn_of_Go Try.func11 rfl (by decide) mo (by decide +kernel) ?_
  have kc := confOkI_ok l (by omega)
  have ko := octets_ok l hl
  simp only [Try.ntmps11, Try.results11, push_cast, seval]
  refine GoL_call rfl rfl kc rfl rfl ?_
  unfold ctX
  cases c : confB l with
  | false => simp only [Try.ntmps11, Try.results11, push_cast, seval, Bool.false_eq_true]
  | true =>
    simp only [Try.ntmps11, Try.results11, push_cast, seval]
    refine GoL_call rfl rfl ko rfl rfl ?_
    simp only [Try.ntmps11, Try.results11, push_cast, seval]
theorem confB_mem {l : List Int} (h : confB l = true) : ∀ i, i < l.length → 1 ≤ at_ l i ∧ at_ l i ≤ 4 ∧ (0 < i → at_ l (i - 1) < at_ l i) := by
  simp only [confB, Bool.and_eq_true, decide_eq_true_eq] at h; exact h.2
theorem natsL_octB {l : List Int} (h : confB l = true) : natsL (octB l) = l := by
  unfold natsL
  rw [octB_list, List.map_map]
  have : ∀ x ∈ l, ((fun b : UInt8 => (b.toNat : Int)) ∘ oct8) x = x := fun x hx => by
    obtain ⟨i, hi, rfl⟩ := List.mem_iff_getElem.1 hx
    have hm := confB_mem h i hi
    rw [show at_ l i = l[i] by rw [at_, List.getD_eq_getElem?_getD, List.getElem?_eq_getElem hi]; rfl] at hm
    show ((oct8 l[i]).toNat : Int) = l[i]
    unfold oct8
    rw [UInt8.toNat_ofNat']
    omega
  conv => rhs; rw [← List.map_id l]
  exact List.map_congr_left this
theorem rcX_octB {l : List Int} (h : confB l = true) : rcX (octB l) = [.one (.own 1 (vR (ints l))), bo true] := by
  have hl := confB_len h
  rw [rcX, rcB, natsL_octB h, h, octB_size, decide_eq_true (by omega : (l.length : Int) ≤ 4)]; rfl
end Go.Proofs.Ythhgmnpodgmlkaa
namespace Go.Proofs.Ythhgmnpodgmlkaa
open Go.RowKit Go.Rx
set_option linter.unusedSimpArgs false
set_option maxRecDepth 100000
def ixG : List Int → Int → Nat → Int
  | [], _, _ => -1
  | a :: l, x, k => if a = x then (k : Int) else ixG l x (k + 1)
theorem ixG_found : ∀ {l : List Int} {x : Int} {i k : Nat}, (∀ j, j < i → at_ l j ≠ x) → i < l.length → at_ l i = x → ixG l x k = ((k + i : Nat) : Int)
  | [], _, _, _, _, h, _ => by cases h
  | a :: l, x, 0, k, _, _, h => by
    have h' : a = x := h
    rw [ixG, if_pos h']; rfl
  | a :: l, x, i + 1, k, h1, h2, h3 => by
    have h0 : ¬ a = x := h1 0 (Nat.succ_pos _)
    rw [ixG, if_neg h0, ixG_found (i := i) (fun j hj => h1 (j + 1) (by omega)) (by simpa using h2) h3]
    congr 1; omega
theorem ixG_none : ∀ {l : List Int} {x : Int} {k : Nat}, (∀ j, j < l.length → at_ l j ≠ x) → ixG l x k = -1
  | [], _, _, _ => rfl
  | a :: l, x, k, h => by
    have h0 : ¬ a = x := h 0 (Nat.succ_pos _)
    rw [ixG, if_neg h0, ixG_none fun j hj => h (j + 1) (by simpa using hj)]
theorem ixG_mem : ∀ {l : List Int} {x : Int} {k : Nat}, decide ((0 : Int) ≤ ixG l x k) = decide (x ∈ l)
  | [], x, k => by rw [ixG]; simp
  | a :: l, x, k => by
    rw [ixG]
    by_cases h : a = x
    · rw [if_pos h, decide_eq_true (by omega), decide_eq_true (by rw [h]; exact List.mem_cons_self ..)]
    · rw [if_neg h, ixG_mem]
      have : (x ∈ l) ↔ (x ∈ a :: l) := ⟨List.mem_cons_of_mem _, fun hm => by
        rcases List.mem_cons.1 hm with e | e
        · exact absurd e.symm h
        · exact e⟩
      simp only [this]
theorem index_ok (l : List Int) (hl : l.length ≤ 1048576) (x : Int) : PureFn Try.prog 88 [.one (.sh 1 (vR (ints l))), i64 x] [i64 (ixG l x 0)] := by
  refine PureFn_of_Go Try.func88 rfl (by decide) mo (by decide +kernel) ?_
  obtain ⟨r, hr⟩ : ∃ r, r = ixG l x 0 := ⟨_, rfl⟩
  rw [← hr]
  simp only [Try.ntmps88, Try.results88, push_cast, seval, ints_length]
  refine Go_loop (α := {i : Nat // i ≤ l.length ∧ ∀ j, j < i → at_ l j ≠ x})
    (fun i => ⟨tp 19 [(0, .x (.one (.sh 1 (vR (ints l))))), (1, .x (i64 x)), (6, .x (.one (.sh 1 (vR (ints l))))), (7, int l.length), (8, int i.1)], 0, [], []⟩) (fun i => l.length - i.1) ⟨0, Nat.zero_le _, fun j hj => absurd hj (Nat.not_lt_zero _)⟩ ?_ ?_
  · exact Weak.same (by simp only [push_cast, seval, Int.ofNat_zero])
  · rintro ⟨i, hi, hj⟩ X hX
    by_cases hlt : (i : Int) < (l.length : Int)
    · have hi' : i < l.length := by omega
      have hg := ints_getD l hi'
      rw [show l.getD i default = at_ l i from rfl] at hg
      have ws := wsucc hi' (by omega)
      obtain ⟨i', hi1⟩ : ∃ i', i' = i + 1 := ⟨_, rfl⟩
      rw [← hi1] at ws
      by_cases he : x = at_ l i
      · have hq : ixG l x 0 = ((0 + i : Nat) : Int) := ixG_found hj hi' he.symm
        rw [Nat.zero_add] at hq
        rw [hq] at hr
        subst hr
        have hd : decide (x = at_ l i) = true := decide_eq_true he
        obtain ⟨y, hy⟩ : ∃ y, y = at_ l i := ⟨_, rfl⟩
        rw [← hy] at hg hd
        simp only [Try.ntmps88, Try.results88, push_cast, seval, ints_length, hlt, hi', vR_getD, hg, ws, hd]
      · have hd : decide (x = at_ l i) = false := decide_eq_false he
        obtain ⟨y, hy⟩ : ∃ y, y = at_ l i := ⟨_, rfl⟩
        rw [← hy] at hg hd
        simp only [Try.ntmps88, Try.results88, push_cast, seval, ints_length, hlt, hi', vR_getD, hg, ws, hd]
        refine ⟨_, ?_, hX ⟨i', by omega, fun j hj' => ?_⟩ (by simp only; omega)⟩
        · exact Weak.same (by simp only [push_cast, seval])
        · by_cases e : j = i
          · rw [e]; exact fun h => he h.symm
          · exact hj j (by omega)
    · have hq : ixG l x 0 = -1 := ixG_none fun j hj' => hj j (by omega)
      rw [hq] at hr
      subst hr
      simp only [Try.ntmps88, Try.results88, push_cast, seval, ints_length, hlt]
theorem contains_ok (l : List Int) (hl : l.length ≤ 1048576) (x : Int) : PureFn Try.prog 44 [.one (.sh 1 (vR (ints l))), i64 x] [bo (decide (x ∈ l))] := by
  refine PureFn_of_Go Try.func44 rfl (by decide) mo (by decide +kernel) ?_
  have k := index_ok l hl x
  have hm := ixG_mem (l := l) (x := x) (k := 0)
  obtain ⟨r, hr⟩ : ∃ r, r = ixG l x 0 := ⟨_, rfl⟩
  rw [← hr] at k hm
  simp only [Try.ntmps44, Try.results44, push_cast, seval]
  refine GoL_call rfl rfl k rfl rfl ?_
  simp only [Try.ntmps44, Try.results44, push_cast, seval, hm]
def cntM (l m : List Int) (i : Nat) : Nat := ((l.take i).filter fun x => decide (x ∈ m)).length
theorem cntM_le (l m : List Int) (i : Nat) : cntM l m i ≤ i := Nat.le_trans (List.length_filter_le _ _) (by rw [List.length_take]; omega)
theorem cntM_succ (l m : List Int) {i : Nat} (h : i < l.length) : cntM l m (i + 1) = cntM l m i + (if decide (at_ l i ∈ m) then 1 else 0) := by
  unfold cntM
  rw [List.take_add_one, List.getElem?_eq_getElem h, List.filter_append, List.length_append]
  congr 1
  rw [show at_ l i = l[i] by rw [at_, List.getD_eq_getElem?_getD, List.getElem?_eq_getElem h]; rfl]
  by_cases hm : l[i] ∈ m
  · simp [hm]
  · simp [hm]
def mostB (l m : List Int) : Bool := confB l && decide ((l.length : Int) < 2 * (cntM l m l.length : Int))
theorem most_ok (l m : List Int) (hl : l.length ≤ 1048576) (hm : m.length ≤ 1048576) : PureFn Try.prog 16 [.one (.sh 1 (vR (ints l))), .one (.sh 1 (vR (ints m)))] [bo (mostB l m)] := by
  refine PureFn_of_Go Try.func16 rfl (by decide) mo (by decide +kernel) ?_
  have kc := confOkI_ok l (by omega)
  have kk := contains_ok m hm
  unfold mostB
  simp only [Try.ntmps16, Try.results16, push_cast, seval, ints_length]
  refine Go_loop (α := {i : Nat // i ≤ l.length})
    (fun i => ⟨tp 29 [(0, .x (.one (.sh 1 (vR (ints l))))), (1, .x (.one (.sh 1 (vR (ints m))))), (4, .x (bo false)), (5, int (cntM l m i.1)), (8, .x (.one (.sh 1 (vR (ints l))))), (9, int l.length), (10, int i.1)], 0, [], []⟩) (fun i => l.length - i.1) ⟨0, Nat.zero_le _⟩ ?_ ?_
  · have h0 : cntM l m 0 = 0 := rfl
    exact Weak.same (by simp only [push_cast, seval, Int.ofNat_zero, h0])
  · rintro ⟨i, hi⟩ X hX
    simp only
    have hcl := cntM_le l m i
    by_cases hlt : (i : Int) < (l.length : Int)
    · have hi' : i < l.length := by omega
      have hg := ints_getD l hi'
      rw [show l.getD i default = at_ l i from rfl] at hg
      have ws := wsucc hi' (by omega)
      have hsn := cntM_succ l m hi'
      obtain ⟨i', hi1⟩ : ∃ i', i' = i + 1 := ⟨_, rfl⟩
      rw [← hi1] at ws hsn
      obtain ⟨y, hy⟩ : ∃ y, y = at_ l i := ⟨_, rfl⟩
      rw [← hy] at hg hsn
      obtain ⟨n, hn⟩ : ∃ n, n = cntM l m i := ⟨_, rfl⟩
      rw [← hn] at hsn hcl ⊢
      simp only [Try.ntmps16, Try.results16, push_cast, seval, ints_length, hlt, hi', vR_getD, hg]
      refine GoL_call rfl rfl (kk y) rfl rfl ?_
      cases c : decide (y ∈ m) with
      | false =>
        rw [c] at hsn
        simp only [Try.ntmps16, Try.results16, push_cast, seval, ws]
        refine ⟨_, ?_, hX ⟨i', by omega⟩ (by simp only; omega)⟩
        simp only [hsn, Bool.false_eq_true, if_false, Nat.add_zero]
        exact Weak.same (by simp only [push_cast, seval])
      | true =>
        rw [c] at hsn
        have wn : IntKind.i64.wrap ((n : Int) + 1) = ((n + 1 : Nat) : Int) := wN (by omega) (by omega)
        obtain ⟨n', hn'⟩ : ∃ n', n' = n + 1 := ⟨_, rfl⟩
        rw [← hn'] at wn
        simp only [Try.ntmps16, Try.results16, push_cast, seval, ws, wn]
        refine ⟨_, ?_, hX ⟨i', by omega⟩ (by simp only; omega)⟩
        simp only [hsn, if_true, ← hn']
        exact Weak.same (by simp only [push_cast, seval])
    · have hie : i = l.length := by omega
      subst hie
      obtain ⟨n, hn⟩ : ∃ n, n = cntM l m l.length := ⟨_, rfl⟩
      rw [← hn] at hcl ⊢
      have w2 : IntKind.i64.wrap (2 * (n : Int)) = 2 * (n : Int) := w64 (by omega) (by omega)
      simp only [Try.ntmps16, Try.results16, push_cast, seval, ints_length, hlt]
      refine GoL_call rfl rfl kc rfl rfl ?_
      cases c : confB l with
      | false => simp only [Try.ntmps16, Try.results16, push_cast, seval, ints_length, Bool.false_and]
      | true => simp only [Try.ntmps16, Try.results16, push_cast, seval, ints_length, w2, Bool.true_and]
end Go.Proofs.Ythhgmnpodgmlkaa
namespace Go.Proofs.Ythhgmnpodgmlkaa
open Go.RowKit Go.Rx
set_option linter.unusedSimpArgs false
set_option maxRecDepth 100000
theorem etZ_form (index term kind : Int) (data : ByteArray) (hd : data.size ≤ 100000) : ∃ t b, etZ index term kind data = [st t, bo b] ∧ t.size ≤ 140737488355328 ∧ (b = true → eX t = [i64 index, .agg (entC term kind data), bo true]) := by
  unfold etZ
  split
  · rename_i h
    rw [Bool.and_eq_true] at h
    obtain ⟨⟨a1, a2⟩, b1, b2⟩ := eoB_nat h.1
    have c := inR_spec.1 h.2
    refine ⟨_, _, rfl, ?_, fun _ => ?_⟩
    · unfold etB
      simp only [ByteArray.size_append]
      have x1 := varB_size index.toNat
      have x2 := varB_size term.toNat
      have x3 : (⟨[UInt8.ofNat kind.toNat].toArray⟩ : ByteArray).size = 1 := rfl
      have x4 : (⟨#[69]⟩ : ByteArray).size = 1 := rfl
      omega
    · have := eX_back (etZ_nat h.1 h.2) (by omega)
      rw [Int.toNat_of_nonneg a1, Int.toNat_of_nonneg (by omega : 0 ≤ kind), Int.toNat_of_nonneg (by omega : 0 ≤ index)] at this
      exact this
  · exact ⟨_, _, rfl, by decide, fun h => by cases h⟩
theorem eX_any (s : ByteArray) : ∃ (n t k : Int) (d : ByteArray) (b : Bool), eX s = [i64 n, .agg (entC t k d), bo b] := by
  unfold eX; split
  · exact ⟨_, _, _, _, _, rfl⟩
  · exact ⟨_, _, _, _, _, rfl⟩
theorem ctX_form (L : List Int) (hL : L.length ≤ 5) : ∃ t, ctX L = [st t, bo (confB L)] ∧ t.size ≤ 5 ∧ ∃ M, rcX t = [.one (.own 1 (vR (ints M))), bo (confB L)] ∧ M.length ≤ 5 ∧ (confB L = true → M = L) := by
  unfold ctX
  cases h : confB L with
  | true => exact ⟨_, rfl, by rw [octB_size]; exact hL, L, rcX_octB h, hL, fun _ => rfl⟩
  | false => exact ⟨_, rfl, by decide, [], rfl, by decide, fun h => by cases h⟩
theorem mostB_self {l : List Int} (h : confB l = true) : mostB l l = true := by
  have hp : 0 < l.length := by
    simp only [confB, Bool.and_eq_true, decide_eq_true_eq] at h; omega
  unfold mostB cntM
  rw [h, List.take_length, List.filter_eq_self.2 fun x hx => decide_eq_true hx, decide_eq_true (by omega)]; rfl
theorem mostB_nil (l : List Int) : mostB l [] = false := by
  unfold mostB cntM
  have : ((l.take l.length).filter fun x => decide (x ∈ ([] : List Int))) = [] := List.filter_eq_nil_iff.2 fun x _ => by simp
  rw [this, decide_eq_false (by simp), Bool.and_false]
theorem mostB_one {l : List Int} (h : confB l = true) : mostB l (l.take 1) = decide ((l.length : Int) = 1) := by
  have hp : 0 < l.length := by
    simp only [confB, Bool.and_eq_true, decide_eq_true_eq] at h; omega
  cases l with
  | nil => cases hp
  | cons a M =>
    have hgt : ∀ i, i < (a :: M).length → 0 < i → a < at_ (a :: M) i := fun i => by
      induction i with
      | zero => intro _ h0; cases h0
      | succ i ih =>
        intro hi _
        have hc := (confB_mem h (i + 1) hi).2.2 (Nat.succ_pos _)
        rw [Nat.add_sub_cancel] at hc
        by_cases e : i = 0
        · subst e; exact hc
        · have := ih (by omega) (by omega); omega
    have hf : (M.filter fun x => decide (x ∈ (a :: M).take 1)) = [] := List.filter_eq_nil_iff.2 fun x hx => by
      obtain ⟨i, hi, rfl⟩ := List.mem_iff_getElem.1 hx
      have hg := hgt (i + 1) (by simp; omega) (Nat.succ_pos _)
      rw [show at_ (a :: M) (i + 1) = M[i] by rw [at_, List.getD_eq_getElem?_getD]; simp [List.getElem?_eq_getElem hi]] at hg
      simp only [List.take_succ_cons, List.take_zero, List.mem_singleton, decide_eq_true_eq]
      omega
    have hc : cntM (a :: M) ((a :: M).take 1) (a :: M).length = 1 := by
      unfold cntM
      rw [List.take_length, List.filter_cons_of_pos (by simp), hf]; rfl
    unfold mostB
    rw [h, hc, Bool.true_and]
    by_cases e : ((a :: M).length : Int) = 1
    · rw [decide_eq_true e, decide_eq_true (by omega)]
    · rw [decide_eq_false e, decide_eq_false (by omega)]
theorem ints_take1 (l : List Int) : (vR (ints l)).take 1 = vR (ints (l.take 1)) := by simp [vR, ints, List.map_take]
set_option maxHeartbeats 4000000 in
theorem lawEntries_ok (c : List UInt8) : PureFn Try.prog 3 [.one (.sh 1 (byR c))] [bo true] := by
  refine PureFn_of_Go Try.func3 rfl (by decide) mo (by decide +kernel) ?_
  simp only [Try.ntmps3, Try.results3, push_cast, seval]
  refine GoL_call rfl rfl (big_ok c) rfl rfl ?_
  cases cb : decide ((1048576 : Int) < (c.length : Int)) with
  | true => simp only [Try.ntmps3, Try.results3, push_cast, seval]
  | false =>
    have hc : c.length ≤ 1048576 := by have := of_decide_eq_false cb; omega
    simp only [Try.ntmps3, Try.results3, push_cast, seval]
    refine GoL_inl2 1 Try.func6 rfl (by decide) mo (by decide +kernel) rfl rfl (show 0 ≤ 1 by decide) rfl fun K hK => ?_
    simp only [Try.ntmps6, Try.results6, push_cast, seval]
    refine new_go 2 hc rfl (show 1 ≤ 2 by decide) rfl ?_
    have hp0 : (new0 c).1 ≤ c.length := Nat.zero_le _
    generalize new0 c = p0 at hp0
    simp only [Try.ntmps6, Try.results6, push_cast, seval, List.nil_append, List.append_nil]
    refine l05Index_any 3 (2, 1984) hc hp0 rfl rfl (show 1 ≤ 3 by decide) rfl (by simp only [push_cast, seval, curOb]; try exact fun _ => trivial) fun p1 idx hp1 hi0 hi1 => ?_
    simp only [Try.ntmps6, Try.results6, push_cast, seval, List.nil_append, List.append_nil]
    refine l05Any_any 3 (2, 1984) hc hp1 rfl rfl (show 1 ≤ 3 by decide) rfl (by simp only [push_cast, seval, curOb]; try exact fun _ => trivial) fun p2 term kind data hp2 ht0 ht1 hk0 hk1 hds => ?_
    simp only [Try.ntmps6, Try.results6, push_cast, seval, List.nil_append, List.append_nil, entC]
    refine hK _ ⟨tp 11 [(2, .x (i64 idx)), (3, .x (.one (.pt (1, 192) [] 3 0 0)))], 1, [((1, 192), ⟨.box, 3, [entC term kind data]⟩)], []⟩ _ ?_ rfl rfl (by simp only [Try.ntmps6, Try.results6, push_cast, seval, entC]; try rfl) ?_
    · simp only [entC]
      exact Weak.drop (by simp only [push_cast, seval]) (by simp only [push_cast, seval]) (by simp only [push_cast, seval])
    obtain ⟨et, eb, hE, hes, heb⟩ := etZ_form idx term kind data hds
    have kI := entryTextI_z idx term kind data (by omega)
    have kS := entryTextS_z idx term kind data (by omega)
    have kR := readEntryI_ok et hes
    rw [hE] at kI kS
    simp only [entC] at kI kS
    simp only [Try.ntmps3, Try.results3, push_cast, seval, entC]
    refine GoL_call rfl rfl kI rfl rfl ?_
    simp only [Try.ntmps3, Try.results3, push_cast, seval]
    refine GoL_call rfl rfl kS rfl rfl ?_
    simp only [Try.ntmps3, Try.results3, push_cast, seval]
    cases eb with
    | false =>
      obtain ⟨n1, t1, k1, d1, b1, hX1⟩ := eX_any et
      rw [hX1] at kR
      simp only [entC] at kR
      refine GoL_call rfl rfl kR rfl rfl ?_
      simp only [Try.ntmps3, Try.results3, push_cast, seval]
      refine GoL_inl2 5 Try.func10 rfl (by decide) mo (by decide +kernel) rfl rfl (show 0 ≤ 5 by decide) rfl fun K2 hK2 => ?_
      simp only [Try.ntmps10, Try.results10, push_cast, seval]
      refine new_go 6 hc rfl (show 5 ≤ 6 by decide) rfl ?_
      have hq0 : (new0 c).1 ≤ c.length := Nat.zero_le _
      generalize new0 c = q0 at hq0
      simp only [Try.ntmps10, Try.results10, push_cast, seval, List.nil_append, List.append_nil]
      refine l05AnyConf_any 7 (6, 1984) hc hq0 rfl rfl (show 5 ≤ 7 by decide) rfl (by simp only [push_cast, seval, curOb]; try exact fun _ => trivial) fun p3 L q hp3 hq7 hq8 hL => ?_
      obtain ⟨qa, qn⟩ := q
      have hqa : qa = 7 ∨ qa = 8 := by simp only at hq7 hq8; omega
      obtain ⟨ct, hct, hcs, M, hM, hMl, hML⟩ := ctX_form L hL
      have kcI := confTextI_ok L (by omega)
      have kcR := readConfI_ok ct (by omega)
      have kcS := confOkS_ok L (by omega)
      have kcO := confOkI_ok L (by omega)
      have kM1 := most_ok L L (by omega) (by omega)
      have kM2 := most_ok L [] (by omega) (by decide)
      have kM3 := most_ok L (L.take 1) (by omega) (by rw [List.length_take]; omega)
      have kSm := sameInts_ok L (by omega)
      rw [hct] at kcI
      rw [hM] at kcR
      have hil := ints_length L
      have hiM := ints_length M
      cases cB : confB L with
      | false =>
        rw [cB] at kcI kcR kcS kcO
        rcases hqa with rfl | rfl
        all_goals
          simp only [Try.ntmps10, Try.results10, push_cast, seval, List.nil_append, List.append_nil]
          refine hK2 _ _ _ (Weak.refl _) rfl rfl (by simp only [Try.ntmps10, Try.results10, push_cast, seval, hil]; rfl) ?_
          simp only [Try.ntmps3, Try.results3, push_cast, seval, hil]
          refine GoL_call rfl (by simp only [push_cast, seval, ints_takeE, vR_take, vR_ts, hil]; try rfl) kcI rfl rfl ?_
          simp only [Try.ntmps3, Try.results3, push_cast, seval, hil]
          refine GoL_call rfl rfl kcR (by simp only [push_cast, seval, vR_po]) (by simp only [push_cast, seval, freshR, newRoots]; try rfl) ?_
          simp only [Try.ntmps3, Try.results3, push_cast, seval, hil, hiM]
          refine GoL_call rfl (by simp only [push_cast, seval, ints_takeE, vR_take, vR_ts, hil]; try rfl) kcS rfl rfl ?_
          simp only [Try.ntmps3, Try.results3, push_cast, seval, hil, hiM]
          refine GoL_call rfl (by simp only [push_cast, seval, ints_takeE, vR_take, vR_ts, hil]; try rfl) kcO rfl rfl ?_
          simp only [Try.ntmps3, Try.results3, push_cast, seval, hil, hiM]
      | true =>
        obtain rfl := hML cB
        rw [cB] at kcI kcR kcS kcO
        rw [mostB_self cB] at kM1
        rw [mostB_nil] at kM2
        rw [mostB_one cB] at kM3
        have hL1 : (1 : Nat) ≤ M.length := by
          simp only [confB, Bool.and_eq_true, decide_eq_true_eq] at cB; omega
        have hL2 : (1 : Int) ≤ (M.length : Int) := by omega
        rcases hqa with rfl | rfl
        all_goals
          simp only [Try.ntmps10, Try.results10, push_cast, seval, List.nil_append, List.append_nil]
          refine hK2 _ _ _ (Weak.refl _) rfl rfl (by simp only [Try.ntmps10, Try.results10, push_cast, seval, hil]; rfl) ?_
          simp only [Try.ntmps3, Try.results3, push_cast, seval, hil]
          refine GoL_call rfl (by simp only [push_cast, seval, ints_takeE, vR_take, vR_ts, hil]; try rfl) kcI rfl rfl ?_
          simp only [Try.ntmps3, Try.results3, push_cast, seval, hil]
          refine GoL_call rfl rfl kcR (by simp only [push_cast, seval, vR_po]) (by simp only [push_cast, seval, freshR, newRoots]; try rfl) ?_
          simp only [Try.ntmps3, Try.results3, push_cast, seval, hil, hiM]
          refine GoL_call rfl (by simp only [push_cast, seval, ints_takeE, vR_take, vR_ts, hil]; try rfl) kcS rfl rfl ?_
          simp only [Try.ntmps3, Try.results3, push_cast, seval, hil, hiM]
          refine GoL_call rfl (by simp only [push_cast, seval, ints_takeE, vR_take, vR_ts, hil]; try rfl) kSm rfl rfl ?_
          simp only [Try.ntmps3, Try.results3, push_cast, seval, hil, hiM]
          refine GoL_call rfl (by simp only [push_cast, seval, ints_takeE, vR_take, vR_ts, hil]; try rfl) kcO rfl rfl ?_
          simp only [Try.ntmps3, Try.results3, push_cast, seval, hil, hiM]
          refine GoL_call rfl (by simp only [push_cast, seval, ints_takeE, vR_take, vR_ts, hil]; try rfl) kM1 rfl rfl ?_
          simp only [Try.ntmps3, Try.results3, push_cast, seval, hil, hiM]
          refine GoL_call rfl (by simp only [push_cast, seval, ints_takeE, vR_take, vR_ts, hil]; try rfl) kM2 rfl rfl ?_
          simp only [Try.ntmps3, Try.results3, push_cast, seval, hil, hiM, hL1, hL2]
          refine GoL_call rfl (by simp only [push_cast, seval, ints_takeE, ints_take1, vR_take, vR_ts, hil]; try rfl) kM3 rfl rfl ?_
          simp only [Try.ntmps3, Try.results3, push_cast, seval, hil, hiM]
    | true =>
      rw [heb rfl] at kR
      simp only [entC] at kR
      refine GoL_call rfl rfl kR rfl rfl ?_
      simp only [Try.ntmps3, Try.results3, push_cast, seval, ent_same]
      refine GoL_inl2 5 Try.func10 rfl (by decide) mo (by decide +kernel) rfl rfl (show 0 ≤ 5 by decide) rfl fun K2 hK2 => ?_
      simp only [Try.ntmps10, Try.results10, push_cast, seval]
      refine new_go 6 hc rfl (show 5 ≤ 6 by decide) rfl ?_
      have hq0 : (new0 c).1 ≤ c.length := Nat.zero_le _
      generalize new0 c = q0 at hq0
      simp only [Try.ntmps10, Try.results10, push_cast, seval, List.nil_append, List.append_nil]
      refine l05AnyConf_any 7 (6, 1984) hc hq0 rfl rfl (show 5 ≤ 7 by decide) rfl (by simp only [push_cast, seval, curOb]; try exact fun _ => trivial) fun p3 L q hp3 hq7 hq8 hL => ?_
      obtain ⟨qa, qn⟩ := q
      have hqa : qa = 7 ∨ qa = 8 := by simp only at hq7 hq8; omega
      obtain ⟨ct, hct, hcs, M, hM, hMl, hML⟩ := ctX_form L hL
      have kcI := confTextI_ok L (by omega)
      have kcR := readConfI_ok ct (by omega)
      have kcS := confOkS_ok L (by omega)
      have kcO := confOkI_ok L (by omega)
      have kM1 := most_ok L L (by omega) (by omega)
      have kM2 := most_ok L [] (by omega) (by decide)
      have kM3 := most_ok L (L.take 1) (by omega) (by rw [List.length_take]; omega)
      have kSm := sameInts_ok L (by omega)
      rw [hct] at kcI
      rw [hM] at kcR
      have hil := ints_length L
      have hiM := ints_length M
      cases cB : confB L with
      | false =>
        rw [cB] at kcI kcR kcS kcO
        rcases hqa with rfl | rfl
        all_goals
          simp only [Try.ntmps10, Try.results10, push_cast, seval, List.nil_append, List.append_nil]
          refine hK2 _ _ _ (Weak.refl _) rfl rfl (by simp only [Try.ntmps10, Try.results10, push_cast, seval, hil]; rfl) ?_
          simp only [Try.ntmps3, Try.results3, push_cast, seval, hil]
          refine GoL_call rfl (by simp only [push_cast, seval, ints_takeE, vR_take, vR_ts, hil]; try rfl) kcI rfl rfl ?_
          simp only [Try.ntmps3, Try.results3, push_cast, seval, hil]
          refine GoL_call rfl rfl kcR (by simp only [push_cast, seval, vR_po]) (by simp only [push_cast, seval, freshR, newRoots]; try rfl) ?_
          simp only [Try.ntmps3, Try.results3, push_cast, seval, hil, hiM]
          refine GoL_call rfl (by simp only [push_cast, seval, ints_takeE, vR_take, vR_ts, hil]; try rfl) kcS rfl rfl ?_
          simp only [Try.ntmps3, Try.results3, push_cast, seval, hil, hiM]
          refine GoL_call rfl (by simp only [push_cast, seval, ints_takeE, vR_take, vR_ts, hil]; try rfl) kcO rfl rfl ?_
          simp only [Try.ntmps3, Try.results3, push_cast, seval, hil, hiM]
      | true =>
        obtain rfl := hML cB
        rw [cB] at kcI kcR kcS kcO
        rw [mostB_self cB] at kM1
        rw [mostB_nil] at kM2
        rw [mostB_one cB] at kM3
        have hL1 : (1 : Nat) ≤ M.length := by
          simp only [confB, Bool.and_eq_true, decide_eq_true_eq] at cB; omega
        have hL2 : (1 : Int) ≤ (M.length : Int) := by omega
        rcases hqa with rfl | rfl
        all_goals
          simp only [Try.ntmps10, Try.results10, push_cast, seval, List.nil_append, List.append_nil]
          refine hK2 _ _ _ (Weak.refl _) rfl rfl (by simp only [Try.ntmps10, Try.results10, push_cast, seval, hil]; rfl) ?_
          simp only [Try.ntmps3, Try.results3, push_cast, seval, hil]
          refine GoL_call rfl (by simp only [push_cast, seval, ints_takeE, vR_take, vR_ts, hil]; try rfl) kcI rfl rfl ?_
          simp only [Try.ntmps3, Try.results3, push_cast, seval, hil]
          refine GoL_call rfl rfl kcR (by simp only [push_cast, seval, vR_po]) (by simp only [push_cast, seval, freshR, newRoots]; try rfl) ?_
          simp only [Try.ntmps3, Try.results3, push_cast, seval, hil, hiM]
          refine GoL_call rfl (by simp only [push_cast, seval, ints_takeE, vR_take, vR_ts, hil]; try rfl) kcS rfl rfl ?_
          simp only [Try.ntmps3, Try.results3, push_cast, seval, hil, hiM]
          refine GoL_call rfl (by simp only [push_cast, seval, ints_takeE, vR_take, vR_ts, hil]; try rfl) kSm rfl rfl ?_
          simp only [Try.ntmps3, Try.results3, push_cast, seval, hil, hiM]
          refine GoL_call rfl (by simp only [push_cast, seval, ints_takeE, vR_take, vR_ts, hil]; try rfl) kcO rfl rfl ?_
          simp only [Try.ntmps3, Try.results3, push_cast, seval, hil, hiM]
          refine GoL_call rfl (by simp only [push_cast, seval, ints_takeE, vR_take, vR_ts, hil]; try rfl) kM1 rfl rfl ?_
          simp only [Try.ntmps3, Try.results3, push_cast, seval, hil, hiM]
          refine GoL_call rfl (by simp only [push_cast, seval, ints_takeE, vR_take, vR_ts, hil]; try rfl) kM2 rfl rfl ?_
          simp only [Try.ntmps3, Try.results3, push_cast, seval, hil, hiM, hL1, hL2]
          refine GoL_call rfl (by simp only [push_cast, seval, ints_takeE, ints_take1, vR_take, vR_ts, hil]; try rfl) kM3 rfl rfl ?_
          simp only [Try.ntmps3, Try.results3, push_cast, seval, hil, hiM]
theorem ofNat_toNat {n : Nat} (h : n < 256) : (UInt8.ofNat n).toNat = n := by simp; omega
theorem byR_dec : ∀ R : List (List C), (∀ r ∈ R, HasKt (.int .u8) r) → ∃ l, R = byR l
  | [], _ => ⟨[], rfl⟩
  | r :: R, h => by
    obtain ⟨l, rfl⟩ := byR_dec R fun r' hr => h r' (List.mem_cons_of_mem _ hr)
    obtain ⟨n, rfl, hn⟩ := h r (List.mem_cons_self ..)
    have hn2 : 0 ≤ n ∧ n < 256 := by
      have h1 : IntKind.u8.min = 0 := rfl
      have h2 : IntKind.u8.max = 255 := rfl
      simp only [Lit.wf, Bool.and_eq_true, decide_eq_true_eq] at hn
      omega
    refine ⟨UInt8.ofNat n.toNat :: l, ?_⟩
    have : ((UInt8.ofNat n.toNat).toNat : Int) = n := by rw [ofNat_toNat (by omega)]; omega
    simp only [byR, List.map_cons, this]
theorem lawEntries (xs : List X) (h : HasXs [.sl 1 1 (.int .u8)] xs) : PureFn Try.prog 3 xs [.one (.v (.bool true))] := by
  obtain ⟨x, _, rfl, ⟨c, rfl, hc⟩, rfl⟩ := h
  simp only [HasKt] at hc
  obtain ⟨R, hR, _, _, h2⟩ := hc
  cases hR
  obtain ⟨l, rfl⟩ := byR_dec R fun r hr => h2 r hr
  exact lawEntries_ok l
end Go.Proofs.Ythhgmnpodgmlkaa
