/- The weakest precondition over data ('W'), and that it implies the model's. -/
import Derived.Test.YtbnabpmfdnfigaaRxD
namespace Go.Rx
open Go.RowKit

inductive Ex where
  | normal | exit (id : Nat) | ret
  deriving DecidableEq

def toEx : Exit → Option Ex
  | .normal => some .normal
  | .exit id => some (.exit id)
  | .ret => some .ret
  | _ => none

/-- Is an operation wanted, by its guard? -/
def gd (σ : St) (ops : Array Oper) (o : Oper) : Option Bool :=
  match o.guard with
  | none => some true
  | some (j, b) => match (ops[j]?).bind (·.dst) with
    | some d => match plain (σ.t.getD d (.x (.one .bad))) with
      | some (.bool t) => some (t == b)
      | _ => none
    | none => none

section
variable {P : Program} {g0 : Gh} {w0 : World}

theorem gd_spec {σ : St} {g : Gh} {a : Act} {w : World} (h : Rel g0 w0 σ g a w) {ops : Array Oper} {o : Oper} {b : Bool} (hg : gd σ ops o = some b) :
    Region.wanted o (yielded ops a.tmps) = b := by
  unfold gd at hg
  unfold Region.wanted
  split at hg
  · rename_i hn; rw [hn]; exact Option.some.inj hg
  · rename_i j c hn
    rw [hn]
    split at hg
    · rename_i d hd
      split at hg
      · rename_i t ht
        cases hg
        have hlt : d < σ.t.length := by
          rcases Nat.lt_or_ge d σ.t.length with h' | h'
          · exact h'
          · simp [List.getD_eq_getElem?_getD, List.getElem?_eq_none h', plain] at ht
        have hv := plain_eq ht (h.tmps d hlt)
        have hd2 : a.tmps[d]? = some (.bool t) := by
          have : d < a.tmps.size := by rw [h.size]; exact hlt
          rw [← hv, Array.getElem?_eq_getElem this]
          simp [Array.getD, this]
        simp only [yielded, hd, Option.bind_some, hd2]
        cases t <;> cases c <;> rfl
      · cases hg
    · cases hg

/-- What the model's code may come to, when the data's come to Q. -/
def Post (g0 : Gh) (w0 : World) (Q : Ex → St → Prop) : Exit → Act → World → Prop := fun e a w =>
  ∃ e', toEx e = some e' ∧ ∃ σ g, Q e' σ ∧ Rel g0 w0 σ g a w

theorem Post.mono {Q Q' : Ex → St → Prop} (h : ∀ e σ, Q e σ → Q' e σ) {e : Exit} {a : Act} {w : World} (hp : Post g0 w0 Q e a w) : Post g0 w0 Q' e a w := by
  obtain ⟨e', h1, σ, g, h2, h3⟩ := hp; exact ⟨e', h1, σ, g, h _ _ h2, h3⟩

/-- One operation, over data: all states that it can lead to are met by 'next'. -/
abbrev OpW := Program → Oper → St → (St → Prop) → Prop

def Wlist (wo : OpW) (P : Program) (ops : Array Oper) : List Oper → St → (St → Prop) → Prop
  | [], σ, K => K σ
  | o :: rest, σ, K => match gd σ ops o with
    | some true => wo P o σ fun σ' => Wlist wo P ops rest σ' K
    | some false => Wlist wo P ops rest (put σ o.dst (.x (.one .bad))) K
    | none => False

/-- A region whose operations may go in more than one order. -/
abbrev DrawW := Program → Array Oper → St → (St → Prop) → Prop

def W (wo : OpW) (wd : DrawW) (P : Program) : Code → St → (Ex → St → Prop) → Prop
  | .skip, σ, Q => Q .normal σ
  | .region _ ops false, σ, Q => Wlist wo P ops ops.toList σ (Q .normal)
  | .region _ ops true, σ, Q => wd P ops σ (Q .normal)
  | .seq x y, σ, Q => W wo wd P x σ fun e σ' => match e with | .normal => W wo wd P y σ' Q | e => Q e σ'
  | .cond c x y, σ, Q => ∃ t, plain (ev σ c) = some (.bool t) ∧ (t = true → W wo wd P x σ Q) ∧ (t = false → W wo wd P y σ Q)
  | .block id c, σ, Q => W wo wd P c σ fun e σ' => match e with | .exit id' => if id' = id then Q .normal σ' else Q (.exit id') σ' | e => Q e σ'
  | .loop c, σ, Q => ∀ X : St → Prop, (∀ s, W wo wd P c s (fun e s' => match e with | .normal => ∃ s'', Weak s' s'' ∧ X s'' | e => Q e s') → X s) → ∃ s0, Weak σ s0 ∧ X s0
  | .exit id, σ, Q => Q (.exit id) σ
  | .ret, σ, Q => Q .ret σ
  | _, _, _ => False

/-- What is asked of the two parameters. -/
def OpSound (wo : OpW) (P : Program) : Prop := ∀ (g0 : Gh) (w0 : World) (o : Oper) (σ : St) (g : Gh) (a : Act) (w : World) (K : St → Prop) (N : Act → World → Prop) (Q : Exit → Act → World → Prop),
  wo P o σ K → Rel g0 w0 σ g a w → (∀ σ' g' a' w', K σ' → Rel g0 w0 σ' g' a' w' → N a' w') → o.wp P a w N Q
def DrawSound (wd : DrawW) (P : Program) : Prop := ∀ (g0 : Gh) (w0 : World) (id : Nat) (ops : Array Oper) (σ : St) (g : Gh) (a : Act) (w : World) (K : St → Prop),
  wd P ops σ K → Rel g0 w0 σ g a w → (Code.region id ops true).wp P (Post g0 w0 fun e σ' => e = .normal ∧ K σ') a w

theorem Wlist_sound {wo : OpW} (hwo : OpSound wo P) (ops : Array Oper) : ∀ (l : List Oper) (σ : St) (g : Gh) (a : Act) (w : World) (K : St → Prop) (Q : Exit → Act → World → Prop),
    Wlist wo P ops l σ K → Rel g0 w0 σ g a w → (∀ σ' g' a' w', K σ' → Rel g0 w0 σ' g' a' w' → Q .normal a' w') → wpList P ops Q l a w
  | [], σ, g, a, w, K, Q, h, hr, hk => hk σ g a w h hr
  | o :: rest, σ, g, a, w, K, Q, h, hr, hk => by
    unfold Wlist at h
    refine wpList_step fun K' hK' => ?_
    split at h
    · rename_i hg
      rw [if_pos (gd_spec hr hg)]
      exact hwo g0 w0 o σ g a w _ K' Q h hr fun σ' g' a' w' hw hr' => hK' _ _ (Wlist_sound hwo ops rest σ' g' a' w' K Q hw hr' hk)
    · rename_i hg
      rw [if_neg (by rw [gd_spec hr hg]; simp)]
      exact hK' _ _ (Wlist_sound hwo ops rest _ g _ w K Q h (hr.put _ trivial) hk)
    · exact h.elim

/-- From a loop's body on, with the loop behind it. -/
def LoopRest (P : Program) (c : Code) (Q : Exit → Act → World → Prop) (a : Act) (w : World) : Prop :=
  ∀ (b : Frame) (k : List Item) (cs : List Frame), ∃ e a' w', Q e a' w' ∧ Arrives P (lone (b.at a (.code c :: .inLoop c :: k)) cs w) b k cs e a' w'

theorem loopRest_wp {c : Code} {Q : Exit → Act → World → Prop} {a : Act} {w : World} (h : LoopRest P c Q a w) : (Code.loop c).wp P Q a w := fun b k cs =>
  let ⟨e, a', w', q, r⟩ := h b k cs; ⟨e, a', w', q, .of_steps (.one step_loop) r⟩

theorem loopRest_step {c : Code} {Q : Exit → Act → World → Prop} {a : Act} {w : World} (h : c.wp P (Exit.then (LoopRest P c Q) Q) a w) : LoopRest P c Q a w := by
  intro b k cs
  obtain ⟨e, a₁, w₁, hq, harr⟩ := h b (.inLoop c :: k) cs
  cases e with
  | normal =>
    obtain ⟨e₂, a₂, w₂, hq₂, harr₂⟩ := hq b k cs
    exact ⟨e₂, a₂, w₂, hq₂, .of_steps (Steps.trans harr (.one step_inLoop)) harr₂⟩
  | exit id => exact ⟨_, a₁, w₁, hq, .pass (x := .inLoop c) rfl (fun _ _ => .inl (by simp)) harr⟩
  | goto l => exact ⟨_, a₁, w₁, hq, .pass (x := .inLoop c) rfl (fun _ _ => .inl (by simp)) harr⟩
  | ret => exact ⟨_, a₁, w₁, hq, .pass (x := .inLoop c) rfl (fun _ _ => .inl (by simp)) harr⟩
  | panic ch => exact ⟨_, a₁, w₁, hq, .pass (x := .inLoop c) rfl (fun _ _ => .inl (by simp)) harr⟩
  | outgrown => exact ⟨_, a₁, w₁, hq, .pass (x := .inLoop c) rfl (fun _ _ => .inl (by simp)) harr⟩

theorem W_sound {wo : OpW} {wd : DrawW} (hwo : OpSound wo P) (hwd : DrawSound wd P) (c : Code) : ∀ (σ : St) (g : Gh) (a : Act) (w : World) (Q : Ex → St → Prop),
    W wo wd P c σ Q → Rel g0 w0 σ g a w → c.wp P (Post g0 w0 Q) a w := by
  induction c with
  | skip => intro σ g a w Q h hr; exact wp_skip ⟨_, rfl, σ, g, h, hr⟩
  | region id ops draw =>
    intro σ g a w Q h hr
    cases draw with
    | false => exact wp_region_list (Wlist_sound hwo ops _ σ g a w (Q .normal) _ h hr fun σ' g' a' w' hk hr' => ⟨_, rfl, σ', g', hk, hr'⟩)
    | true => exact wp_mono (hwd g0 w0 id ops σ g a w (Q .normal) h hr) fun e a' w' hp => Post.mono (fun e' σ' ⟨he, hk⟩ => by rw [he]; exact hk) hp
  | seq x y ihx ihy =>
    intro σ g a w Q h hr
    refine wp_seq (wp_mono (ihx σ g a w _ h hr) fun e a' w' hp => ?_)
    obtain ⟨e', h1, σ', g', h2, h3⟩ := hp
    cases e with
    | normal => cases h1; exact ihy σ' g' a' w' Q h2 h3
    | exit id => cases h1; exact ⟨_, rfl, σ', g', h2, h3⟩
    | ret => cases h1; exact ⟨_, rfl, σ', g', h2, h3⟩
    | _ => cases h1
  | cond c x y ihx ihy =>
    intro σ g a w Q h hr
    obtain ⟨t, h1, h2, h3⟩ := h
    have hc := plain_eq h1 (ev_rel hr c)
    cases t with
    | true => exact wp_cond_true hc (ihx σ g a w Q (h2 rfl) hr)
    | false => exact wp_cond_false hc (ihy σ g a w Q (h3 rfl) hr)
  | block id c ih =>
    intro σ g a w Q h hr
    refine wp_block (wp_mono (ih σ g a w _ h hr) fun e a' w' hp => ?_)
    obtain ⟨e', h1, σ', g', h2, h3⟩ := hp
    cases e with
    | normal => cases h1; exact ⟨_, rfl, σ', g', h2, h3⟩
    | exit id' =>
      cases h1
      simp only [Exit.inBlock] at h2 ⊢
      by_cases hid : id' = id
      · rw [if_pos hid] at h2 ⊢; exact ⟨_, rfl, σ', g', h2, h3⟩
      · rw [if_neg hid] at h2 ⊢; exact ⟨_, rfl, σ', g', h2, h3⟩
    | ret => cases h1; exact ⟨_, rfl, σ', g', h2, h3⟩
    | _ => cases h1
  | loop c ih =>
    intro σ g a w Q h hr
    have hstep : ∀ s, W wo wd P c s (fun e s' => match e with | .normal => ∃ s'', Weak s' s'' ∧ (∀ g a w, Rel g0 w0 s'' g a w → LoopRest P c (Post g0 w0 Q) a w) | e => Q e s') →
        ∀ g a w, Rel g0 w0 s g a w → LoopRest P c (Post g0 w0 Q) a w := by
      intro s hs g a w hr
      refine loopRest_step (wp_mono (ih s g a w _ hs hr) fun e a' w' hp => ?_)
      obtain ⟨e', h1, σ', g', h2, h3⟩ := hp
      cases e with
      | normal => cases h1; obtain ⟨s'', hw, hx⟩ := h2; obtain ⟨g'', h4⟩ := hw _ _ _ _ _ h3; exact hx g'' a' w' h4
      | exit id => cases h1; exact ⟨_, rfl, σ', g', h2, h3⟩
      | ret => cases h1; exact ⟨_, rfl, σ', g', h2, h3⟩
      | _ => cases h1
    obtain ⟨s0, hs0, hX⟩ := h (fun s => ∀ g a w, Rel g0 w0 s g a w → LoopRest P c (Post g0 w0 Q) a w) hstep
    obtain ⟨g'', h4⟩ := hs0 _ _ _ _ _ hr
    exact loopRest_wp (hX g'' a w h4)
  | rangeFunc f ps x y _ _ => intro σ g a w Q h hr; exact h.elim
  | exit id => intro σ g a w Q h hr; exact wp_exit ⟨_, rfl, σ, g, h, hr⟩
  | scope c ih => intro σ g a w Q h hr; exact h.elim
  | label l => intro σ g a w Q h hr; exact h.elim
  | goto l => intro σ g a w Q h hr; exact h.elim
  | ret => intro σ g a w Q h hr; exact wp_ret ⟨_, rfl, σ, g, h, hr⟩
  | refuse why => intro σ g a w Q h hr; exact h.elim

end
end Go.Rx
