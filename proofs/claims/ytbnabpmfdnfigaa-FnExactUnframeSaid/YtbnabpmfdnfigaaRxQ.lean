/- A region whose operations may go in more than one order: the model's region comes to what the data's does. -/
import Derived.Test.YtbnabpmfdnfigaaRxP
namespace Go.Rx
open Go.RowKit

section
variable {P : Program} {w w0 w' : World} {g g0 gr : Gh} {σ τ : St} {a : Act} {ops : Array Oper} {o : Oper}

theorem freshR_of {l s : Store} (h : ∀ k, getA s k ≠ none → getA l k = none) : freshR l s = true := by
  induction s with
  | nil => rfl
  | cons x s ih =>
    obtain ⟨k, ob⟩ := x
    simp only [freshR, Bool.and_eq_true, Option.isNone_iff_eq_none]
    refine ⟨h k (by simp [getA]), ih fun k' hk' => h k' ?_⟩
    simp only [getA]
    split
    · simp
    · exact hk'

theorem OpE_sound {v : V} {l : Store} (h : OpE P σ o v l) (hf : freshR σ.l l = true) (hr : Rel g0 w0 σ g a w) {N : Act → World → Prop} {Q : Exit → Act → World → Prop}
    (hk : ∀ g' a' w', Rel g0 w0 (put { σ with l := l ++ σ.l } o.dst v) g' a' w' → N a' w') : o.wp P a w N Q := by
  unfold OpE at h
  split at h
  · rename_i f as ats ho
    split at h
    · rename_i n hdst
      obtain ⟨xs, ret, h1, ⟨⟨fn, hfn, hname, hbody⟩, h2⟩, h3, rfl, rfl⟩ := h
      have hb : fn.body ≠ none := fun e => by simp [e] at hbody
      have hrun : (execOp a.eval o).run P w = .ok (.enter f (as.map a.eval)) w := by
        simp [execOp, ho, resolve, Deferred.ofValue, Act.eval, invoke, callFunc, program, hfn, hname, hb, Sem.run]
      obtain ⟨e1, e2⟩ := viewVs_rel hr as.toList xs h1
      have hc := h2 w (as.toList.map a.eval) (by simp [e1]) e2
      unfold Oper.wp
      rw [hrun, Oper.upon_enter]
      have hargs : (as.toList.map a.eval).toArray = as.map a.eval := by apply Array.ext'; simp
      rw [hargs] at hc
      refine hc.mono fun e w' he => ?_
      obtain ⟨gr, zs, rfl, hret, hkeep⟩ := he
      obtain ⟨g', k1, k2, _⟩ := hr.take hkeep hret h3 n hf
      exact hk g' _ _ (k1.put o.dst k2)
    · exact h.elim
  · obtain ⟨hv, rfl⟩ := h
    obtain ⟨z, h1, h2⟩ := opV_run hr hv
    unfold Oper.wp; rw [h1, Oper.upon_value]
    exact hk _ _ _ (hr.put o.dst h2)

structure Chk (ops : Array Oper) : Prop where
  edge : ∀ (j : Nat) (o : Oper), ops[j]? = some o → ∀ e ∈ o.after, Region.binds .any e = true → e.on < j
  dis : ∀ (i j : Nat) (o o' : Oper), ops[j]? = some o → ops[i]? = some o' → i ≠ j → o.dst ≠ none → o.dst ≠ o'.dst
  look : ∀ (i j : Nat) (o o' : Oper), ops[j]? = some o → ops[i]? = some o' → i ≠ j → ∀ t ∈ Oper.looksAt ops o, o'.dst = some t → (i < j ∧ hasEdge o i = true) ∨ (j < i ∧ hasEdge o' j = true)

theorem drawOk_chk (h : drawOk ops = true) : Chk ops := by
  have key : ∀ (j : Nat) (o : Oper), ops[j]? = some o → (o, j) ∈ ops.toList.zipIdx := fun j o hj => by
    rw [List.mem_zipIdx_iff_getElem?]; simpa using hj
  unfold drawOk at h
  simp only [List.all_eq_true, Bool.and_eq_true] at h
  refine ⟨fun j o hj e he hb => ?_, fun i j o o' hj hi hne hd => ?_, fun i j o o' hj hi hne t ht hd => ?_⟩
  · have := (h _ (key j o hj)).1.1
    rw [Array.all_eq_true'] at this
    have := this e he
    simpa [hb] using this
  · have := ((h _ (key j o hj)).2 _ (key i o' hi)).1
    simp only [Bool.or_eq_true, beq_iff_eq, Option.isNone_iff_eq_none, Bool.not_eq_true'] at this
    rcases this with (h1 | h1) | h1
    · exact absurd h1 hne
    · exact absurd h1 hd
    · simpa using h1
  · have := ((h _ (key j o hj)).2 _ (key i o' hi)).2 t ht
    simp only [Bool.or_eq_true, Bool.and_eq_true, beq_iff_eq, decide_eq_true_eq, Bool.not_eq_true', hd] at this
    rcases this with ((h1 | h1) | h1) | h1
    · simp at h1
    · exact absurd h1 hne
    · exact .inl h1
    · exact .inr h1

theorem hasEdge_spec {i : Nat} (h : hasEdge o i = true) : ∃ e ∈ o.after, e.on = i ∧ Region.binds .any e = true := by
  unfold hasEdge at h
  rw [Array.any_eq_true'] at h
  obtain ⟨e, he, h⟩ := h
  simp only [Bool.and_eq_true, beq_iff_eq] at h
  exact ⟨e, he, h.1, h.2⟩

theorem ready_spec {listed : Array Bool} {j : Nat} (h : j ∈ Region.ready .any ops listed) : ∃ o, ops[j]? = some o ∧ listed.getD j true = false ∧ ∀ e ∈ o.after, Region.binds .any e = true → listed.getD e.on false = true := by
  unfold Region.ready at h
  simp only [List.mem_filter, List.mem_range, Bool.and_eq_true, Bool.not_eq_true'] at h
  obtain ⟨h1, h2, h3⟩ := h
  refine ⟨ops[j], by simp [h1], h2, fun e he hb => ?_⟩
  simp only [Array.getElem?_eq_getElem h1, Option.map_some, Option.getD_some] at h3
  rw [Array.all_eq_true'] at h3
  have := h3 e he
  simpa [hb] using this

theorem ready_of {listed : Array Bool} {j : Nat} {o : Oper} (ho : ops[j]? = some o) (hl : listed.getD j true = false) (hp : ∀ e ∈ o.after, Region.binds .any e = true → listed.getD e.on false = true) : j ∈ Region.ready .any ops listed := by
  unfold Region.ready
  have hlt : j < ops.size := by
    rcases Nat.lt_or_ge j ops.size with h | h
    · exact h
    · rw [Array.getElem?_eq_none h] at ho; cases ho
  simp only [List.mem_filter, List.mem_range, Bool.and_eq_true, Bool.not_eq_true']
  refine ⟨hlt, hl, ?_⟩
  rw [ho, Option.map_some, Option.getD_some, Array.all_eq_true']
  intro e he
  by_cases hb : Region.binds .any e = true
  · simp [hb, hp e he hb]
  · simp [hb]

def unlisted (listed : Array Bool) : Nat := listed.toList.countP (fun b => !b)

theorem LL_has {res : Nat → V × Store} {LL : Nat → Store} {n : Nat} (hs : ∀ j, j < n → LL (j + 1) = (res j).2 ++ LL j) {i : Nat} {r : Root} (hr : getA (res i).2 r ≠ none) :
    ∀ k, i < k → k ≤ n → getA (LL k) r ≠ none := by
  intro k
  induction k with
  | zero => intro h; omega
  | succ k ih =>
    intro h1 h2
    rw [hs k (by omega), getA_append]
    by_cases e : i = k
    · subst e
      cases h : getA (res i).2 r with
      | none => exact absurd h hr
      | some ob => simp
    · have := ih (by omega) (by omega)
      split
      · simp
      · exact this

theorem LL_from {res : Nat → V × Store} {LL : Nat → Store} {n : Nat} (h0 : LL 0 = []) (hs : ∀ j, j < n → LL (j + 1) = (res j).2 ++ LL j) {r : Root} {ob : Obj'} :
    ∀ k, k ≤ n → getA (LL k) r = some ob → ∃ i, i < k ∧ getA (res i).2 r = some ob := by
  intro k
  induction k with
  | zero => intro _ h; rw [h0] at h; cases h
  | succ k ih =>
    intro h1 h2
    rw [hs k (by omega), getA_append] at h2
    split at h2
    · rename_i ob' h3; cases h2; exact ⟨k, by omega, h3⟩
    · obtain ⟨i, h3, h4⟩ := ih (by omega) h2; exact ⟨i, by omega, h4⟩

theorem draw_main (hc : Chk ops) {res : Nat → V × Store} {pre : Nat → St} {LL : Nat → Store} (h0 : pre 0 = σ) (_ : LL 0 = [])
    (hs : ∀ j o, ops[j]? = some o → Stp P ops (pre j) o (res j).1 (res j).2 ∧ pre (j + 1) = put (pre j) o.dst (res j).1 ∧ LL (j + 1) = (res j).2 ++ LL j ∧ freshR (LL j ++ σ.l) (res j).2 = true)
    {Q : Exit → Act → World → Prop} (hfin : ∀ τ g a w, Inv ops.size (fun i => (ops[i]?).bind (·.dst)) res σ (fun _ => true) τ → Rel g0 w0 τ g a w → Q .normal a w) :
    ∀ (fuel : Nat) (listed : Array Bool), listed.size = ops.size → unlisted listed = fuel →
      (∀ j o, ops[j]? = some o → listed.getD j true = true → ∀ e ∈ o.after, Region.binds .any e = true → listed.getD e.on false = true) →
      ∀ τ g a w, Inv ops.size (fun i => (ops[i]?).bind (·.dst)) res σ (fun i => listed.getD i true) τ → Rel g0 w0 τ g a w → wpAny P .any ops Q fuel listed a w := by
  let n := ops.size
  let dst : Nat → Option Tmp := fun i => (ops[i]?).bind (·.dst)
  have hop : ∀ j, j < n → ops[j]? = some (ops[j]!) := fun j hj => by simp [n] at hj; simp [hj]
  have hs' : ∀ j, j < n → ∃ o, ops[j]? = some o ∧ dst j = o.dst ∧ Stp P ops (pre j) o (res j).1 (res j).2 ∧ pre (j + 1) = put (pre j) o.dst (res j).1 ∧ LL (j + 1) = (res j).2 ++ LL j ∧ freshR (LL j ++ σ.l) (res j).2 = true := fun j hj =>
    ⟨_, hop j hj, by simp [dst, hop j hj], hs j _ (hop j hj)⟩
  have hdis : ∀ i j, i < n → j < n → i ≠ j → dst i ≠ none → dst i ≠ dst j := fun i j hi hj hne hd => by
    simp only [dst, hop i hi, hop j hj, Option.bind_some] at hd ⊢
    exact hc.dis j i _ _ (hop i hi) (hop j hj) (fun e => hne e.symm) hd
  have hpre := pre_spec (σ := σ) (dst := dst) (res := res) (pre := pre) n h0 (fun j hj => by obtain ⟨o, _, e, _, e2, _⟩ := hs' j hj; rw [e, e2]) hdis
  have hLLs : ∀ j, j < n → LL (j + 1) = (res j).2 ++ LL j := fun j hj => by obtain ⟨_, _, _, _, _, e, _⟩ := hs' j hj; exact e
  have hfr : ∀ j, j < n → ∀ r, getA (res j).2 r ≠ none → getA σ.l r = none ∧ ∀ i, i < n → i ≠ j → getA (res i).2 r = none := by
    intro j hj r hr
    obtain ⟨_, _, _, _, _, _, hf⟩ := hs' j hj
    have base : ∀ j, j < n → ∀ r, getA (res j).2 r ≠ none → getA (LL j ++ σ.l) r = none := fun j hj r hr => by
      obtain ⟨_, _, _, _, _, _, hf⟩ := hs' j hj
      obtain ⟨ob, hob⟩ := Option.ne_none_iff_exists'.1 hr
      exact freshR_spec hf hob
    have h1 := base j hj r hr
    rw [getA_append] at h1
    have h2 : getA (LL j) r = none := by
      cases h : getA (LL j) r with
      | none => rfl
      | some ob => rw [h] at h1; cases h1
    refine ⟨by rw [h2] at h1; exact h1, fun i hi hne => ?_⟩
    cases hri : getA (res i).2 r with
    | none => rfl
    | some ob =>
      exfalso
      rcases Nat.lt_trichotomy i j with hlt | heq | hgt
      · exact LL_has hLLs (by rw [hri]; simp) j hlt (by omega) h2
      · exact hne heq
      · have h3 := base i hi r (by rw [hri]; simp)
        rw [getA_append] at h3
        have := LL_has hLLs hr i hgt (by omega)
        cases h : getA (LL i) r with
        | none => exact this h
        | some ob => rw [h] at h3; cases h3
  intro fuel
  induction fuel with
  | zero =>
    intro listed hsz hun hcl τ g a w hinv hr
    have hall : ∀ i, listed.getD i true = true := by
      intro i
      simp only [unlisted, List.countP_eq_zero] at hun
      by_cases hi : i < listed.size
      · have := hun listed[i] (by simp)
        simpa [Array.getD, hi] using this
      · simp [Array.getD, hi]
    refine ⟨?_, hfin τ g a w ?_ hr⟩
    · unfold Region.ready
      rw [List.filter_eq_nil_iff]
      intro i _
      simp [hall i]
    · have : (fun i => listed.getD i true) = fun _ => true := funext hall
      rw [this] at hinv; exact hinv
  | succ fuel ih =>
    intro listed hsz hun hcl τ g a w hinv hr
    constructor
    · intro hnil
      exfalso
      have hex : ∃ j, j < n ∧ listed.getD j true = false := by
        have : 0 < listed.toList.countP (fun b => !b) := by unfold unlisted at hun; omega
        rw [List.countP_pos_iff] at this
        obtain ⟨b, hb, hb2⟩ := this
        obtain ⟨j, hj, rfl⟩ := List.getElem_of_mem hb
        have hj' : j < listed.size := by simpa using hj
        refine ⟨j, by show j < ops.size; omega, ?_⟩
        simpa [Array.getD, hj'] using hb2
      have hmin : ∃ j, j < n ∧ listed.getD j true = false ∧ ∀ i, i < j → listed.getD i true = true := by
        obtain ⟨j, hj⟩ := hex
        induction j using Nat.strongRecOn with
        | _ j ihj =>
          by_cases h : ∃ i, i < j ∧ listed.getD i true = false
          · obtain ⟨i, h1, h2⟩ := h
            exact ihj i h1 ⟨by omega, h2⟩
          · refine ⟨j, hj.1, hj.2, fun i hi => ?_⟩
            cases hb : listed.getD i true with
            | true => rfl
            | false => exact absurd ⟨i, hi, hb⟩ h
      obtain ⟨j, hj1, hj2, hj3⟩ := hmin
      have : j ∈ Region.ready .any ops listed := ready_of (hop j hj1) hj2 fun e he hb => by
        have hlt := hc.edge j _ (hop j hj1) e he hb
        have := hj3 e.on hlt
        have hlt2 : e.on < listed.size := by rw [hsz]; exact Nat.lt_trans hlt hj1
        simpa [Array.getD, hlt2] using this
      rw [hnil] at this
      cases this
    · intro j hj
      obtain ⟨o, ho, hlj, hpred⟩ := ready_spec hj
      have hjn : j < n := by
        rcases Nat.lt_or_ge j ops.size with h | h
        · exact h
        · rw [Array.getElem?_eq_none h] at ho; cases ho
      have hjl : j < listed.size := by rw [hsz]; exact hjn
      obtain ⟨p1, p2, p3, p4, p5, p6⟩ := hpre j (Nat.le_of_lt hjn)
      obtain ⟨hstp, _, _, _⟩ := hs j o ho
      have hin : ∀ k, listed.getD k false = true → listed.getD k true = true := fun k hk => by
        by_cases h : k < listed.size
        · simpa [Array.getD, h] using hk
        · simp [Array.getD, h]
      -- what the operation looks at
      have hlook : ∀ t ∈ Oper.looksAt ops o, τ.t.getD t badV = (pre j).t.getD t badV := by
        intro t ht
        by_cases hlen : t < σ.t.length
        · by_cases hex : ∃ i, i < n ∧ i ≠ j ∧ dst i = some t
          · obtain ⟨i, hi, hne, hd⟩ := hex
            have hd' : (ops[i]!).dst = some t := by simpa [dst, hop i hi] using hd
            rcases hc.look i j o _ ho (hop i hi) hne t ht hd' with ⟨hlt, he⟩ | ⟨hlt, he⟩
            · obtain ⟨e, he1, he2, he3⟩ := hasEdge_spec he
              have hSi : listed.getD i true = true := hin i (he2 ▸ hpred e he1 he3)
              rw [hinv.set i hi hSi t hd hlen, p5 i hlt t hd hlen]
            · obtain ⟨e, he1, he2, he3⟩ := hasEdge_spec he
              have hSi : ¬ listed.getD i true = true := fun hSi => by
                have := hin _ (he2 ▸ hcl i _ (hop i hi) hSi e he1 he3)
                rw [hlj] at this; cases this
              have huniq : ∀ k, k < n → dst k = some t → k = i := fun k hk hdk => by
                by_cases e : k = i
                · exact e
                · exact absurd (hdk.trans hd.symm) (hdis k i hk hi e (by rw [hdk]; simp))
              rw [hinv.old t (fun k hk hSk hdk => hSi (huniq k hk hdk ▸ hSk)), p6 t (fun k hk hdk => by have := huniq k (by omega) hdk; omega)]
          · have hno : ∀ k, k < n → k ≠ j → dst k ≠ some t := fun k hk hne hd => hex ⟨k, hk, hne, hd⟩
            rw [hinv.old t (fun k hk hSk hdk => by
              by_cases e : k = j
              · subst e; rw [hlj] at hSk; cases hSk
              · exact hno k hk e hdk), p6 t (fun k hk => hno k (by omega) (by omega))]
        · have h1 : τ.t.length ≤ t := by rw [hinv.len]; exact Nat.le_of_not_lt hlen
          have h2 : (pre j).t.length ≤ t := by rw [p4]; exact Nat.le_of_not_lt hlen
          simp [List.getD_eq_getElem?_getD, List.getElem?_eq_none h1, List.getElem?_eq_none h2]
      obtain ⟨hev, hgd⟩ := looks_ev (σ := pre j) (τ := τ) hlook
      have hmore : ∀ r ob, getA (pre j).o r = some ob → getA τ.o r = some ob := by
        intro r ob hrob
        have hrob' : getA ((pre j).l ++ (pre j).g) r = some ob := hrob
        rw [p3, p2, getA_append] at hrob'
        show getA (τ.l ++ τ.g) r = some ob
        rw [getA_append]
        cases hl : getA σ.l r with
        | some ob' =>
          rw [hl] at hrob'
          rw [hinv.lold r ob' hl]; exact hrob'
        | none =>
          rw [hl] at hrob'
          have hg' : getA τ.g r = some ob := by rw [hinv.g]; exact hrob'
          cases hτ : getA τ.l r with
          | none => exact hg'
          | some ob' =>
            have e1 := hr.loc r ob' hτ
            have e2 := hr.out r ob hg'
            omega
      have hds : dst j = o.dst := by simp [dst, ho]
      have hset : (fun i => (listed.setIfInBounds j true).getD i true) = fun i => if i = j then true else listed.getD i true := by
        funext i
        simp only [Array.getD_eq_getD_getElem?]
        by_cases e : i = j
        · subst e; simp [hjl]
        · rw [Array.getElem?_setIfInBounds_ne (fun h => e h.symm), if_neg e]
      have hnext : ∀ τ' g' a' w', τ' = put { τ with l := (res j).2 ++ τ.l } o.dst (res j).1 → Rel g0 w0 τ' g' a' w' → wpAny P .any ops Q fuel (listed.setIfInBounds j true) a' w' := by
        intro τ' g' a' w' hτ' hr'
        refine ih (listed.setIfInBounds j true) (by simp [hsz]) ?_ ?_ τ' g' a' w' ?_ hr'
        · unfold unlisted at hun ⊢
          have hb : listed.toList[j]'(by simpa using hjl) = false := by
            simpa [Array.getD, hjl] using hlj
          rw [Array.toList_setIfInBounds]
          have := List.countP_set (p := fun b => !b) (l := listed.toList) (a := true) (i := j) (h := by simpa using hjl)
          rw [this, hb, hun]; simp
        · intro k ok hok hk e he hbd
          have hkk : (if k = j then true else listed.getD k true) = true := by rw [← congrFun hset k]; exact hk
          have mono : ∀ m, listed.getD m false = true → (listed.setIfInBounds j true).getD m false = true := fun m hm => by
            simp only [Array.getD_eq_getD_getElem?] at hm ⊢
            by_cases e : m = j
            · subst e; simp [hjl]
            · rw [Array.getElem?_setIfInBounds_ne (fun h => e h.symm)]; exact hm
          by_cases ek : k = j
          · subst ek
            rw [ho] at hok; cases hok
            exact mono _ (hpred e he hbd)
          · rw [if_neg ek] at hkk
            exact mono _ (hcl k ok hok hkk e he hbd)
        · rw [hset]
          subst hτ'
          refine ⟨by rw [put_d]; exact hinv.d, by rw [put_g]; exact hinv.g, by rw [put_len]; exact hinv.len, ?_, ?_, ?_, ?_, ?_⟩
          · intro i hi hSi t hdt hlt
            rw [getD_put]
            by_cases e : i = j
            · subst e
              rw [if_pos ⟨by rw [← hds]; exact hdt, by show t < τ.t.length; rw [hinv.len]; exact hlt⟩]
            · rw [if_neg (fun h => hdis i j hi hjn e (by show dst i ≠ none; rw [show dst i = some t from hdt]; simp) (by show dst i = dst j; rw [show dst i = some t from hdt, hds, h.1]))]
              rw [if_neg e] at hSi
              exact hinv.set i hi hSi t hdt hlt
          · intro t ht
            rw [getD_put, if_neg (fun h => ht j hjn (by simp) (by show dst j = some t; rw [hds]; exact h.1))]
            exact hinv.old t (fun i hi hSi => ht i hi (by by_cases e : i = j <;> simp [e, hSi]))
          · intro r ob hrob
            rw [put_l]
            show getA ((res j).2 ++ τ.l) r = some ob
            rw [getA_append]
            cases h : getA (res j).2 r with
            | none => exact hinv.lold r ob hrob
            | some ob' => have := (hfr j hjn r (by rw [h]; simp)).1; rw [this] at hrob; cases hrob
          · intro i hi hSi r ob hrob
            rw [put_l]
            show getA ((res j).2 ++ τ.l) r = some ob
            rw [getA_append]
            by_cases e : i = j
            · subst e; rw [hrob]
            · rw [if_neg e] at hSi
              have := (hfr i hi r (by rw [hrob]; simp)).2 j hjn (fun h => e h.symm)
              rw [this]
              exact hinv.lnew i hi hSi r ob hrob
          · intro r ob hrob
            rw [put_l] at hrob
            change getA ((res j).2 ++ τ.l) r = some ob at hrob
            rw [getA_append] at hrob
            cases h : getA (res j).2 r with
            | some ob' => rw [h] at hrob; cases hrob; exact .inr ⟨j, hjn, by simp, h⟩
            | none =>
              rw [h] at hrob
              rcases hinv.lback r ob hrob with h1 | ⟨i, hi, hSi, h1⟩
              · exact .inl h1
              · exact .inr ⟨i, hi, by by_cases e : i = j <;> simp [e, hSi], h1⟩
      unfold wpOp
      simp only [ho]
      rcases hstp with ⟨hg, hE⟩ | ⟨hg, hv, hl⟩
      · rw [← hgd] at hg
        rw [if_pos (gd_spec hr hg)]
        refine .inl (OpE_sound (σ := τ) (OpE_local hev (by rw [hinv.d, p1]) hmore hE) ?_ hr fun g' a' w' hr' => hnext _ g' a' w' rfl hr')
        refine freshR_of fun r hrr => ?_
        obtain ⟨f1, f2⟩ := hfr j hjn r hrr
        cases hτ : getA τ.l r with
        | none => rfl
        | some ob =>
          rcases hinv.lback r ob hτ with h1 | ⟨i, hi, hSi, h1⟩
          · rw [f1] at h1; cases h1
          · have hne : i ≠ j := fun e => by
              have hSi' : listed.getD i true = true := hSi
              rw [e, hlj] at hSi'; cases hSi'
            rw [f2 i hi hne] at h1; cases h1
      · rw [← hgd] at hg
        rw [if_neg (by rw [gd_spec hr hg]; simp)]
        refine hnext (put { τ with l := (res j).2 ++ τ.l } o.dst (res j).1) g _ _ rfl ?_
        rw [hl, hv]
        exact hr.put o.dst (v := badV) (y := undef) trivial

theorem wdraw_sound : DrawSound wdraw P := by
  intro g0 w0 id ops σ g a w K hw hr
  obtain ⟨hm, hok, hrun⟩ := hw
  have hc := drawOk_chk hok
  obtain ⟨res, pre, LL, e1, e2, e3, e4⟩ := DRun_spec _ _ _ hrun
  have e3' : ∀ j o, ops[j]? = some o → Stp P ops (pre j) o (res j).1 (res j).2 ∧ pre (j + 1) = put (pre j) o.dst (res j).1 ∧ LL (j + 1) = (res j).2 ++ LL j ∧ freshR (LL j ++ σ.l) (res j).2 = true :=
    fun j o hj => e3 j o (by simpa using hj)
  have hop : ∀ j, j < ops.size → ops[j]? = some (ops[j]!) := fun j hj => by simp [hj]
  refine wp_region_any hm (draw_main hc e1 e2 e3' ?_ ops.size _ (by simp) (by simp [unlisted, List.countP_replicate]) ?_ σ g a _ ?_ hr.drew)
  · intro τ g' a' w' hinv hr'
    have hpre := pre_spec (σ := σ) (dst := fun i => (ops[i]?).bind (·.dst)) (res := res) (pre := pre) ops.size e1 (fun j hj => by
        have := (e3' j _ (hop j hj)).2.1; simpa [hop j hj] using this) (fun i j hi hj hne hd => by
        simp only [hop i hi, hop j hj, Option.bind_some] at hd ⊢
        exact hc.dis j i _ _ (hop i hi) (hop j hj) (fun e => hne e.symm) hd) ops.size (Nat.le_refl _)
    obtain ⟨p1, p2, p3, p4, p5, p6⟩ := hpre
    have hn : ops.toList.length = ops.size := Array.length_toList
    refine ⟨.normal, rfl, { pre ops.toList.length with l := LL ops.toList.length ++ σ.l }, g', ⟨rfl, e4⟩, ?_⟩
    rw [hn]
    refine Rel.ext (τ := τ) ?_ (by rw [hinv.d]; exact p1) (by rw [hinv.g]; exact p2) ?_ hr'
    · show (pre ops.size).t = τ.t
      apply List.ext_getElem (by rw [p4, hinv.len])
      intro t h1 h2
      have hlt : t < σ.t.length := by rw [← p4]; exact h1
      have : (pre ops.size).t.getD t badV = τ.t.getD t badV := by
        by_cases hex : ∃ i, i < ops.size ∧ (ops[i]?).bind (·.dst) = some t
        · obtain ⟨i, hi, hd⟩ := hex
          rw [p5 i hi t hd hlt, hinv.set i hi rfl t hd hlt]
        · rw [p6 t (fun i hi hd => hex ⟨i, hi, hd⟩), hinv.old t (fun i hi _ hd => hex ⟨i, hi, hd⟩)]
      simpa [List.getD_eq_getElem?_getD, List.getElem?_eq_getElem h1, List.getElem?_eq_getElem h2] using this
    · intro r
      show getA (LL ops.size ++ σ.l) r = getA τ.l r
      have hLLs : ∀ j, j < ops.size → LL (j + 1) = (res j).2 ++ LL j := fun j hj => (e3' j _ (hop j hj)).2.2.1
      rw [getA_append]
      cases h : getA (LL ops.size) r with
      | some ob =>
        obtain ⟨i, hi, h1⟩ := LL_from e2 hLLs ops.size (Nat.le_refl _) h
        exact (hinv.lnew i hi rfl r ob h1).symm
      | none =>
        simp only []
        cases hl : getA σ.l r with
        | some ob => exact (hinv.lold r ob hl).symm
        | none =>
          cases hτ : getA τ.l r with
          | none => rfl
          | some ob =>
            rcases hinv.lback r ob hτ with h1 | ⟨i, hi, _, h1⟩
            · rw [hl] at h1; cases h1
            · exact absurd h (LL_has hLLs (by rw [h1]; simp) ops.size hi (Nat.le_refl _))
  · intro j o hj hl e he hb
    exfalso
    have hlt : j < ops.size := by
      rcases Nat.lt_or_ge j ops.size with h | h
      · exact h
      · rw [Array.getElem?_eq_none h] at hj; cases hj
    simp [Array.getD, hlt] at hl
  · refine ⟨rfl, rfl, rfl, fun i hi hS => ?_, fun _ _ => rfl, fun _ _ h => h, fun i hi hS => ?_, fun _ _ h => .inl h⟩ <;>
    · exfalso; simp [Array.getD, hi] at hS

end
end Go.Rx
