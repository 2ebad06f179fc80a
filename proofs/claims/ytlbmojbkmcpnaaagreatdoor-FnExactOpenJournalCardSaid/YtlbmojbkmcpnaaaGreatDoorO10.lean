/- OpenJournal: what both ways come to. -/
import Derived.Test.YtlbmojbkmcpnaaaGreatDoorO9
namespace Go.Proofs.YtlbmojbkmcpnaaaGreatDoor
open Go.RowKit Go.Rx
set_option linter.unusedSimpArgs false
set_option maxRecDepth 100000

theorem tellL_num : ∀ (r : List (ByteArray × Nat)) (j : Jn) (e : Nat), (tellL j e r).1.number = j.number
  | [], j, e => rfl
  | (t, x) :: r, j, e => by
    unfold tellL
    cases h : moreO j t with
    | none => rfl
    | some j' =>
      simp only
      rw [tellL_num r j' x]
      unfold moreO at h
      split at h
      · split at h
        · cases h; rfl
        · cases h
      · split at h
        · split at h
          · cases h; rfl
          · cases h
        · cases h
theorem rjO_spec {n : Int} {s : ByteArray} (hs : s.size ≤ 140737488355328) {j : Jn} {e : Nat} (h : rjO n s = some (j, e)) : j.number = n ∧ inR n 0 999 = true ∧ fineE j.log.es := by
  unfold rjO at h
  split at h
  · rename_i hn
    split at h
    · cases h
    · rename_i t x r hfr
      split at h
      · have h2 := Option.some.inj h
        have h3 : j = (tellL ⟨n, 0, 0, ⟨eN1 t, eN2 t, []⟩⟩ x r).1 := by rw [h2]
        refine ⟨by rw [h3, tellL_num], hn, ?_⟩
        rw [h3]
        exact tellL_fine s.size hs r _ _ ⟨Nat.zero_le _, fun e he => by cases he⟩ fun p hp => frs_sizes p (by rw [hfr]; exact List.mem_cons_of_mem _ hp)
      · cases h
  · cases h

/-- What OpenJournal hands back. -/
def ojT (l : List Fil) : ByteArray := (faR (jnm (bstT l l.length)) l).getD ⟨#[]⟩
def nextJ (j : Jn) : Jn := { j with number := j.number + 1 }
def ojO (l : List Fil) : Option (Jn × List Acd) :=
  if dkB l then match rjO (bstT l l.length) (ojT l) with
    | none => none
    | some (j, e) => if e = (ojT l).size then some (j, jshI l (bstT l l.length).toNat)
      else if jtOk (nextJ j) then some (nextJ j, jshI l (bstT l l.length).toNat ++ wrA (nextJ j) (jnm (bstT l l.length))) else none
  else none
def ojX : Option (Jn × List Acd) → List X
  | none => [.agg (jnC jnZ (.own 3 [])), .one (.own 4 []), bo false]
  | some (j, A) => [.agg (jnC j (.own 3 (vR (ents j.log.es)))), .one (.own 4 (vR (acds A))), bo true]
theorem faR_small {l : List Fil} (h : filSm l) (s : ByteArray) : ((faR s l).getD ⟨#[]⟩).size ≤ 140737488355328 := by
  rcases atR_faR s l 0 with ⟨_, h2⟩ | ⟨j, h1, _, h3⟩
  · rw [h2]; exact Nat.zero_le _
  · rw [h3]
    exact (h.2 _ (getD_mem' l j h1)).2
end Go.Proofs.YtlbmojbkmcpnaaaGreatDoor

