/- pool.Do, the plain law: what a call turns. -/
import Derived.Test.YtlmighkbeacjnaaGreatDoorYe
open Go Go.Lg
set_option linter.unusedSimpArgs false
set_option linter.unusedVariables false
set_option maxHeartbeats 4000000
namespace Go.Proofs.YtlmighkbeacjnaaGreatDoor
/-- The same but for pins, Refs and the hand. -/
structure SameK (l m : List Fr) : Prop where
  len : m.length = l.length
  at_ : ∀ (i : Nat) x, l[i]? = some x → ∃ y, m[i]? = some y ∧ y.k = x.k ∧ y.p = x.p ∧ y.d = x.d ∧ y.dt = x.dt
theorem SameK.back {l m : List Fr} (h : SameK l m) {i : Nat} {y : Fr} (hy : m[i]? = some y) : ∃ x, l[i]? = some x ∧ y.k = x.k ∧ y.p = x.p ∧ y.d = x.d ∧ y.dt = x.dt := by
  have hi := (List.getElem?_eq_some_iff.1 hy).1
  rw [h.len] at hi
  obtain ⟨y', e1, e2⟩ := h.at_ i _ (List.getElem?_eq_getElem hi)
  rw [hy] at e1; cases e1
  exact ⟨_, List.getElem?_eq_getElem hi, e2⟩
theorem okF_may {c : Cf} {f : Fs} (h : okF c f = true) {i : Nat} {x : Fr} (hx : f.l[i]? = some x) : mayF c x = true := (okL_iff.1 (okF_parts h).2.2.2.2).1 x (List.mem_of_getElem? hx)
/-- The units of a fetch that takes a frame: what was written there goes back first. -/
def fetU (x : Fr) (a p : Int) : List Un := (if x.dt = true then [⟨2, x.p, a, x.d⟩] else []) ++ [⟨1, p, a, []⟩]
theorem fetU_mem {x : Fr} {a p : Int} {u : Un} (h : u ∈ fetU x a p) : (x.dt = true ∧ u = ⟨2, x.p, a, x.d⟩) ∨ u = ⟨1, p, a, []⟩ := by
  unfold fetU at h
  rcases List.mem_append.1 h with h | h
  · split at h
    · rename_i hd; exact .inl ⟨hd, List.mem_singleton.1 h⟩
    · cases h
  · exact .inr (List.mem_singleton.1 h)
/-- The units that write all back. -/
def backL : List Fr → Nat → List Un
  | [], _ => []
  | x :: l, i => if x.dt = true then ⟨2, x.p, i, x.d⟩ :: backL l (i + 1) else backL l (i + 1)
theorem backL_mem {u : Un} : ∀ {l : List Fr} {i : Nat}, u ∈ backL l i ↔ ∃ (j : Nat) (x : Fr), l[j]? = some x ∧ x.dt = true ∧ u = ⟨2, x.p, ((i + j : Nat) : Int), x.d⟩
  | [], i => by simp [backL]
  | y :: l, i => by
    have ih := backL_mem (u := u) (l := l) (i := i + 1)
    rw [backL]
    constructor
    · intro h
      split at h
      · rename_i hd
        rcases List.mem_cons.1 h with rfl | h
        · exact ⟨0, y, rfl, hd, rfl⟩
        · obtain ⟨j, x, h1, h2, h3⟩ := ih.1 h
          exact ⟨j + 1, x, by simpa using h1, h2, by rw [h3]; congr 2; omega⟩
      · obtain ⟨j, x, h1, h2, h3⟩ := ih.1 h
        exact ⟨j + 1, x, by simpa using h1, h2, by rw [h3]; congr 2; omega⟩
    · rintro ⟨j, x, h1, h2, h3⟩
      cases j with
      | zero =>
        simp at h1; subst h1
        rw [if_pos h2]; rw [h3]; exact List.mem_cons_self
      | succ j =>
        have := ih.2 ⟨j, x, by simpa using h1, h2, by rw [h3]; congr 2; omega⟩
        split
        · exact List.mem_cons_of_mem _ this
        · exact this
end Go.Proofs.YtlmighkbeacjnaaGreatDoor

