/- The reference's New: one free frame, free frames. -/
import Derived.Test.YtlmighkbeacjnaaH5
open Go Go.Lg
set_option linter.unusedSimpArgs false
set_option linter.unusedVariables false
set_option maxHeartbeats 4000000
set_option maxRecDepth 20000
namespace Go.Proofs.Ytlmighkbeacjnaa
/-- Dirty frames of a list, by their numbers from i on. -/
def dirtyL : List Fr → Nat → List Int
  | [], _ => []
  | x :: l, i => if x.dt = true then (i : Int) :: dirtyL l (i + 1) else dirtyL l (i + 1)
theorem dirtyL_append (l : List Fr) (x : Fr) : ∀ i, dirtyL (l ++ [x]) i = dirtyL l i ++ (if x.dt = true then [((i + l.length : Nat) : Int)] else []) := by
  induction l with
  | nil => intro i; simp [dirtyL]
  | cons y l ih =>
    intro i
    simp only [List.cons_append, dirtyL, ih, List.length_cons]
    have : i + 1 + l.length = i + (l.length + 1) := by omega
    split <;> simp [this]
theorem dirtyL_len (l : List Fr) : ∀ i, (dirtyL l i).length ≤ l.length := by
  induction l with
  | nil => intro i; exact Nat.le_refl _
  | cons y l ih =>
    intro i
    have := ih (i + 1)
    simp only [dirtyL, List.length_cons]
    split
    · simp only [List.length_cons]; omega
    · omega
theorem dirtyL_take {l : List Fr} {i : Nat} {u : Fr} (hu : l[i]? = some u) : dirtyL (l.take (i + 1)) 0 = dirtyL (l.take i) 0 ++ (if u.dt = true then [(i : Int)] else []) := by
  have hi := (List.getElem?_eq_some_iff.1 hu).1
  have : l.take (i + 1) = l.take i ++ [u] := by rw [List.take_add_one, hu]; rfl
  rw [this, dirtyL_append, List.length_take, Nat.min_eq_left (Nat.le_of_lt hi), Nat.zero_add]
end Go.Proofs.Ytlmighkbeacjnaa
