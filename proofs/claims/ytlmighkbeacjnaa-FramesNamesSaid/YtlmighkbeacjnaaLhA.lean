/- Binary tries with natural numbers as keys. -/
import Derived.Test.YtlmighkbeacjnaaLh2
set_option linter.unusedVariables false
set_option linter.unusedSimpArgs false
set_option linter.unusedSectionVars false
namespace Go.Lg
open Go
/-- A trie: the key 0 at the root, odd keys on the left, even ones on the right. -/
inductive Trie (α : Type) where
  | nil
  | node (v : Option α) (l r : Trie α)
section
variable {α : Type}
noncomputable def Trie.get (t : Trie α) : Nat → Option α :=
  Trie.rec (motive := fun _ => Nat → Option α) (fun _ => none) (fun v _ _ gl gr k => bif Nat.beq k 0 then v else bif Nat.beq (k % 2) 1 then gl (k / 2) else gr (k / 2 - 1)) t
theorem Trie.get_nil (k : Nat) : (Trie.nil : Trie α).get k = none := rfl
theorem Trie.get_node (v : Option α) (l r : Trie α) (k : Nat) : (Trie.node v l r).get k = bif Nat.beq k 0 then v else bif Nat.beq (k % 2) 1 then l.get (k / 2) else r.get (k / 2 - 1) := rfl
def Trie.parts (t : Trie α) : Option α × Trie α × Trie α := match t with
  | .nil => (none, .nil, .nil)
  | .node v l r => (v, l, r)
theorem Trie.get_parts (t : Trie α) (k : Nat) : t.get k = bif Nat.beq k 0 then t.parts.1 else bif Nat.beq (k % 2) 1 then t.parts.2.1.get (k / 2) else t.parts.2.2.get (k / 2 - 1) := by
  cases t with
  | nil => simp only [Trie.parts, Trie.get_nil]; cases Nat.beq k 0 <;> cases Nat.beq (k % 2) 1 <;> rfl
  | node v l r => rfl
/-- Put, with the rest of the work behind it (so that the kernel has the trie in its last form). -/
noncomputable def Trie.putK {β : Type} (fuel : Nat) : Trie α → Nat → Option α → (Trie α → β) → β :=
  Nat.rec (motive := fun _ => Trie α → Nat → Option α → (Trie α → β) → β)
    (fun t _ _ K => K t)
    (fun _ ih t k x K => Trie.rec (motive := fun _ => β)
      (bif Nat.beq k 0 then K (.node x .nil .nil) else bif Nat.beq (k % 2) 1 then ih .nil (k / 2) x (fun l => K (.node none l .nil)) else ih .nil (k / 2 - 1) x (fun r => K (.node none .nil r)))
      (fun v l r _ _ => bif Nat.beq k 0 then K (.node x l r) else bif Nat.beq (k % 2) 1 then ih l (k / 2) x (fun l => K (.node v l r)) else ih r (k / 2 - 1) x (fun r => K (.node v l r))) t) fuel
noncomputable def Trie.put (t : Trie α) (k : Nat) (x : Option α) : Trie α := Trie.putK (k + 1) t k x id
theorem Trie.putK_zero {β : Type} (t : Trie α) (k : Nat) (x : Option α) (K : Trie α → β) : Trie.putK 0 t k x K = K t := rfl
theorem Trie.putK_succ {β : Type} (f : Nat) (t : Trie α) (k : Nat) (x : Option α) (K : Trie α → β) : Trie.putK (f + 1) t k x K =
    bif Nat.beq k 0 then K (.node x t.parts.2.1 t.parts.2.2) else bif Nat.beq (k % 2) 1 then Trie.putK f t.parts.2.1 (k / 2) x (fun l => K (.node t.parts.1 l t.parts.2.2)) else Trie.putK f t.parts.2.2 (k / 2 - 1) x (fun r => K (.node t.parts.1 t.parts.2.1 r)) := by
  cases t <;> rfl
theorem Trie.putK_eq {β : Type} : ∀ (f : Nat) (t : Trie α) (k : Nat) (x : Option α) (K : Trie α → β), Trie.putK f t k x K = K (Trie.putK f t k x id) := by
  intro f
  induction f generalizing β with
  | zero => intros; rfl
  | succ f ih =>
    intro t k x K
    rw [Trie.putK_succ, Trie.putK_succ]
    cases Nat.beq k 0 <;> cases Nat.beq (k % 2) 1 <;> simp only [cond_true, cond_false, id]
    · exact (ih _ _ _ (fun r => K (.node t.parts.1 t.parts.2.1 r))).trans (congrArg K (ih (β := Trie α) _ _ _ (fun r => .node t.parts.1 t.parts.2.1 r)).symm)
    · exact (ih _ _ _ (fun l => K (.node t.parts.1 l t.parts.2.2))).trans (congrArg K (ih (β := Trie α) _ _ _ (fun l => .node t.parts.1 l t.parts.2.2)).symm)
theorem nbeq (a b : Nat) : Nat.beq a b = decide (a = b) := by
  by_cases h : a = b
  · subst h; rw [decide_eq_true rfl]; exact Nat.beq_refl a
  · rw [decide_eq_false h]
    cases e : Nat.beq a b with
    | false => rfl
    | true => exact absurd (Nat.eq_of_beq_eq_true e) h
theorem Trie.putK_get : ∀ (f : Nat) (t : Trie α) (k : Nat) (x : Option α) (j : Nat), k < f → (Trie.putK f t k x id).get j = bif Nat.beq j k then x else t.get j := by
  intro f
  induction f with
  | zero => intro t k x j h; exact absurd h (Nat.not_lt_zero _)
  | succ f ih =>
    intro t k x j hk
    rw [Trie.putK_succ, Trie.get_parts t j]
    simp only [nbeq]
    by_cases h0 : k = 0
    · subst h0
      simp only [decide_true, cond_true, id, Trie.get_node, nbeq]
      by_cases hj : j = 0 <;> simp [hj]
    · simp only [h0, decide_false, cond_false]
      by_cases h1 : k % 2 = 1
      · simp only [h1, decide_true, cond_true]
        rw [Trie.putK_eq f _ _ _ (fun l => id _)]
        simp only [id, Trie.get_node, nbeq]
        rw [ih _ _ _ _ (by omega), nbeq]
        by_cases hj : j = 0
        · subst hj; simp [Ne.symm h0]
        · by_cases hj1 : j % 2 = 1
          · simp only [hj, hj1, decide_false, decide_true, cond_true, cond_false]
            by_cases e : j = k
            · subst e; simp
            · have : j / 2 ≠ k / 2 := by omega
              simp [e, this]
          · have : j ≠ k := by omega
            simp [hj, hj1, this]
      · simp only [h1, decide_false, cond_false]
        rw [Trie.putK_eq f _ _ _ (fun r => id _)]
        simp only [id, Trie.get_node, nbeq]
        rw [ih _ _ _ _ (by omega), nbeq]
        by_cases hj : j = 0
        · subst hj; simp [Ne.symm h0]
        · by_cases hj1 : j % 2 = 1
          · have : j ≠ k := by omega
            simp [hj, hj1, this]
          · simp only [hj, hj1, decide_false, cond_false]
            by_cases e : j = k
            · subst e; simp
            · have : j / 2 - 1 ≠ k / 2 - 1 := by omega
              simp [e, this]
theorem Trie.get_put (t : Trie α) (k : Nat) (x : Option α) (j : Nat) : (t.put k x).get j = if j = k then x else t.get j := by
  rw [Trie.put, Trie.putK_get _ _ _ _ _ (Nat.lt_succ_self k)]
  by_cases h : j = k
  · subst h; simp
  · rw [if_neg h, nbeq, decide_eq_false h]; rfl
theorem Trie.putK_put {β : Type} (t : Trie α) (k : Nat) (x : Option α) (K : Trie α → β) : Trie.putK (k + 1) t k x K = K (t.put k x) := Trie.putK_eq _ _ _ _ _
end
end Go.Lg
