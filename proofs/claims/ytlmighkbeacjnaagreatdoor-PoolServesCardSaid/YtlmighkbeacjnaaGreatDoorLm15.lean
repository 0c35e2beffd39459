/- The evaluator's tables. -/
import Derived.Test.YtlmighkbeacjnaaGreatDoorLm14

set_option linter.unusedVariables false
set_option linter.unusedSimpArgs false
set_option linter.unusedSectionVars false
namespace Go.Lg
open Go
variable [GO]
def Trie.AllP {α : Type} (p : Nat → α → Prop) : (Nat → Nat) → Trie α → Prop
  | _, .nil => True
  | f, .node v l r => (match v with
    | some x => p (f 0) x
    | none => True) ∧ AllP p (fun k => f (2 * k + 1)) l ∧ AllP p (fun k => f (2 * k + 2)) r
theorem Trie.AllP.get {α : Type} {p : Nat → α → Prop} : ∀ {t : Trie α} {f : Nat → Nat}, AllP p f t → ∀ {k : Nat} {x : α}, t.get k = some x → p (f k) x
  | .nil, _, _, _, _, e => by cases e
  | .node v l r, f, h, k, x, e => by
    rw [Trie.get_node, nbeq, nbeq] at e
    obtain ⟨h1, h2, h3⟩ := h
    by_cases h0 : k = 0
    · subst h0
      simp only [decide_true, cond_true] at e
      subst e
      exact h1
    · simp only [h0, decide_false, cond_false] at e
      by_cases hm : k % 2 = 1
      · simp only [hm, decide_true, cond_true] at e
        have := h2.get e
        rwa [show 2 * (k / 2) + 1 = k by omega] at this
      · simp only [hm, decide_false, cond_false] at e
        have := h3.get e
        rwa [show 2 * (k / 2 - 1) + 2 = k by omega] at this
theorem Trie.AllP.at_ {α : Type} {p : Nat → α → Prop} {t : Trie α} (h : AllP p (fun k => k) t) {k : Nat} {x : α} (e : t.get k = some x) : p k x := h.get e
theorem TOK.part {P : Program} {T T' : TT} (h : TOK P T) (hs : ∀ t i, T' t = some i → T t = some i) : TOK P T' :=
  ⟨fun t i e => h.und t i (hs t i e), fun t i e => h.info t i (hs t i e), fun t i e => h.nagg t i (hs t i e)⟩
noncomputable def inE (t : Trie Bool) (k : Nat) : Bool := match t.get k with
  | some _ => true
  | none => false
theorem inE_ok {p : Nat → Prop} {t : Trie Bool} (h : Trie.AllP (fun k _ => p k) (fun k => k) t) {k : Nat} (e : inE t k = true) : p k := by
  unfold inE at e
  split at e
  · rename_i b hb; exact h.at_ hb
  · cases e
/-- Functions that give nothing for nothing. -/
noncomputable def smN (t : Trie Bool) (g : FuncId) (args : List AV) : Option AV := match t.get g with
  | some _ => match args with
    | [.empty] => some .empty
    | _ => none
  | none => none
theorem smN_ok {P : Program} {t : Trie Bool} (h : Trie.AllP (fun g _ => PF P g [.empty] (fun r => r = .empty)) (fun k => k) t) : ∀ g args y, smN t g args = some y → PF P g args (fun r => r = y) := by
  intro g args y e
  unfold smN at e
  split at e
  · rename_i b hb
    split at e
    · cases e; exact h.at_ hb
    · cases e
  · cases e
theorem pur_empty1 : ∀ x, x ∈ [AV.empty] → Pur x := fun _ h => by rcases List.mem_singleton.1 h with rfl; exact .empty
/-! known answers -/
noncomputable def lookK (T : List (FuncId × List AV × AV)) (g : FuncId) (args : List AV) : Option AV :=
  List.rec (motive := fun _ => Option AV) none (fun p _ ih => bif Nat.beq p.1 g && eqL (eqAV 9) p.2.1 args then some p.2.2 else ih) T
theorem pur_args {l : List AV} (h : l.all (purB 9) = true) : ∀ x, x ∈ l → Pur x := fun x hx => purB_sound 9 x (List.all_eq_true.1 h x hx)
theorem pur_of {x : AV} (h : purB 9 x = true) : Pur x := purB_sound 9 x h
theorem noKey {t t' : Nat} {p : Prop} (ht : Nat.blt t keyBase = true) (h : t = keyBase + t') : p := by
  have := Nat.le_of_ble_eq_true ht
  omega
end Go.Lg


