/- Calls that go by package variables: known answers, the top. -/
import Derived.Test.YtlmighkbeacjnaaGreatDoorLm15
import Derived.Test.YtlmighkbeacjnaaGreatDoorLm3

set_option linter.unusedVariables false
set_option linter.unusedSimpArgs false
set_option linter.unusedSectionVars false
namespace Go.Lg
open Go Go.RowKit
section
variable [GO]
/-- The first package variable, and no more. -/
noncomputable def base0 : Trie EB := .node (some (.glob 0)) .nil .nil
theorem base0_only {id : Nat} {b : Blk} (e : hF base0 id = some b) : id = 0 ∧ b = .glob 0 (GO.o 0) := by
  by_cases hi : id = 0
  · subst hi
    have e : some (Blk.glob 0 (GO.o 0)) = some b := e
    cases e
    exact ⟨rfl, rfl⟩
  · have : base0.get id = none := by
      show Trie.get (.node _ .nil .nil) id = none
      rw [Trie.get_node, nbeq, decide_eq_false hi]
      cases Nat.beq (id % 2) 1 <;> rfl
    simp only [hF, this] at e
    cases e
theorem base0_zero : hF base0 0 = some (.glob 0 (GO.o 0)) := rfl
/-- A function's answer, the package variables given. -/
structure PG (P : Program) (g : FuncId) (args : List AV) (y : AV) : Prop where
  cal : Callable P g
  pur : Pur y
  apur : ∀ x, x ∈ args → Pur x
  run : AC P g args (hF base0) 1 fun r H' n' => r = .ret y ∧ H' = hF base0 ∧ n' = 1
noncomputable def runsG (ev : Env) (fuel : Nat) (g : FuncId) (args : List AV) (y : AV) : Bool :=
  purB 9 y && (args.all (purB 9) && match evR ev fuel (.fn g args) base0 1 with
    | some L => L.all (fzO 1 base0 y)
    | none => false)
theorem pg_of_ev {P : Program} {ev : Env} (hv : EnvOK P ev) (hmx : P.follows .mixedOrders = true) {fuel : Nat} {g : FuncId} {args : List AV} {y : AV} (h : runsG ev fuel g args y = true) : PG P g args y := by
  obtain ⟨h1, h2⟩ := Bool.and_eq_true_iff.1 h
  obtain ⟨h2, h3⟩ := Bool.and_eq_true_iff.1 h2
  split at h3
  · rename_i L hL
    obtain ⟨g1, g2⟩ := evR_ok hv hmx fuel _ _ _ _ hL
    exact ⟨g1, pur_of h1, pur_args h2, ac_fzL (pur_of h1) g2 (List.all_eq_true.1 h3)⟩
  · cases h3
def KG (P : Program) (T : List (FuncId × List AV × AV)) : Prop := ∀ p, p ∈ T → PG P p.1 p.2.1 p.2.2
theorem kg_nil {P : Program} : KG P [] := fun _ h => by cases h
theorem kg_cons {P : Program} {g : FuncId} {a : List AV} {y : AV} {T : List (FuncId × List AV × AV)} (h : PG P g a y) (hs : KG P T) : KG P ((g, a, y) :: T) := fun p hp => by
  rcases List.mem_cons.1 hp with rfl | hp
  · exact h
  · exact hs p hp
theorem lookG_ok {P : Program} : ∀ {T : List (FuncId × List AV × AV)} {g : FuncId} {args : List AV} {y : AV}, KG P T → lookK T g args = some y → PG P g args y
  | [], _, _, _, _, e => by cases e
  | p :: T, g, args, y, h, e => by
    replace e : (bif Nat.beq p.1 g && eqL (eqAV 9) p.2.1 args then some p.2.2 else lookK T g args) = some y := e
    cases hb : Nat.beq p.1 g && eqL (eqAV 9) p.2.1 args with
    | true =>
      rw [hb] at e
      simp only [cond_true, Option.some.injEq] at e
      obtain ⟨h1, h2⟩ := Bool.and_eq_true_iff.1 hb
      have := h p (List.mem_cons_self ..)
      rw [Nat.eq_of_beq_eq_true h1, eqL_sound (eqAV_sound 9) _ _ h2, e] at this
      exact this
    | false =>
      rw [hb] at e
      exact lookG_ok (fun q hq => h q (List.mem_cons_of_mem _ hq)) e
/-- Known answers beside what else is known. -/
noncomputable def exG (T : List (FuncId × List AV × AV)) (ex : FuncId → List AV → Trie EB → Nat → Option (List CO)) (g : FuncId) (args : List AV) (h : Trie EB) (n : Nat) : Option (List CO) :=
  match h.get 0 with
  | some (.glob b) => match Nat.beq b 0 && Nat.ble 1 n with
    | true => match lookK T g args with
      | some y => some [⟨.ret y, h, n⟩]
      | none => ex g args h n
    | false => ex g args h n
  | _ => ex g args h n
theorem exG_ok {P : Program} {T : List (FuncId × List AV × AV)} {ex : FuncId → List AV → Trie EB → Nat → Option (List CO)} (hT : KG P T) (hex : ∀ g args h n L, ex g args h n = some L → Callable P g ∧ AC P g args (hF h) n (COut L)) : ∀ g args h n L, exG T ex g args h n = some L → Callable P g ∧ AC P g args (hF h) n (COut L) := by
  intro g args h n L e
  unfold exG at e
  split at e
  · rename_i b hb
    split at e
    · rename_i hc
      obtain ⟨c1, c2⟩ := Bool.and_eq_true_iff.1 hc
      obtain rfl := Nat.eq_of_beq_eq_true c1
      split at e
      · rename_i y hy
        cases e
        have hp := lookG_ok hT hy
        refine ⟨hp.cal, (ac_base hp.pur hp.apur hp.run (fun id b e => ?_) (Nat.le_of_ble_eq_true c2)).mono fun r H' n' ⟨h1, h2, h3⟩ => ⟨_, List.mem_singleton.2 rfl, h1, h2, h3⟩⟩
        obtain ⟨rfl, rfl⟩ := base0_only e
        exact ⟨by simp only [hF, hb, EB.toBlk], Nat.zero_lt_one, _, _, rfl⟩
      · exact hex _ _ _ _ _ e
    · exact hex _ _ _ _ _ e
  · exact hex _ _ _ _ _ e
end
end Go.Lg


