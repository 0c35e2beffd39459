/- Maps of own memory whose keys are structs of whole numbers: by the kit's law of such keys. -/
import Derived.Test.YtlmighkbeacjnaaGreatDoorLm6
import Derived.DeepKeys3
import Derived.Laws.IdiomStrings

set_option linter.unusedVariables false
set_option linter.unusedSimpArgs false
set_option linter.unusedSectionVars false
namespace Go.Lg
open Go
section
variable {P : Program} {T : TT} (hT : TOK P T) {N : Nat} {o : Oper} {σ : St}
include hT
end
/-! which keys are told -/
/-- A type of keys that the evaluator may take. -/
structure KeyOK (P : Program) (t : TypeId) : Prop where
  law : WideMaps.KeyLaw P t
  kt : P.keyType t = true
  sz : 4 ≤ P.types.size + 1
/-- Where the evaluator's table of comparable types tells of keys. -/
def keyBase : Nat := 1000000
def EqOK (P : Program) (eq : TypeId → Bool) : Prop := ∀ t, eq t = true → (P.stoodInHeld t = false ∧ P.eqGuardType P.depth t = false) ∧ ∀ t', t = keyBase + t' → KeyOK P t'
end Go.Lg

/- Texts told as bytes. -/
set_option linter.unusedVariables false
set_option linter.unusedSimpArgs false
set_option linter.unusedSectionVars false
namespace Go.Lg
open Go
end Go.Lg

/- Binary tries with natural numbers as keys. -/
set_option linter.unusedVariables false
set_option linter.unusedSimpArgs false
set_option linter.unusedSectionVars false
namespace Go.Lg
open Go
/-- A trie: the key 0 at the root, odd keys on the left, even ones on the right. -/
inductive Trie (α : Type) where
  | nil
  | node (v : Option α) (l r : Trie α)
section
variable {α : Type}
noncomputable def Trie.get (t : Trie α) : Nat → Option α :=
  Trie.rec (motive := fun _ => Nat → Option α) (fun _ => none) (fun v _ _ gl gr k => bif Nat.beq k 0 then v else bif Nat.beq (k % 2) 1 then gl (k / 2) else gr (k / 2 - 1)) t
def Trie.parts (t : Trie α) : Option α × Trie α × Trie α := match t with
  | .nil => (none, .nil, .nil)
  | .node v l r => (v, l, r)
/-- Put, with the rest of the work behind it (so that the kernel has the trie in its last form). -/
noncomputable def Trie.putK {β : Type} (fuel : Nat) : Trie α → Nat → Option α → (Trie α → β) → β :=
  Nat.rec (motive := fun _ => Trie α → Nat → Option α → (Trie α → β) → β)
    (fun t _ _ K => K t)
    (fun _ ih t k x K => Trie.rec (motive := fun _ => β)
      (bif Nat.beq k 0 then K (.node x .nil .nil) else bif Nat.beq (k % 2) 1 then ih .nil (k / 2) x (fun l => K (.node none l .nil)) else ih .nil (k / 2 - 1) x (fun r => K (.node none .nil r)))
      (fun v l r _ _ => bif Nat.beq k 0 then K (.node x l r) else bif Nat.beq (k % 2) 1 then ih l (k / 2) x (fun l => K (.node v l r)) else ih r (k / 2 - 1) x (fun r => K (.node v l r))) t) fuel
noncomputable def Trie.put (t : Trie α) (k : Nat) (x : Option α) : Trie α := Trie.putK (k + 1) t k x id
end
end Go.Lg

/- One operation, run: its value and what it does to own memory, by a function. -/
set_option linter.unusedSimpArgs false
set_option linter.unusedSectionVars false
namespace Go.Lg
open Go
set_option linter.unusedVariables false
/-- Blocks as data. -/
inductive EB where
  | cells (cs : List AV) (e : TypeId)
  | map (es : List (AV × AV))
  | loop (g : FuncId) (tm : Trie AV) (N : Nat) (params : Array Tmp) (assign body : Code) (state : LoopState) (pending : Option Code)
  | deferred
  | glob (b : Nat)
/-- The objects that package variables are laid in. -/
class GO where
  o : Nat → Obj
variable [GO]
noncomputable def tmF (t : Trie AV) : Nat → AV := fun i => match t.get i with
  | some x => x
  | none => .tuple []
noncomputable def EB.toBlk : EB → Blk
  | .cells cs e => .cells cs e
  | .map es => .map es
  | .loop _ tm N ps a b s p => .loop ⟨tmF tm, N, ps, a, b, s, p⟩
  | .deferred => .deferred
  | .glob b => .glob b (GO.o b)
noncomputable def hF (t : Trie EB) : Heap := fun i => match t.get i with
  | some b => some b.toBlk
  | none => none
/-! the last form of a value -/
section force
variable {β : Type}
end force

/-! the operations -/
end Go.Lg

/- One operation, run: appends. -/
set_option linter.unusedSimpArgs false
set_option linter.unusedSectionVars false
namespace Go.Lg
open Go
variable [GO]
set_option linter.unusedVariables false
section
variable {P : Program} {T : TT} (hT : TOK P T) {N : Nat} {o : Oper} {tm : Nat → AV} {h : Heap} {n : Nat} {df : List Nat}
include hT in
include hT in
include hT in
include hT in
include hT in
end
end Go.Lg

/- One operation, run: that the machine does so. -/
set_option linter.unusedSimpArgs false
set_option linter.unusedSectionVars false
namespace Go.Lg
open Go
variable [GO]
set_option linter.unusedVariables false
section
variable {P : Program} {T : TT} (hT : TOK P T) {eq : TypeId → Bool} (heq : EqOK P eq) {N : Nat} {o : Oper} {tm : Nat → AV} {h : Heap} {n : Nat} {df : List Nat}
include hT in
include hT in
include hT in
include hT heq in
include hT in
include hT in
include hT in
include hT in
include hT in
include hT in
include hT heq in
include hT heq in
include hT heq in
include hT in
include hT heq in
end
end Go.Lg

/- Evaluator: functions that end by marks or by a panic; rounds; a panic's rule. -/
set_option linter.unusedVariables false
set_option linter.unusedSimpArgs false
set_option linter.unusedSectionVars false
namespace Go.Lg
open Go
variable [GO]
/-- What a call of a loop's yield comes to; a panic in its round is one of its ends. -/
def YX (P : Program) (id : Nat) (args : List AV) (H : Heap) (n : Nat) (R : AR → Heap → Nat → Prop) : Prop :=
  ∀ K vs, K.next = n → Rel K H → VRs K args vs.toList → ∃ f tmps as bd, (Instr.yield (K.base id) vs).run P K.w = .ok (.round (K.base id) f tmps as bd) K.w ∧
    ∀ c cs, ∃ r K' H', Rel K' H' ∧ Step K H K' H' ∧ R r H' K'.next ∧ match r with
      | .ret x => ∃ b, x = .bool b ∧ Steps P (lone (Frame.round (K.base id) f tmps as bd .normal) (c :: cs) K.w) (lone (c.finish (.bool b)) cs K'.w)
      | .panic x => ∃ v, VR K' x v ∧ Steps P (lone (Frame.round (K.base id) f tmps as bd .normal) (c :: cs) K.w) (lone (c.raise [{ v, recovered := false }]) cs K'.w)
end Go.Lg

/- Functions with one deferred call of a closure that recovers. -/
set_option linter.unusedSimpArgs false
set_option linter.unusedSectionVars false
namespace Go.Lg
open Go
variable [GO]
set_option linter.unusedVariables false
/-! the function's code, item by item -/
section
variable {P : Program} {f : FuncId} {fn : Func} {Q : AR → Heap → Nat → Prop} {dc : Option (FuncId × List AV)} {todo : List Item} {σ : St} (hf : P.funcs[f]? = some fn)
include hf
end
end Go.Lg


