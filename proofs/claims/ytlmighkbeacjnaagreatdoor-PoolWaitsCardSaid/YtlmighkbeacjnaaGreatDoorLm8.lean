/- The evaluator: regions, code, calls. -/
import Derived.Test.YtlmighkbeacjnaaGreatDoorLm7

set_option linter.unusedSimpArgs false
set_option linter.unusedSectionVars false
namespace Go.Lg
open Go
variable [GO]
set_option linter.unusedVariables false
structure S where
  tm : Trie AV
  h : Trie EB
  n : Nat
  df : List Nat
noncomputable def S.st (s : S) : St := ⟨tmF s.tm, hF s.h, s.n, s.df⟩
structure O where
  e : AEx
  s : S
structure CO where
  r : AR
  h : Trie EB
  n : Nat
/-- What is asked of the rest of the program. -/
inductive Rq where
  | fn (g : FuncId) (args : List AV)
  | yd (id : Nat) (args : List AV)
abbrev Ask := Rq → Trie EB → Nat → Option (List CO)
/-- What the program is to the evaluator. -/
structure Env where
  T : TT
  eq : TypeId → Bool
  F : FuncId → Option Func
  sm : FuncId → List AV → Option AV
  fuel : Nat
  fz : FuncId → Bool
  fa : FuncId → Bool
  ex : FuncId → List AV → Trie EB → Nat → Option (List CO)
section
variable (ev : Env) (ask : Ask)
/-! functions with a deferred closure -/
end
end Go.Lg


