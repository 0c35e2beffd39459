/- The evaluator: regions, code, calls. -/
import Derived.Test.YtlmighkbeacjnaaGreatDoorLm7

set_option linter.unusedSimpArgs false
set_option linter.unusedSectionVars false
namespace Go.Lg
open Go
variable [GO]
set_option linter.unusedVariables false
structure S where
  tm : Trie AV
  h : Trie EB
  n : Nat
  df : List Nat
noncomputable def S.st (s : S) : St := ⟨tmF s.tm, hF s.h, s.n, s.df⟩
structure O where
  e : AEx
  s : S
structure CO where
  r : AR
  h : Trie EB
  n : Nat
/-- What is asked of the rest of the program. -/
inductive Rq where
  | fn (g : FuncId) (args : List AV)
  | yd (id : Nat) (args : List AV)
abbrev Ask := Rq → Trie EB → Nat → Option (List CO)
def bindL {α β : Type} : List α → (α → Option (List β)) → Option (List β)
  | [], _ => some []
  | a :: l, f => match l with
    | [] => f a
    | b :: l' => match f a, bindL (b :: l') f with
      | some x, some y => some (x ++ y)
      | _, _ => none
/-- What the program is to the evaluator. -/
structure Env where
  T : TT
  eq : TypeId → Bool
  F : FuncId → Option Func
  sm : FuncId → List AV → Option AV
  fuel : Nat
  fz : FuncId → Bool
  fa : FuncId → Bool
  ex : FuncId → List AV → Trie EB → Nat → Option (List CO)
noncomputable def gd (all : List Oper) (g : Option (Nat × Bool)) (tm : Trie AV) : Option Bool :=
  match g with
  | none => some true
  | some (j, want) => match gslot all j with
    | some t => match tmF tm t with
      | .bool c => some (c == want)
      | .tuple [] => some false
      | _ => none
    | none => none
noncomputable def putD {β : Type} (N : Nat) (tm : Trie AV) (d : Option Tmp) (x : AV) (K : Trie AV → Option β) : Option β :=
  match d with
  | none => K tm
  | some d => if Nat.blt d N = true then Trie.putK (d + 1) tm d (some x) K else none
def dOk (N : Nat) (d : Option Tmp) : Bool := match d with
  | none => true
  | some d => Nat.blt d N
theorem dOk_sound {N : Nat} {d : Option Tmp} (h : dOk N d = true) : ∀ t, d = some t → t < N := by
  intro t ht; subst ht; exact Nat.le_of_ble_eq_true h
def callOf : Op → Option (Operand × List Operand)
  | .call { callee := .value f, args := as, .. } => some (f, as.toList)
  | _ => none
/-- A comparison with nil that isn't known. -/
noncomputable def nilU (T : TT) (tm : Nat → AV) (op : Op) : Bool :=
  match op with
  | .binOp op t x (.const (.slice none 0 0)) _ => match op with
    | .eql | .neq => match elemOf T t with
      | some _ => match evo tm x with
        | some .empty => true
        | some (.view []) => true
        | _ => false
      | none => false
    | _ => false
  | _ => false
noncomputable def evCall (ask : Ask) (tm : Nat → AV) (f : Operand) (as : List Operand) (h : Trie EB) (n : Nat) : Option (List CO) :=
  match evo tm f with
  | some (.func (.func g) first cap) => match evs tm as with
    | some xs => ask (.fn g (first ++ xs ++ cap)) h n
    | none => none
  | some (.yieldf id) => match evs tm as with
    | some xs => ask (.yd id xs) h n
    | none => none
  | _ => none
section
variable (ev : Env) (ask : Ask)
noncomputable def evL (N : Nat) (all rest : List Oper) : S → Option (List O) :=
  List.rec (motive := fun _ => S → Option (List O)) (fun s => some [⟨.normal, s⟩]) (fun o _ ih s =>
    match gd all o.guard s.tm with
    | none => none
    | some false => putD N s.tm o.dst (.tuple []) fun tm => ih ⟨tm, s.h, s.n, s.df⟩
    | some true => match callOf o.op with
      | some (f, as) => if dOk N o.dst = true then match evCall ask (tmF s.tm) f as s.h s.n with
        | some L => bindL L fun co => match co.r with
          | .ret x => putD N s.tm o.dst x fun tm => ih ⟨tm, co.h, co.n, s.df⟩
          | .panic x => some [⟨.panic x, ⟨s.tm, co.h, co.n, s.df⟩⟩]
        | none => none
        else none
      | none => match nilU ev.T (tmF s.tm) o.op with
        | true => match putD N s.tm o.dst (.bool true) fun tm => ih ⟨tm, s.h, s.n, s.df⟩ with
          | some x => match putD N s.tm o.dst (.bool false) fun tm => ih ⟨tm, s.h, s.n, s.df⟩ with
            | some y => some (x ++ y)
            | none => none
          | none => none
        | false => match eop ev.eq ev.T (tmF s.tm) (hF s.h) s.n o.op with
          | some r => fAV 9 r.1 fun x => r.2.tK s.h s.n fun h n => putD N s.tm o.dst x fun tm => ih ⟨tm, h, n, s.df⟩
          | none => match o.op with
            | .panic x => match evo (tmF s.tm) x with
              | some (.iface t y) => some [⟨.panic (.iface t y), s⟩]
              | _ => none
            | _ => none) rest
noncomputable def loopN (body : S → Option (List O)) (f : Nat) : S → Option (List O) :=
  Nat.rec (motive := fun _ => S → Option (List O)) (fun _ => none) (fun _ ih s => match body s with
    | some L => bindL L fun o => match o.e with
      | .normal => ih o.s
      | _ => some [o]
    | none => none) f
def isRE : Code → Option AEx
  | .ret => some .ret
  | .exit i => some (.exit i)
  | _ => none
noncomputable def evRange (rd : Bool) (N : Nat) (f : Operand) (ps : Array Tmp) (as bd : Code) (s : S) : Option (List O) :=
  match rd with
  | true => none
  | false => match evo (tmF s.tm) f with
    | some (.func (.func g) first cap) => match ask (.fn g (first ++ [.yieldf (s.n + 1)] ++ cap)) ((s.h.put s.n (some .deferred)).put (s.n + 1) (some (.loop g s.tm N ps as bd .ready none))) (s.n + 2) with
      | some L => bindL L fun co => match co.r with
        | .ret _ => match co.h.get (s.n + 1) with
          | some (.loop _ _ _ _ _ _ st pend) => match st with
            | .busy => none
            | _ => match pend with
              | none => some [⟨.normal, ⟨s.tm, co.h.put (s.n + 1) none, co.n, s.n :: s.df⟩⟩]
              | some c => match isRE c with
                | some e => some [⟨e, ⟨s.tm, co.h.put (s.n + 1) none, co.n, s.n :: s.df⟩⟩]
                | none => none
          | _ => none
        | .panic x => some [⟨.panic x, ⟨s.tm, co.h, co.n, s.n :: s.df⟩⟩]
      | none => none
    | _ => none
noncomputable def evC (evD : Nat → List Oper → S → Option (List O)) (rd : Bool) (N : Nat) (c : Code) : S → Option (List O) :=
  Code.rec (motive := fun _ => S → Option (List O))
    (fun s => some [⟨.normal, s⟩])
    (fun _ ops draw s => match draw with
      | false => evL ev ask N ops.toList ops.toList s
      | true => evD N ops.toList s)
    (fun _ _ iha ihb s => match iha s with
      | some L => bindL L fun o => match o.e with
        | .normal => ihb o.s
        | _ => some [o]
      | none => none)
    (fun c _ _ iha ihb s => match evo (tmF s.tm) c with
      | some (.bool b) => match b with
        | true => iha s
        | false => ihb s
      | _ => none)
    (fun id _ ih s => match ih s with
      | some L => bindL L fun o => match o.e with
        | .exit i => bif Nat.beq i id then some [⟨.normal, o.s⟩] else some [o]
        | _ => some [o]
      | none => none)
    (fun _ ih s => loopN ih ev.fuel s)
    (fun f ps as bd _ _ s => evRange ask rd N f ps as bd s)
    (fun id s => some [⟨.exit id, s⟩])
    (fun _ ih s => match ih s with
      | some L => bindL L fun o => match o.e with
        | .goto _ => none
        | _ => some [o]
      | none => none)
    (fun _ s => some [⟨.normal, s⟩])
    (fun l s => some [⟨.goto l, s⟩])
    (fun s => some [⟨.ret, s⟩])
    (fun _ _ => none) c
noncomputable def killT (h : Trie EB) : List Nat → Option (Trie EB)
  | [] => some h
  | id :: r => match h.get id with
    | some .deferred => killT (h.put id none) r
    | _ => none
noncomputable def setPT (tm : Trie AV) : List (Tmp × AV) → Trie AV
  | [] => tm
  | (t, x) :: r => setPT (tm.put t (some x)) r
noncomputable def ofArgs : Nat → List AV → Trie AV → Trie AV
  | _, [], t => t
  | i, x :: xs, t => ofArgs (i + 1) xs (t.put i (some x))
noncomputable def finO (fn : Func) (o : O) : Option (List CO) :=
  match o.e with
  | .normal | .ret => match killT o.s.h o.s.df with
    | some h => match resA ev.T ⟨tmF o.s.tm, hF h, o.s.n, []⟩ fn.results.toList with
      | some xs => fAV 9 (tup xs) fun x => some [⟨.ret x, h, o.s.n⟩]
      | none => none
    | none => none
  | .panic x => match killT o.s.h o.s.df with
    | some h => some [⟨.panic x, h, o.s.n⟩]
    | none => none
  | _ => none
/-! functions with a deferred closure -/
def recD : List Oper → Option Tmp
  | [⟨some d, .call { callee := .builtin .recover, args := ⟨[]⟩, .. }, _, _, _, none⟩] => some d
  | _ => none
noncomputable def evDC (evD : Nat → List Oper → S → Option (List O)) (g : FuncId) (cap : List AV) (pv : Option AV) (h : Trie EB) (n : Nat) : Option (List O) :=
  match ev.F g with
  | some fn => match fn.body with
    | some (.seq (.region _ ops false) rest) => match recD ops.toList with
      | some d => match fn.results.toList with
        | [] => if Nat.ble cap.length fn.ntmps = true then if Nat.blt d fn.ntmps = true then evC ev ask evD false fn.ntmps rest ⟨(ofArgs 0 cap .nil).put d (some (pvA pv)), h, n, []⟩ else none else none
        | _ => none
      | none => none
    | _ => none
  | none => none
noncomputable def finC (fn : Func) (tm : Trie AV) (r : Option (List O)) : Option (List CO) :=
  match r with
  | some L => bindL L fun o => match o.e with
    | .normal | .ret => match o.s.df with
      | [] => match resA ev.T ⟨tmF tm, hF o.s.h, o.s.n, []⟩ fn.results.toList with
        | some xs => fAV 9 (tup xs) fun x => some [⟨.ret x, o.s.h, o.s.n⟩]
        | none => none
      | _ => none
    | _ => none
  | none => none
noncomputable def finT (evD : Nat → List Oper → S → Option (List O)) (fn : Func) (dc : Option (FuncId × List AV)) (o : O) : Option (List CO) :=
  match dc with
  | none => finO ev fn o
  | some p => match o.e with
    | .normal | .ret => match killT o.s.h o.s.df with
      | some h => finC ev fn o.s.tm (evDC ev ask evD p.1 p.2 none h o.s.n)
      | none => none
    | .panic x => match killT o.s.h o.s.df with
      | some h => finC ev fn o.s.tm (evDC ev ask evD p.1 p.2 (some x) h o.s.n)
      | none => none
    | _ => none
def defOf : Op → Option Operand
  | .defer { callee := .value f, args := ⟨[]⟩, .. } => some f
  | _ => none
abbrev TK := S → Option (FuncId × List AV) → Option (List CO)
noncomputable def evTR (N : Nat) (all rest : List Oper) : S → Option (FuncId × List AV) → TK → Option (List CO) :=
  List.rec (motive := fun _ => S → Option (FuncId × List AV) → TK → Option (List CO)) (fun s dc K => K s dc) (fun o _ ih s dc K =>
    match gd all o.guard s.tm with
    | some true => match defOf o.op with
      | some fo => match dc with
        | none => match s.df with
          | [] => match evo (tmF s.tm) fo with
            | some (.func (.func g) [] cap) => match ev.F g with
              | some fg => match fg.body with
                | some _ => putD N s.tm o.dst (.tuple []) fun tm => ih ⟨tm, s.h, s.n, []⟩ (some (g, cap)) K
                | none => none
              | none => none
            | _ => none
          | _ => none
        | _ => none
      | none => match eop ev.eq ev.T (tmF s.tm) (hF s.h) s.n o.op with
        | some r => fAV 9 r.1 fun x => r.2.tK s.h s.n fun h n => putD N s.tm o.dst x fun tm => ih ⟨tm, h, n, s.df⟩ dc K
        | none => none
    | _ => none) rest
def isDef : Op → Bool
  | .defer _ => true
  | _ => false
def hasDef : Code → Bool
  | .region _ ops _ => ops.toList.any fun o => isDef o.op
  | .seq a b => hasDef a || hasDef b
  | _ => false
noncomputable def evP (evD : Nat → List Oper → S → Option (List O)) (fn : Func) (c : Code) (s : S) (dc : Option (FuncId × List AV)) (K : TK) : Option (List CO) :=
  match evC ev ask evD false fn.ntmps c s with
  | some L => bindL L fun o => match o.e with
    | .normal => K o.s dc
    | _ => finT ev ask evD fn dc o
  | none => none
noncomputable def evT (evD : Nat → List Oper → S → Option (List O)) (fn : Func) (c : Code) : S → Option (FuncId × List AV) → TK → Option (List CO) :=
  Code.rec (motive := fun _ => S → Option (FuncId × List AV) → TK → Option (List CO))
    (fun s dc K => evP ev ask evD fn .skip s dc K)
    (fun id ops draw s dc K => match draw with
      | false => match ops.toList.any fun o => isDef o.op with
        | true => evTR ev fn.ntmps ops.toList ops.toList s dc K
        | false => evP ev ask evD fn (.region id ops false) s dc K
      | true => evP ev ask evD fn (.region id ops true) s dc K)
    (fun _ _ iha ihb s dc K => iha s dc fun s dc => ihb s dc K)
    (fun c x y _ _ s dc K => evP ev ask evD fn (.cond c x y) s dc K)
    (fun id c _ s dc K => evP ev ask evD fn (.block id c) s dc K)
    (fun c _ s dc K => evP ev ask evD fn (.loop c) s dc K)
    (fun f ps as bd _ _ s dc K => evP ev ask evD fn (.rangeFunc f ps as bd) s dc K)
    (fun id s dc K => evP ev ask evD fn (.exit id) s dc K)
    (fun c _ s dc K => evP ev ask evD fn (.scope c) s dc K)
    (fun l s dc K => evP ev ask evD fn (.label l) s dc K)
    (fun l s dc K => evP ev ask evD fn (.goto l) s dc K)
    (fun s dc K => evP ev ask evD fn .ret s dc K)
    (fun why s dc K => evP ev ask evD fn (.refuse why) s dc K) c
noncomputable def evF (evD : Nat → List Oper → S → Option (List O)) (g : FuncId) (args : List AV) (h : Trie EB) (n : Nat) : Option (List CO) :=
  match ev.ex g args h n with
  | some L => some L
  | none => match ev.sm g args with
  | some y => some [⟨.ret y, h, n⟩]
  | none => match ev.F g with
    | some fn => match fn.body with
      | some c => if Nat.ble args.length fn.ntmps = true then match hasDef c with
        | false => match evC ev ask evD false fn.ntmps c ⟨ofArgs 0 args .nil, h, n, []⟩ with
          | some L => bindL L (finO ev fn)
          | none => none
        | true => evT ev ask evD fn c ⟨ofArgs 0 args .nil, h, n, []⟩ none fun s dc => finT ev ask evD fn dc ⟨.normal, s⟩
        else none
      | none => none
    | none => none
noncomputable def finY (id : Nat) (o : O) : Option (List CO) :=
  match o.s.df with
  | [] => match o.e with
    | .panic x => some [⟨.panic x, o.s.h, o.s.n⟩]
    | e => match o.s.h.get id with
    | some (.loop g tm N ps as bd _ _) => match e with
      | .normal => some [⟨.ret (.bool true), o.s.h.put id (some (.loop g tm N ps as bd .ready none)), o.s.n⟩]
      | .ret => some [⟨.ret (.bool false), o.s.h.put id (some (.loop g tm N ps as bd .done (some .ret))), o.s.n⟩]
      | .exit i => some [⟨.ret (.bool false), o.s.h.put id (some (.loop g tm N ps as bd .done (some (.exit i)))), o.s.n⟩]
      | _ => none
    | _ => none
  | _ => none
noncomputable def evY (evD : Nat → List Oper → S → Option (List O)) (id : Nat) (args : List AV) (h : Trie EB) (n : Nat) : Option (List CO) :=
  match h.get id with
  | some (.loop g tm N ps as bd st pend) => match st with
    | .ready => if Nat.beq args.length ps.size = true then if (ps.toList.all fun t => Nat.blt t N) = true then match evC ev ask evD true N as ⟨setPT tm (ps.toList.zip args), h, n, []⟩ with
      | some L => bindL L fun o => match o.e with
        | .normal => match o.s.df with
          | [] => match o.s.h.get id with
            | some (.loop g1 tm1 N1 ps1 as1 bd1 st1 pend1) => match st1 with
              | .ready => match evC ev ask evD true N bd ⟨o.s.tm, o.s.h.put id (some (.loop g1 tm1 N1 ps1 as1 bd1 .busy pend1)), o.s.n, []⟩ with
                | some L => bindL L (finY id)
                | none => none
              | _ => none
            | _ => none
          | _ => none
        | _ => none
      | none => none
      else none else none
    | _ => none
  | _ => none
end
end Go.Lg


