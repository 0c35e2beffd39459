/- The machine layer of this session's logic: one frame's code, run from whatever stack, in a normal frame or in a round of a range over a function. -/
import Derived.Calls
set_option linter.unusedVariables false
set_option linter.unusedSimpArgs false
set_option linter.unusedSectionVars false
namespace Go.Lg
open Go

structure Fb where
  fn : FuncId
  kind : CallKind
  round : Option Nat
  /-- The deferred calls that lie beneath the frame's own marks. -/
  dt : List Deferred := []

def Fb.fr (b : Fb) (a : Act) (todo : List Item) : Frame :=
  { fn := b.fn, tmps := a.tmps, todo, defers := a.defers ++ b.dt, mode := .run, kind := b.kind, roundOf := b.round }

theorem eval_fr (b : Fb) (a : Act) (todo : List Item) : (b.fr a todo).eval = a.eval := by
  funext x; cases x <;> rfl

section moves
variable {P : Program} {b : Fb} {a : Act} {k : List Item} {cs : List Frame} {w : World}
theorem st_skip : step P (lone (b.fr a (.code .skip :: k)) cs w) = .next (lone (b.fr a k) cs w) :=
  step_lone_go (by simp [stepG, stepG.exec, Fb.fr])
theorem st_label {l : Nat} : step P (lone (b.fr a (.code (.label l) :: k)) cs w) = .next (lone (b.fr a k) cs w) :=
  step_lone_go (by simp [stepG, stepG.exec, Fb.fr])
theorem st_inBlock {id : Nat} : step P (lone (b.fr a (.inBlock id :: k)) cs w) = .next (lone (b.fr a k) cs w) :=
  step_lone_go (by simp [stepG, stepG.exec, Fb.fr])
theorem st_inScope {c : Code} : step P (lone (b.fr a (.inScope c :: k)) cs w) = .next (lone (b.fr a k) cs w) :=
  step_lone_go (by simp [stepG, stepG.exec, Fb.fr])
theorem st_seq {x y : Code} : step P (lone (b.fr a (.code (.seq x y) :: k)) cs w) = .next (lone (b.fr a (.code x :: .code y :: k)) cs w) :=
  step_lone_go (by simp [stepG, stepG.exec, Fb.fr])
theorem st_cond {c : Operand} {x y : Code} {t : Bool} (h : a.eval c = .bool t) :
    step P (lone (b.fr a (.code (.cond c x y) :: k)) cs w) = .next (lone (b.fr a (.code (if t then x else y) :: k)) cs w) :=
  step_lone_go (by
    have := congrFun (eval_fr b a (.code (.cond c x y) :: k)) c
    simp only [Fb.fr] at this
    simp [stepG, stepG.exec, Fb.fr, this, h])
theorem st_block {id : Nat} {c : Code} : step P (lone (b.fr a (.code (.block id c) :: k)) cs w) = .next (lone (b.fr a (.code c :: .inBlock id :: k)) cs w) :=
  step_lone_go (by simp [stepG, stepG.exec, Fb.fr])
theorem st_scope {c : Code} : step P (lone (b.fr a (.code (.scope c) :: k)) cs w) = .next (lone (b.fr a (.code c :: .inScope c :: k)) cs w) :=
  step_lone_go (by simp [stepG, stepG.exec, Fb.fr])
theorem st_loop {c : Code} : step P (lone (b.fr a (.code (.loop c) :: k)) cs w) = .next (lone (b.fr a (.code c :: .inLoop c :: k)) cs w) :=
  step_lone_go (by simp [stepG, stepG.exec, Fb.fr])
theorem st_inLoop {c : Code} : step P (lone (b.fr a (.inLoop c :: k)) cs w) = .next (lone (b.fr a (.code c :: .inLoop c :: k)) cs w) :=
  step_lone_go (by simp [stepG, stepG.exec, Fb.fr])
theorem st_exit {id : Nat} {k' : List Item} (h : exitTo id k = some k') :
    step P (lone (b.fr a (.code (.exit id) :: k)) cs w) = .next (lone (b.fr a k') cs w) :=
  step_lone_go (by simp [stepG, stepG.exec, Fb.fr, h])
theorem st_goto {l : Nat} {k' : List Item} (h : gotoIn l k = some k') :
    step P (lone (b.fr a (.code (.goto l) :: k)) cs w) = .next (lone (b.fr a k') cs w) :=
  step_lone_go (by simp [stepG, stepG.exec, Fb.fr, h])
theorem st_region {id : Nat} {ops : Array Oper} :
    step P (lone (b.fr a (.code (.region id ops false) :: k)) cs w) = .next (lone (b.fr a (.inRegion ops (List.range ops.size) :: k)) cs w) :=
  step_lone_go (by simp [stepG, stepG.exec, Fb.fr])
theorem st_region_draw {id : Nat} {ops : Array Oper} :
    step P (lone (b.fr a (.code (.region id ops true) :: k)) cs w) =
      .next (lone (b.fr a (.inRegion ops (Region.schedule (P.follows .mixedOrders) ops (w.tape w.drawn (.order b.fn id))) :: k)) cs { w with drawn := w.drawn + 1 }) :=
  step_lone_go (by simp [stepG, stepG.exec, Fb.fr, choose, Sem.run, Question.forced, Question.cut])
theorem st_region_end {ops : Array Oper} : step P (lone (b.fr a (.inRegion ops [] :: k)) cs w) = .next (lone (b.fr a k) cs w) :=
  step_lone_go (by simp [stepG, stepG.exec, Fb.fr])
theorem finish_fr (ops : Array Oper) (i : Nat) (rest : List Nat) (v : Value) :
    (b.fr a (.inRegion ops (i :: rest) :: k)).finish v = b.fr (a.put ((ops[i]?).bind (·.dst)) v) (.inRegion ops rest :: k) := by
  cases h : (ops[i]?).bind (·.dst) <;> simp [Frame.finish, Fb.fr, Act.put, h]
theorem st_op_skip {ops : Array Oper} {i : Nat} {rest : List Nat} (h : ((ops[i]?).map (Region.wanted · (yielded ops a.tmps))).getD false = false) :
    step P (lone (b.fr a (.inRegion ops (i :: rest) :: k)) cs w) =
      .next (lone (b.fr (a.put ((ops[i]?).bind (·.dst)) undef) (.inRegion ops rest :: k)) cs w) := by
  rw [← finish_fr]
  exact step_lone_go (by
    have h' := h
    simp only [Fb.fr] at *
    simp [stepG, stepG.exec, h'])
/-- An operation that is carried out (no 'defer' statement). -/
theorem stG_op {ops : Array Oper} {i : Nat} {rest : List Nat} {o : Oper} (ho : ops[i]? = some o) (hw : Region.wanted o (yielded ops a.tmps) = true)
    (hd : b.round = none ∨ ∀ c, o.op ≠ .defer c) :
    stepG P true { frame := b.fr a (.inRegion ops (i :: rest) :: k), callers := cs, status := .running, dying := none } w =
      stepG.apply P true (b.fr a (.inRegion ops (i :: rest) :: k)) cs none (execOp a.eval o) w := by
  have he := eval_fr b a (.inRegion ops (i :: rest) :: k)
  simp only [Fb.fr] at he
  rcases hb : b.round with _ | l
  · simp [stepG, stepG.exec, stepG.oper, Frame.oper?, Fb.fr, ho, hw, hb] 
    rw [hb] at he; rw [he]
  · have hd' : ∀ c, o.op ≠ .defer c := hd.resolve_left (by simp [hb])
    rw [hb] at he
    cases hop : o.op <;> first | exact absurd hop (hd' _) | simp [stepG, stepG.exec, stepG.oper, Frame.oper?, Fb.fr, ho, hw, hb, hop, he]
end moves

inductive Ex where
  | normal
  | exit (id : Nat)
  | goto (l : Nat)
  | ret
  | panic (v : Value)

/-- No call of the machine's own is under way. -/
def noCall : List Item → Bool
  | .call _ _ _ _ :: _ => false
  | _ => true
def Arr (P : Program) (m : Machine) (b : Fb) (k : List Item) (cs : List Frame) : Ex → Act → World → Prop
  | .normal, a, w => Steps P m (lone (b.fr a k) cs w)
  | .exit id, a, w => ∃ k1, exitTo id k1 = exitTo id k ∧ Steps P m (lone (b.fr a (.code (.exit id) :: k1)) cs w)
  | .goto l, a, w => ∃ k1, gotoIn l k1 = gotoIn l k ∧ Steps P m (lone (b.fr a (.code (.goto l) :: k1)) cs w)
  | .ret, a, w => ∃ k1, Steps P m (lone (b.fr a (.code .ret :: k1)) cs w)
  | .panic v, a, w => ∃ todo, noCall todo = true ∧ Steps P m (lone { b.fr a todo with mode := .panicking [{ v, recovered := false }] } cs w)

theorem Arr.of_steps {P : Program} {m m₁ : Machine} {b : Fb} {k : List Item} {cs : List Frame} {e : Ex} {a : Act} {w : World}
    (h : Steps P m m₁) (h' : Arr P m₁ b k cs e a w) : Arr P m b k cs e a w := by
  cases e with
  | normal => exact h.trans h'
  | exit id => obtain ⟨k1, h1, h2⟩ := h'; exact ⟨k1, h1, h.trans h2⟩
  | goto l => obtain ⟨k1, h1, h2⟩ := h'; exact ⟨k1, h1, h.trans h2⟩
  | ret => obtain ⟨k1, h2⟩ := h'; exact ⟨k1, h.trans h2⟩
  | panic v => obtain ⟨k1, h0, h2⟩ := h'; exact ⟨k1, h0, h.trans h2⟩

/-- What leaves by a jump passes a plain item. -/
theorem Arr.pass {P : Program} {m : Machine} {b : Fb} {x : Item} {k : List Item} {cs : List Frame} {e : Ex} {a : Act} {w : World}
    (hx : x.plain = true) (he : e ≠ .normal) (h : Arr P m b (x :: k) cs e a w) : Arr P m b k cs e a w := by
  cases e with
  | normal => exact absurd rfl he
  | exit id => obtain ⟨k1, h1, h2⟩ := h; exact ⟨k1, by rw [h1]; cases x <;> simp_all [exitTo, Item.plain], h2⟩
  | goto l => obtain ⟨k1, h1, h2⟩ := h; exact ⟨k1, by rw [h1]; cases x <;> simp_all [gotoIn, Item.plain], h2⟩
  | ret => exact h
  | panic v => exact h

/-- Behind a piece of code: what goes on, what leaves. -/
def Ex.go (next : Act → World → Prop) (Q : Ex → Act → World → Prop) : Ex → Act → World → Prop
  | .normal, a, w => next a w
  | e, a, w => Q e a w
theorem Ex.go_ne {next : Act → World → Prop} {Q : Ex → Act → World → Prop} {e : Ex} (h : e ≠ .normal) {a : Act} {w : World} : Ex.go next Q e a w = Q e a w := by
  cases e <;> first | rfl | exact absurd rfl h
def Ex.blk (id : Nat) (Q : Ex → Act → World → Prop) : Ex → Act → World → Prop
  | .exit id', a, w => if id' = id then Q .normal a w else Q (.exit id') a w
  | e, a, w => Q e a w

/-- The machine's weakest precondition of code. -/
def MW (P : Program) (B : Fb → Prop) (c : Code) (Q : Ex → Act → World → Prop) (a : Act) (w : World) : Prop :=
  ∀ (b : Fb), B b → ∀ (k : List Item) (cs : List Frame), ∃ e a' w', Q e a' w' ∧ Arr P (lone (b.fr a (.code c :: k)) cs w) b k cs e a' w'

section rules
variable {P : Program} {B : Fb → Prop} {Q : Ex → Act → World → Prop} {a : Act} {w : World}
theorem MW.mono {c : Code} {Q' : Ex → Act → World → Prop} (h : MW P B c Q a w) (hq : ∀ e a w, Q e a w → Q' e a w) : MW P B c Q' a w :=
  fun b hb k cs => let ⟨e, a', w', q, r⟩ := h b hb k cs; ⟨e, a', w', hq _ _ _ q, r⟩
theorem mw_skip (h : Q .normal a w) : MW P B .skip Q a w := fun _ _ _ _ => ⟨.normal, a, w, h, .one st_skip⟩
theorem mw_label {l : Nat} (h : Q .normal a w) : MW P B (.label l) Q a w := fun _ _ _ _ => ⟨.normal, a, w, h, .one st_label⟩
theorem mw_exit {id : Nat} (h : Q (.exit id) a w) : MW P B (.exit id) Q a w := fun _ _ k _ => ⟨.exit id, a, w, h, k, rfl, .refl _ _⟩
theorem mw_goto {l : Nat} (h : Q (.goto l) a w) : MW P B (.goto l) Q a w := fun _ _ k _ => ⟨.goto l, a, w, h, k, rfl, .refl _ _⟩
theorem mw_ret (h : Q .ret a w) : MW P B .ret Q a w := fun _ _ k _ => ⟨.ret, a, w, h, k, .refl _ _⟩
theorem mw_seq {x y : Code} (h : MW P B x (Ex.go (MW P B y Q) Q) a w) : MW P B (.seq x y) Q a w := by
  intro b hb k cs
  obtain ⟨e, a₁, w₁, hq, harr⟩ := h b hb (.code y :: k) cs
  by_cases he : e = .normal
  · subst he
    obtain ⟨e₂, a₂, w₂, hq₂, harr₂⟩ := hq b hb k cs
    exact ⟨e₂, a₂, w₂, hq₂, .of_steps (.head st_seq harr) harr₂⟩
  · rw [Ex.go_ne he] at hq
    exact ⟨e, a₁, w₁, hq, .of_steps (.one st_seq) (.pass (x := .code y) rfl he harr)⟩
theorem mw_cond {c : Operand} {x y : Code} {t : Bool} (hc : a.eval c = .bool t) (h : MW P B (if t then x else y) Q a w) : MW P B (.cond c x y) Q a w :=
  fun b hb k cs => let ⟨e, a', w', q, r⟩ := h b hb k cs; ⟨e, a', w', q, .of_steps (.one (st_cond hc)) r⟩
theorem mw_block {id : Nat} {c : Code} (h : MW P B c (Ex.blk id Q) a w) : MW P B (.block id c) Q a w := by
  intro b hb k cs
  obtain ⟨e, a₁, w₁, hq, harr⟩ := h b hb (.inBlock id :: k) cs
  cases e with
  | normal => exact ⟨.normal, a₁, w₁, hq, .head st_block (Steps.trans harr (.one st_inBlock))⟩
  | exit id' =>
    obtain ⟨k1, h1, h2⟩ := harr
    by_cases hid : id' = id
    · subst hid
      simp only [Ex.blk, if_true] at hq
      exact ⟨.normal, a₁, w₁, hq, .head st_block (h2.trans (.one (st_exit (by rw [h1]; simp [exitTo]))))⟩
    · simp only [Ex.blk, hid, if_false] at hq
      have : (id == id') = false := by simp; exact fun h => hid h.symm
      exact ⟨.exit id', a₁, w₁, hq, k1, by rw [h1]; simp [exitTo, this], .head st_block h2⟩
  | goto l => obtain ⟨k1, h1, h2⟩ := harr; exact ⟨_, a₁, w₁, hq, k1, by rw [h1]; simp [gotoIn], .head st_block h2⟩
  | ret => obtain ⟨k1, h2⟩ := harr; exact ⟨_, a₁, w₁, hq, k1, .head st_block h2⟩
  | panic v => obtain ⟨k1, h0, h2⟩ := harr; exact ⟨_, a₁, w₁, hq, k1, h0, .head st_block h2⟩
/-- A loop: whoever knows what the first round comes to, and what each later one. -/
theorem mw_loop {c : Code} (I : Nat → Act → World → Prop) (n : Nat) (h₀ : I n a w)
    (round : ∀ n a w, I n a w → MW P B c (Ex.go (fun a' w' => ∃ m, m < n ∧ I m a' w') Q) a w) : MW P B (.loop c) Q a w := by
  intro b hb k cs
  have key : ∀ n a w, I n a w → ∃ e a' w', Q e a' w' ∧ Arr P (lone (b.fr a (.code c :: .inLoop c :: k)) cs w) b k cs e a' w' := by
    intro n
    induction n using Nat.strongRecOn with
    | _ n ih =>
      intro a w hI
      obtain ⟨e, a₁, w₁, hq, harr⟩ := round n a w hI b hb (.inLoop c :: k) cs
      by_cases he : e = .normal
      · subst he
        obtain ⟨m, hm, hI₁⟩ := hq
        obtain ⟨e₂, a₂, w₂, hq₂, harr₂⟩ := ih m hm a₁ w₁ hI₁
        exact ⟨e₂, a₂, w₂, hq₂, .of_steps (Steps.trans harr (.one st_inLoop)) harr₂⟩
      · rw [Ex.go_ne he] at hq
        exact ⟨e, a₁, w₁, hq, .pass (x := .inLoop c) rfl he harr⟩
  obtain ⟨e, a', w', hq, harr⟩ := key n a w h₀
  exact ⟨e, a', w', hq, .of_steps (.one st_loop) harr⟩
/-- A scope with labels: a jump to a label of the scope goes on behind the label. -/
theorem mw_scope {body : Code} (J : Nat → Nat → Act → World → Prop) (n : Nat)
    (first : MW P B body (fun e a' w' => match e with
      | .goto l => (∃ rest, findLabel body l = some rest ∧ ∃ m, m < n ∧ J m l a' w') ∨ (findLabel body l = none ∧ Q (.goto l) a' w')
      | e => Q e a' w') a w)
    (more : ∀ m l rest a w, findLabel body l = some rest → J m l a w → MW P B rest (fun e a' w' => match e with
      | .goto l => (∃ rest, findLabel body l = some rest ∧ ∃ m', m' < m ∧ J m' l a' w') ∨ (findLabel body l = none ∧ Q (.goto l) a' w')
      | e => Q e a' w') a w) : MW P B (.scope body) Q a w := by
  intro b hb k cs
  have out : ∀ (e : Ex) (a' : Act) (w' : World) (m : Machine), (∀ l, e ≠ .goto l) → Q e a' w' → Arr P m b (.inScope body :: k) cs e a' w' → Arr P m b k cs e a' w' := by
    intro e a' w' m hl hq harr
    cases e with
    | normal => exact harr.trans (.one st_inScope)
    | exit id => obtain ⟨k1, h1, h2⟩ := harr; exact ⟨k1, by rw [h1]; simp [exitTo], h2⟩
    | goto l => exact absurd rfl (hl l)
    | ret => exact harr
    | panic v => exact harr
  have key : ∀ m l rest a w, findLabel body l = some rest → J m l a w → ∃ e a' w', Q e a' w' ∧ Arr P (lone (b.fr a (.code rest :: .inScope body :: k)) cs w) b k cs e a' w' := by
    intro m
    induction m using Nat.strongRecOn with
    | _ m ih =>
      intro l rest a w hf hJ
      obtain ⟨e, a₁, w₁, hq, harr⟩ := more m l rest a w hf hJ b hb (.inScope body :: k) cs
      cases e with
      | goto l' =>
        obtain ⟨k1, h1, h2⟩ := harr
        rcases hq with ⟨rest', hf', m', hm', hJ'⟩ | ⟨hn, hq⟩
        · obtain ⟨e₂, a₂, w₂, hq₂, harr₂⟩ := ih m' hm' l' rest' a₁ w₁ hf' hJ'
          exact ⟨e₂, a₂, w₂, hq₂, .of_steps (h2.trans (.one (st_goto (by rw [h1]; simp [gotoIn, hf'])))) harr₂⟩
        · exact ⟨_, a₁, w₁, hq, k1, by rw [h1]; simp [gotoIn, hn], h2⟩
      | normal => exact ⟨_, a₁, w₁, hq, out _ _ _ _ (by simp) hq harr⟩
      | exit id => exact ⟨_, a₁, w₁, hq, out _ _ _ _ (by simp) hq harr⟩
      | ret => exact ⟨_, a₁, w₁, hq, out _ _ _ _ (by simp) hq harr⟩
      | panic v => exact ⟨_, a₁, w₁, hq, out _ _ _ _ (by simp) hq harr⟩
  obtain ⟨e, a₁, w₁, hq, harr⟩ := first b hb (.inScope body :: k) cs
  cases e with
  | goto l' =>
    obtain ⟨k1, h1, h2⟩ := harr
    rcases hq with ⟨rest', hf', m', hm', hJ'⟩ | ⟨hn, hq⟩
    · obtain ⟨e₂, a₂, w₂, hq₂, harr₂⟩ := key m' l' rest' a₁ w₁ hf' hJ'
      exact ⟨e₂, a₂, w₂, hq₂, .of_steps (.head st_scope (h2.trans (.one (st_goto (by rw [h1]; simp [gotoIn, hf']))))) harr₂⟩
    · exact ⟨_, a₁, w₁, hq, k1, by rw [h1]; simp [gotoIn, hn], .head st_scope h2⟩
  | normal => exact ⟨_, a₁, w₁, hq, .of_steps (.one st_scope) (out _ _ _ _ (by simp) hq harr)⟩
  | exit id => exact ⟨_, a₁, w₁, hq, .of_steps (.one st_scope) (out _ _ _ _ (by simp) hq harr)⟩
  | ret => exact ⟨_, a₁, w₁, hq, .of_steps (.one st_scope) (out _ _ _ _ (by simp) hq harr)⟩
  | panic v => exact ⟨_, a₁, w₁, hq, .of_steps (.one st_scope) (out _ _ _ _ (by simp) hq harr)⟩
end rules
end Go.Lg
