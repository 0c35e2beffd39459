/- The machine layer of this session's logic: one frame's code, run from whatever stack, in a normal frame or in a round of a range over a function. -/
import Derived.Calls
import Derived.Laws.Entries
import Derived.KernelRfl
import Derived.Laws.Strings
import Derived.Laws.Cells
import Derived.Laws.World
import Derived.Laws.Tables

set_option linter.unusedVariables false
set_option linter.unusedSimpArgs false
set_option linter.unusedSectionVars false
namespace Go.Lg
open Go

structure Fb where
  fn : FuncId
  kind : CallKind
  round : Option Nat
  /-- The deferred calls that lie beneath the frame's own marks. -/
  dt : List Deferred := []

def Fb.fr (b : Fb) (a : Act) (todo : List Item) : Frame :=
  { fn := b.fn, tmps := a.tmps, todo, defers := a.defers ++ b.dt, mode := .run, kind := b.kind, roundOf := b.round }

theorem eval_fr (b : Fb) (a : Act) (todo : List Item) : (b.fr a todo).eval = a.eval := by
  funext x; cases x <;> rfl

section moves
variable {P : Program} {b : Fb} {a : Act} {k : List Item} {cs : List Frame} {w : World}
theorem st_skip : step P (lone (b.fr a (.code .skip :: k)) cs w) = .next (lone (b.fr a k) cs w) :=
  step_lone_go (by simp [stepG, stepG.exec, Fb.fr])
theorem st_label {l : Nat} : step P (lone (b.fr a (.code (.label l) :: k)) cs w) = .next (lone (b.fr a k) cs w) :=
  step_lone_go (by simp [stepG, stepG.exec, Fb.fr])
theorem st_inBlock {id : Nat} : step P (lone (b.fr a (.inBlock id :: k)) cs w) = .next (lone (b.fr a k) cs w) :=
  step_lone_go (by simp [stepG, stepG.exec, Fb.fr])
theorem st_inScope {c : Code} : step P (lone (b.fr a (.inScope c :: k)) cs w) = .next (lone (b.fr a k) cs w) :=
  step_lone_go (by simp [stepG, stepG.exec, Fb.fr])
theorem st_seq {x y : Code} : step P (lone (b.fr a (.code (.seq x y) :: k)) cs w) = .next (lone (b.fr a (.code x :: .code y :: k)) cs w) :=
  step_lone_go (by simp [stepG, stepG.exec, Fb.fr])
theorem st_cond {c : Operand} {x y : Code} {t : Bool} (h : a.eval c = .bool t) :
    step P (lone (b.fr a (.code (.cond c x y) :: k)) cs w) = .next (lone (b.fr a (.code (if t then x else y) :: k)) cs w) :=
  step_lone_go (by
    have := congrFun (eval_fr b a (.code (.cond c x y) :: k)) c
    simp only [Fb.fr] at this
    simp [stepG, stepG.exec, Fb.fr, this, h])
theorem st_block {id : Nat} {c : Code} : step P (lone (b.fr a (.code (.block id c) :: k)) cs w) = .next (lone (b.fr a (.code c :: .inBlock id :: k)) cs w) :=
  step_lone_go (by simp [stepG, stepG.exec, Fb.fr])
theorem st_scope {c : Code} : step P (lone (b.fr a (.code (.scope c) :: k)) cs w) = .next (lone (b.fr a (.code c :: .inScope c :: k)) cs w) :=
  step_lone_go (by simp [stepG, stepG.exec, Fb.fr])
theorem st_loop {c : Code} : step P (lone (b.fr a (.code (.loop c) :: k)) cs w) = .next (lone (b.fr a (.code c :: .inLoop c :: k)) cs w) :=
  step_lone_go (by simp [stepG, stepG.exec, Fb.fr])
theorem st_inLoop {c : Code} : step P (lone (b.fr a (.inLoop c :: k)) cs w) = .next (lone (b.fr a (.code c :: .inLoop c :: k)) cs w) :=
  step_lone_go (by simp [stepG, stepG.exec, Fb.fr])
theorem st_exit {id : Nat} {k' : List Item} (h : exitTo id k = some k') :
    step P (lone (b.fr a (.code (.exit id) :: k)) cs w) = .next (lone (b.fr a k') cs w) :=
  step_lone_go (by simp [stepG, stepG.exec, Fb.fr, h])
theorem st_goto {l : Nat} {k' : List Item} (h : gotoIn l k = some k') :
    step P (lone (b.fr a (.code (.goto l) :: k)) cs w) = .next (lone (b.fr a k') cs w) :=
  step_lone_go (by simp [stepG, stepG.exec, Fb.fr, h])
theorem st_region {id : Nat} {ops : Array Oper} :
    step P (lone (b.fr a (.code (.region id ops false) :: k)) cs w) = .next (lone (b.fr a (.inRegion ops (List.range ops.size) :: k)) cs w) :=
  step_lone_go (by simp [stepG, stepG.exec, Fb.fr])
theorem st_region_draw {id : Nat} {ops : Array Oper} :
    step P (lone (b.fr a (.code (.region id ops true) :: k)) cs w) =
      .next (lone (b.fr a (.inRegion ops (Region.schedule (P.follows .mixedOrders) ops (w.tape w.drawn (.order b.fn id))) :: k)) cs { w with drawn := w.drawn + 1 }) :=
  step_lone_go (by simp [stepG, stepG.exec, Fb.fr, choose, Sem.run, Question.forced, Question.cut])
theorem st_region_end {ops : Array Oper} : step P (lone (b.fr a (.inRegion ops [] :: k)) cs w) = .next (lone (b.fr a k) cs w) :=
  step_lone_go (by simp [stepG, stepG.exec, Fb.fr])
theorem finish_fr (ops : Array Oper) (i : Nat) (rest : List Nat) (v : Value) :
    (b.fr a (.inRegion ops (i :: rest) :: k)).finish v = b.fr (a.put ((ops[i]?).bind (·.dst)) v) (.inRegion ops rest :: k) := by
  cases h : (ops[i]?).bind (·.dst) <;> simp [Frame.finish, Fb.fr, Act.put, h]
theorem st_op_skip {ops : Array Oper} {i : Nat} {rest : List Nat} (h : ((ops[i]?).map (Region.wanted · (yielded ops a.tmps))).getD false = false) :
    step P (lone (b.fr a (.inRegion ops (i :: rest) :: k)) cs w) =
      .next (lone (b.fr (a.put ((ops[i]?).bind (·.dst)) undef) (.inRegion ops rest :: k)) cs w) := by
  rw [← finish_fr]
  exact step_lone_go (by
    have h' := h
    simp only [Fb.fr] at *
    simp [stepG, stepG.exec, h'])
/-- An operation that is carried out (no 'defer' statement). -/
theorem stG_op {ops : Array Oper} {i : Nat} {rest : List Nat} {o : Oper} (ho : ops[i]? = some o) (hw : Region.wanted o (yielded ops a.tmps) = true)
    (hd : b.round = none ∨ ∀ c, o.op ≠ .defer c) :
    stepG P true { frame := b.fr a (.inRegion ops (i :: rest) :: k), callers := cs, status := .running, dying := none } w =
      stepG.apply P true (b.fr a (.inRegion ops (i :: rest) :: k)) cs none (execOp a.eval o) w := by
  have he := eval_fr b a (.inRegion ops (i :: rest) :: k)
  simp only [Fb.fr] at he
  rcases hb : b.round with _ | l
  · simp [stepG, stepG.exec, stepG.oper, Frame.oper?, Fb.fr, ho, hw, hb] 
    rw [hb] at he; rw [he]
  · have hd' : ∀ c, o.op ≠ .defer c := hd.resolve_left (by simp [hb])
    rw [hb] at he
    cases hop : o.op <;> first | exact absurd hop (hd' _) | simp [stepG, stepG.exec, stepG.oper, Frame.oper?, Fb.fr, ho, hw, hb, hop, he]
end moves

inductive Ex where
  | normal
  | exit (id : Nat)
  | goto (l : Nat)
  | ret
  | panic (v : Value)

/-- No call of the machine's own is under way. -/
def noCall : List Item → Bool
  | .call _ _ _ _ :: _ => false
  | _ => true
def Arr (P : Program) (m : Machine) (b : Fb) (k : List Item) (cs : List Frame) : Ex → Act → World → Prop
  | .normal, a, w => Steps P m (lone (b.fr a k) cs w)
  | .exit id, a, w => ∃ k1, exitTo id k1 = exitTo id k ∧ Steps P m (lone (b.fr a (.code (.exit id) :: k1)) cs w)
  | .goto l, a, w => ∃ k1, gotoIn l k1 = gotoIn l k ∧ Steps P m (lone (b.fr a (.code (.goto l) :: k1)) cs w)
  | .ret, a, w => ∃ k1, Steps P m (lone (b.fr a (.code .ret :: k1)) cs w)
  | .panic v, a, w => ∃ todo, noCall todo = true ∧ Steps P m (lone { b.fr a todo with mode := .panicking [{ v, recovered := false }] } cs w)

theorem Arr.of_steps {P : Program} {m m₁ : Machine} {b : Fb} {k : List Item} {cs : List Frame} {e : Ex} {a : Act} {w : World}
    (h : Steps P m m₁) (h' : Arr P m₁ b k cs e a w) : Arr P m b k cs e a w := by
  cases e with
  | normal => exact h.trans h'
  | exit id => obtain ⟨k1, h1, h2⟩ := h'; exact ⟨k1, h1, h.trans h2⟩
  | goto l => obtain ⟨k1, h1, h2⟩ := h'; exact ⟨k1, h1, h.trans h2⟩
  | ret => obtain ⟨k1, h2⟩ := h'; exact ⟨k1, h.trans h2⟩
  | panic v => obtain ⟨k1, h0, h2⟩ := h'; exact ⟨k1, h0, h.trans h2⟩

/-- What leaves by a jump passes a plain item. -/
theorem Arr.pass {P : Program} {m : Machine} {b : Fb} {x : Item} {k : List Item} {cs : List Frame} {e : Ex} {a : Act} {w : World}
    (hx : x.plain = true) (he : e ≠ .normal) (h : Arr P m b (x :: k) cs e a w) : Arr P m b k cs e a w := by
  cases e with
  | normal => exact absurd rfl he
  | exit id => obtain ⟨k1, h1, h2⟩ := h; exact ⟨k1, by rw [h1]; cases x <;> simp_all [exitTo, Item.plain], h2⟩
  | goto l => obtain ⟨k1, h1, h2⟩ := h; exact ⟨k1, by rw [h1]; cases x <;> simp_all [gotoIn, Item.plain], h2⟩
  | ret => exact h
  | panic v => exact h

/-- Behind a piece of code: what goes on, what leaves. -/
def Ex.go (next : Act → World → Prop) (Q : Ex → Act → World → Prop) : Ex → Act → World → Prop
  | .normal, a, w => next a w
  | e, a, w => Q e a w
theorem Ex.go_ne {next : Act → World → Prop} {Q : Ex → Act → World → Prop} {e : Ex} (h : e ≠ .normal) {a : Act} {w : World} : Ex.go next Q e a w = Q e a w := by
  cases e <;> first | rfl | exact absurd rfl h
def Ex.blk (id : Nat) (Q : Ex → Act → World → Prop) : Ex → Act → World → Prop
  | .exit id', a, w => if id' = id then Q .normal a w else Q (.exit id') a w
  | e, a, w => Q e a w

/-- The machine's weakest precondition of code. -/
def MW (P : Program) (B : Fb → Prop) (c : Code) (Q : Ex → Act → World → Prop) (a : Act) (w : World) : Prop :=
  ∀ (b : Fb), B b → ∀ (k : List Item) (cs : List Frame), ∃ e a' w', Q e a' w' ∧ Arr P (lone (b.fr a (.code c :: k)) cs w) b k cs e a' w'

section rules
variable {P : Program} {B : Fb → Prop} {Q : Ex → Act → World → Prop} {a : Act} {w : World}
theorem MW.mono {c : Code} {Q' : Ex → Act → World → Prop} (h : MW P B c Q a w) (hq : ∀ e a w, Q e a w → Q' e a w) : MW P B c Q' a w :=
  fun b hb k cs => let ⟨e, a', w', q, r⟩ := h b hb k cs; ⟨e, a', w', hq _ _ _ q, r⟩
theorem mw_skip (h : Q .normal a w) : MW P B .skip Q a w := fun _ _ _ _ => ⟨.normal, a, w, h, .one st_skip⟩
theorem mw_label {l : Nat} (h : Q .normal a w) : MW P B (.label l) Q a w := fun _ _ _ _ => ⟨.normal, a, w, h, .one st_label⟩
theorem mw_exit {id : Nat} (h : Q (.exit id) a w) : MW P B (.exit id) Q a w := fun _ _ k _ => ⟨.exit id, a, w, h, k, rfl, .refl _ _⟩
theorem mw_ret (h : Q .ret a w) : MW P B .ret Q a w := fun _ _ k _ => ⟨.ret, a, w, h, k, .refl _ _⟩
theorem mw_seq {x y : Code} (h : MW P B x (Ex.go (MW P B y Q) Q) a w) : MW P B (.seq x y) Q a w := by
  intro b hb k cs
  obtain ⟨e, a₁, w₁, hq, harr⟩ := h b hb (.code y :: k) cs
  by_cases he : e = .normal
  · subst he
    obtain ⟨e₂, a₂, w₂, hq₂, harr₂⟩ := hq b hb k cs
    exact ⟨e₂, a₂, w₂, hq₂, .of_steps (.head st_seq harr) harr₂⟩
  · rw [Ex.go_ne he] at hq
    exact ⟨e, a₁, w₁, hq, .of_steps (.one st_seq) (.pass (x := .code y) rfl he harr)⟩
theorem mw_cond {c : Operand} {x y : Code} {t : Bool} (hc : a.eval c = .bool t) (h : MW P B (if t then x else y) Q a w) : MW P B (.cond c x y) Q a w :=
  fun b hb k cs => let ⟨e, a', w', q, r⟩ := h b hb k cs; ⟨e, a', w', q, .of_steps (.one (st_cond hc)) r⟩
theorem mw_block {id : Nat} {c : Code} (h : MW P B c (Ex.blk id Q) a w) : MW P B (.block id c) Q a w := by
  intro b hb k cs
  obtain ⟨e, a₁, w₁, hq, harr⟩ := h b hb (.inBlock id :: k) cs
  cases e with
  | normal => exact ⟨.normal, a₁, w₁, hq, .head st_block (Steps.trans harr (.one st_inBlock))⟩
  | exit id' =>
    obtain ⟨k1, h1, h2⟩ := harr
    by_cases hid : id' = id
    · subst hid
      simp only [Ex.blk, if_true] at hq
      exact ⟨.normal, a₁, w₁, hq, .head st_block (h2.trans (.one (st_exit (by rw [h1]; simp [exitTo]))))⟩
    · simp only [Ex.blk, hid, if_false] at hq
      have : (id == id') = false := by simp; exact fun h => hid h.symm
      exact ⟨.exit id', a₁, w₁, hq, k1, by rw [h1]; simp [exitTo, this], .head st_block h2⟩
  | goto l => obtain ⟨k1, h1, h2⟩ := harr; exact ⟨_, a₁, w₁, hq, k1, by rw [h1]; simp [gotoIn], .head st_block h2⟩
  | ret => obtain ⟨k1, h2⟩ := harr; exact ⟨_, a₁, w₁, hq, k1, .head st_block h2⟩
  | panic v => obtain ⟨k1, h0, h2⟩ := harr; exact ⟨_, a₁, w₁, hq, k1, h0, .head st_block h2⟩
/-- A loop: whoever knows what the first round comes to, and what each later one. -/
theorem mw_loop {c : Code} (I : Nat → Act → World → Prop) (n : Nat) (h₀ : I n a w)
    (round : ∀ n a w, I n a w → MW P B c (Ex.go (fun a' w' => ∃ m, m < n ∧ I m a' w') Q) a w) : MW P B (.loop c) Q a w := by
  intro b hb k cs
  have key : ∀ n a w, I n a w → ∃ e a' w', Q e a' w' ∧ Arr P (lone (b.fr a (.code c :: .inLoop c :: k)) cs w) b k cs e a' w' := by
    intro n
    induction n using Nat.strongRecOn with
    | _ n ih =>
      intro a w hI
      obtain ⟨e, a₁, w₁, hq, harr⟩ := round n a w hI b hb (.inLoop c :: k) cs
      by_cases he : e = .normal
      · subst he
        obtain ⟨m, hm, hI₁⟩ := hq
        obtain ⟨e₂, a₂, w₂, hq₂, harr₂⟩ := ih m hm a₁ w₁ hI₁
        exact ⟨e₂, a₂, w₂, hq₂, .of_steps (Steps.trans harr (.one st_inLoop)) harr₂⟩
      · rw [Ex.go_ne he] at hq
        exact ⟨e, a₁, w₁, hq, .pass (x := .inLoop c) rfl he harr⟩
  obtain ⟨e, a', w', hq, harr⟩ := key n a w h₀
  exact ⟨e, a', w', hq, .of_steps (.one st_loop) harr⟩
/-- A scope with labels: a jump to a label of the scope goes on behind the label. -/
theorem mw_scope {body : Code} (J : Nat → Nat → Act → World → Prop) (n : Nat)
    (first : MW P B body (fun e a' w' => match e with
      | .goto l => (∃ rest, findLabel body l = some rest ∧ ∃ m, m < n ∧ J m l a' w') ∨ (findLabel body l = none ∧ Q (.goto l) a' w')
      | e => Q e a' w') a w)
    (more : ∀ m l rest a w, findLabel body l = some rest → J m l a w → MW P B rest (fun e a' w' => match e with
      | .goto l => (∃ rest, findLabel body l = some rest ∧ ∃ m', m' < m ∧ J m' l a' w') ∨ (findLabel body l = none ∧ Q (.goto l) a' w')
      | e => Q e a' w') a w) : MW P B (.scope body) Q a w := by
  intro b hb k cs
  have out : ∀ (e : Ex) (a' : Act) (w' : World) (m : Machine), (∀ l, e ≠ .goto l) → Q e a' w' → Arr P m b (.inScope body :: k) cs e a' w' → Arr P m b k cs e a' w' := by
    intro e a' w' m hl hq harr
    cases e with
    | normal => exact harr.trans (.one st_inScope)
    | exit id => obtain ⟨k1, h1, h2⟩ := harr; exact ⟨k1, by rw [h1]; simp [exitTo], h2⟩
    | goto l => exact absurd rfl (hl l)
    | ret => exact harr
    | panic v => exact harr
  have key : ∀ m l rest a w, findLabel body l = some rest → J m l a w → ∃ e a' w', Q e a' w' ∧ Arr P (lone (b.fr a (.code rest :: .inScope body :: k)) cs w) b k cs e a' w' := by
    intro m
    induction m using Nat.strongRecOn with
    | _ m ih =>
      intro l rest a w hf hJ
      obtain ⟨e, a₁, w₁, hq, harr⟩ := more m l rest a w hf hJ b hb (.inScope body :: k) cs
      cases e with
      | goto l' =>
        obtain ⟨k1, h1, h2⟩ := harr
        rcases hq with ⟨rest', hf', m', hm', hJ'⟩ | ⟨hn, hq⟩
        · obtain ⟨e₂, a₂, w₂, hq₂, harr₂⟩ := ih m' hm' l' rest' a₁ w₁ hf' hJ'
          exact ⟨e₂, a₂, w₂, hq₂, .of_steps (h2.trans (.one (st_goto (by rw [h1]; simp [gotoIn, hf'])))) harr₂⟩
        · exact ⟨_, a₁, w₁, hq, k1, by rw [h1]; simp [gotoIn, hn], h2⟩
      | normal => exact ⟨_, a₁, w₁, hq, out _ _ _ _ (by simp) hq harr⟩
      | exit id => exact ⟨_, a₁, w₁, hq, out _ _ _ _ (by simp) hq harr⟩
      | ret => exact ⟨_, a₁, w₁, hq, out _ _ _ _ (by simp) hq harr⟩
      | panic v => exact ⟨_, a₁, w₁, hq, out _ _ _ _ (by simp) hq harr⟩
  obtain ⟨e, a₁, w₁, hq, harr⟩ := first b hb (.inScope body :: k) cs
  cases e with
  | goto l' =>
    obtain ⟨k1, h1, h2⟩ := harr
    rcases hq with ⟨rest', hf', m', hm', hJ'⟩ | ⟨hn, hq⟩
    · obtain ⟨e₂, a₂, w₂, hq₂, harr₂⟩ := key m' l' rest' a₁ w₁ hf' hJ'
      exact ⟨e₂, a₂, w₂, hq₂, .of_steps (.head st_scope (h2.trans (.one (st_goto (by rw [h1]; simp [gotoIn, hf']))))) harr₂⟩
    · exact ⟨_, a₁, w₁, hq, k1, by rw [h1]; simp [gotoIn, hn], .head st_scope h2⟩
  | normal => exact ⟨_, a₁, w₁, hq, .of_steps (.one st_scope) (out _ _ _ _ (by simp) hq harr)⟩
  | exit id => exact ⟨_, a₁, w₁, hq, .of_steps (.one st_scope) (out _ _ _ _ (by simp) hq harr)⟩
  | ret => exact ⟨_, a₁, w₁, hq, .of_steps (.one st_scope) (out _ _ _ _ (by simp) hq harr)⟩
  | panic v => exact ⟨_, a₁, w₁, hq, .of_steps (.one st_scope) (out _ _ _ _ (by simp) hq harr)⟩
end rules
end Go.Lg

/- Abstract values and states: what is only read is its content ('view'); own memory goes by ids. How they lie in the model's memory ('VR', 'Rel'), and what a step may turn ('Step'). -/
set_option linter.unusedVariables false
set_option linter.unusedSimpArgs false
set_option linter.unusedSectionVars false
namespace Go.Lg
open Go

inductive AV where
  | bool (b : Bool)
  | int (k : IntKind) (n : Int)
  | str (s : List UInt8)
  | view (rows : List (List AV))
  | empty
  | vptr (cells : List AV)
  | ptr (id off : Nat)
  | nilptr
  | slice (id off len : Nat) (cap : Option Nat) (sz : Nat)
  | map (id : Nat)
  | func (fn : Fn) (first captured : List AV)
  | yieldf (id : Nat)
  | nilFunc
  | iface (t : TypeId) (v : AV)
  | nilIface
  | agg (cs : List AV)
  | tuple (vs : List AV)
  | any

structure Ctx where
  base : Nat → Nat
  boff : Nat → Nat
  bsz : Nat → Nat
  next : Nat
  ro : Nat → Prop
  w : World

def Fn.noYield : Fn → Prop
  | .yield _ => False
  | _ => True

inductive VR (K : Ctx) : AV → Value → Prop
  | bool (b : Bool) : VR K (.bool b) (.bool b)
  | int (k : IntKind) (n : Int) : VR K (.int k n) (.int k n)
  | str (s : ByteArray) : VR K (.str s.data.toList) (.string s)
  | view {rows : List (List AV)} {a : Option Addr} {c esz : Nat} (f : Nat → Nat → Value) (hc : rows.length ≤ c) (hl : ∀ r, r ∈ rows → r.length = esz)
      (ha : 0 < rows.length → ∃ blk off, a = some ⟨blk, off, none⟩ ∧ K.ro blk ∧ ∀ i j, i < rows.length → j < esz → K.w.cell? ⟨blk, off + (i * esz + j), none⟩ = some (f i j))
      (hv : ∀ i j r x, rows[i]? = some r → r[j]? = some x → VR K x (f i j)) : VR K (.view rows) (.slice a rows.length c)
  | empty (a : Option Addr) : VR K .empty (.slice a 0 0)
  | vptr {cells : List AV} {blk off : Nat} (f : Nat → Value) (hr : K.ro blk) (hc : ∀ j, j < cells.length → K.w.cell? ⟨blk, off + j, none⟩ = some (f j))
      (hv : ∀ j x, cells[j]? = some x → VR K x (f j)) : VR K (.vptr cells) (.pointer (some ⟨blk, off, none⟩))
  | ptr {id off : Nat} (h : id < K.next) : VR K (.ptr id off) (.pointer (some ⟨K.base id, K.boff id + off, none⟩))
  | nilptr : VR K .nilptr (.pointer none)
  | slice {id off len : Nat} {cap : Option Nat} {sz o c : Nat} (h : id < K.next) (ho : 0 < c → o = K.boff id + off) (hc : 0 < c → o + c * sz ≤ K.bsz id) (hl : len ≤ c)
      (hcap : ∀ c0, cap = some c0 → c = c0) : VR K (.slice id off len cap sz) (.slice (some ⟨K.base id, o, none⟩) len c)
  | map {id : Nat} (h : id < K.next) : VR K (.map id) (.map (some (K.base id)))
  | func {fn : Fn} {first captured : List AV} {fs cs : Array Value} (hn : Fn.noYield fn) (h1 : fs.size = first.length) (h2 : cs.size = captured.length)
      (hf : ∀ (i : Nat) x, first[i]? = some x → VR K x (fs.getD i undef)) (hc : ∀ (i : Nat) x, captured[i]? = some x → VR K x (cs.getD i undef)) : VR K (.func fn first captured) (.func fn fs cs)
  | yieldf {id : Nat} (h : id < K.next) : VR K (.yieldf id) (.func (.yield (K.base id)) #[] #[])
  | nilFunc : VR K .nilFunc .nilFunc
  | iface {t : TypeId} {x : AV} {v : Value} (h : VR K x v) : VR K (.iface t x) (.iface t v)
  | nilIface : VR K .nilIface .nilIface
  | agg {cs : List AV} {vs : Array Value} (h1 : vs.size = cs.length) (h : ∀ (i : Nat) x, cs[i]? = some x → VR K x (vs.getD i undef)) : VR K (.agg cs) (.agg vs)
  | tuple {cs : List AV} {vs : Array Value} (h1 : vs.size = cs.length) (h : ∀ (i : Nat) x, cs[i]? = some x → VR K x (vs.getD i undef)) : VR K (.tuple cs) (.tuple vs)
  | any (v : Value) : VR K .any v

theorem VR.undef_ (K : Ctx) : VR K (.tuple []) undef := .tuple rfl (by simp)

/-- What keeps values as they read. -/
structure Ext (K K' : Ctx) : Prop where
  next : K.next ≤ K'.next
  mu : ∀ id, id < K.next → K'.base id = K.base id ∧ K'.boff id = K.boff id ∧ K'.bsz id = K.bsz id
  ro : ∀ b, K.ro b → K'.ro b
  same : ∀ b, K.ro b → K'.w.heap[b]? = K.w.heap[b]?

theorem Ext.refl (K : Ctx) : Ext K K := ⟨Nat.le_refl _, fun _ _ => ⟨rfl, rfl, rfl⟩, fun _ h => h, fun _ _ => rfl⟩

theorem cell_of_block {w w' : World} {b off : Nat} (h : w'.heap[b]? = w.heap[b]?) : w'.cell? ⟨b, off, none⟩ = w.cell? ⟨b, off, none⟩ := by
  simp only [World.cell?, h]
theorem VR.mono {K K' : Ctx} (hE : Ext K K') {x : AV} {v : Value} (h : VR K x v) : VR K' x v := by
  induction h with
  | bool b => exact .bool b
  | int k n => exact .int k n
  | str s => exact .str s
  | view f hc hl ha hv ih =>
    refine .view f hc hl (fun hp => ?_) ih
    obtain ⟨blk, off, rfl, hr, hcell⟩ := ha hp
    exact ⟨blk, off, rfl, hE.ro _ hr, fun i j hi hj => by rw [cell_of_block (hE.same _ hr)]; exact hcell i j hi hj⟩
  | empty a => exact .empty a
  | vptr f hr hc hv ih => exact .vptr f (hE.ro _ hr) (fun j hj => by rw [cell_of_block (hE.same _ hr)]; exact hc j hj) ih
  | @ptr id off h => obtain ⟨h1, h2, h3⟩ := hE.mu id h; rw [← h1, ← h2]; exact .ptr (Nat.lt_of_lt_of_le h hE.next)
  | nilptr => exact .nilptr
  | @slice id off len cap sz o c h ho hc hl hcap =>
    obtain ⟨h1, h2, h3⟩ := hE.mu id h
    rw [← h1]
    exact .slice (Nat.lt_of_lt_of_le h hE.next) (by rw [h2]; exact ho) (by rw [h3]; exact hc) hl hcap
  | @map id h => obtain ⟨h1, _⟩ := hE.mu id h; rw [← h1]; exact .map (Nat.lt_of_lt_of_le h hE.next)
  | func hn h1 h2 _ _ ih1 ih2 => exact .func hn h1 h2 ih1 ih2
  | @yieldf id h => obtain ⟨h1, _⟩ := hE.mu id h; rw [← h1]; exact .yieldf (Nat.lt_of_lt_of_le h hE.next)
  | nilFunc => exact .nilFunc
  | iface _ ih => exact .iface ih
  | nilIface => exact .nilIface
  | agg h1 _ ih => exact .agg h1 ih
  | tuple h1 _ ih => exact .tuple h1 ih
  | any v => exact .any v

/-- Lists of values. -/
def VRs (K : Ctx) (xs : List AV) (vs : List Value) : Prop := vs.length = xs.length ∧ ∀ (i : Nat) x v, xs[i]? = some x → vs[i]? = some v → VR K x v
theorem VRs.nil (K : Ctx) : VRs K [] [] := ⟨rfl, by simp⟩
theorem VRs.cons {K : Ctx} {x : AV} {v : Value} {xs : List AV} {vs : List Value} (h : VR K x v) (hs : VRs K xs vs) : VRs K (x :: xs) (v :: vs) :=
  ⟨by simp [hs.1], fun i y u hy hu => by
    cases i with
    | zero => simp at hy hu; subst hy hu; exact h
    | succ i => simp at hy hu; exact hs.2 i y u hy hu⟩
theorem VRs.head {K : Ctx} {x : AV} {v : Value} {xs : List AV} {vs : List Value} (h : VRs K (x :: xs) (v :: vs)) : VR K x v := h.2 0 x v rfl rfl
theorem VRs.tail {K : Ctx} {x : AV} {v : Value} {xs : List AV} {vs : List Value} (h : VRs K (x :: xs) (v :: vs)) : VRs K xs vs :=
  ⟨by have := h.1; simpa using this, fun i y u hy hu => h.2 (i + 1) y u (by simpa using hy) (by simpa using hu)⟩
theorem VRs.mono {K K' : Ctx} (hE : Ext K K') {xs : List AV} {vs : List Value} (h : VRs K xs vs) : VRs K' xs vs := ⟨h.1, fun i x v hx hv => (h.2 i x v hx hv).mono hE⟩
theorem VRs.append {K : Ctx} {xs ys : List AV} {vs us : List Value} (h : VRs K xs vs) (h' : VRs K ys us) : VRs K (xs ++ ys) (vs ++ us) :=
  ⟨by simp [h.1, h'.1], fun i x v hx hv => by
    rw [List.getElem?_append] at hx hv
    rw [h.1] at hv
    split at hx
    · rename_i hlt; rw [if_pos hlt] at hv; exact h.2 i x v hx hv
    · rename_i hlt; rw [if_neg hlt] at hv; exact h'.2 _ x v hx hv⟩
theorem VR.agg_ {K : Ctx} {xs : List AV} {vs : Array Value} : VR K (.agg xs) (.agg vs) ↔ VRs K xs vs.toList := by
  constructor
  · intro h
    cases h with
    | agg h1 h =>
      refine ⟨by simpa using h1, fun i x v hx hv => ?_⟩
      have := h i x hx
      rw [Array.getD_eq_getD_getElem?] at this
      rw [Array.getElem?_toList] at hv
      simpa [hv] using this
  · intro h
    refine .agg (by simpa using h.1) fun i x hx => ?_
    have hi : i < vs.toList.length := by rw [h.1]; exact (List.getElem?_eq_some_iff.1 hx).1
    have := h.2 i x vs.toList[i] hx (List.getElem?_eq_getElem hi)
    rw [Array.getD_eq_getD_getElem?]
    simpa [Array.getElem?_eq_getElem (show i < vs.size by simpa using hi)] using this
theorem VR.tuple_ {K : Ctx} {xs : List AV} {vs : Array Value} : VR K (.tuple xs) (.tuple vs) ↔ VRs K xs vs.toList := by
  constructor
  · intro h
    cases h with
    | tuple h1 h => exact VR.agg_.1 (.agg h1 h)
  · intro h
    have := VR.agg_.2 h
    cases this with
    | agg h1 h => exact .tuple h1 h

/-- Own memory. -/
structure LoopB where
  tm : Nat → AV
  N : Nat
  params : Array Tmp
  assign : Code
  body : Code
  state : LoopState
  pending : Option Code
inductive Blk where
  | cells (cs : List AV) (e : TypeId)
  | map (es : List (AV × AV))
  | loop (l : LoopB)
  | deferred
  | glob (b : Nat) (o : Obj)

def TR (K : Ctx) (N : Nat) (tm : Nat → AV) (tmps : Array Value) : Prop := tmps.size = N ∧ ∀ t, VR K (tm t) (tmps.getD t undef)

def thawed (arr : Array Value) (fr : Nat × Nat) : Prop := ∀ j, j < arr.size → (decide (fr.1 ≤ j) && decide (j < fr.2)) = false

def BR (K : Ctx) (id : Nat) : Blk → Prop
  | .cells cs e => ∃ arr fr, K.w.heap[K.base id]? = some (.cells arr e fr) ∧ thawed arr fr ∧ arr.size = K.bsz id ∧ K.boff id + cs.length ≤ arr.size ∧
      ∀ (j : Nat) x, cs[j]? = some x → ∃ v, arr[K.boff id + j]? = some v ∧ VR K x v
  | .map es => ∃ arr clock, K.w.heap[K.base id]? = some (.map arr clock) ∧ arr.size = es.length ∧
      ∀ (j : Nat) p, es[j]? = some p → ∃ m, arr[j]? = some m ∧ VR K p.1 m.key ∧ VR K p.2 m.val
  | .loop l => ∃ fn tmps defers, K.w.heap[K.base id]? = some (.loop { state := l.state, pending := l.pending, fn, tmps, params := l.params, assign := l.assign, body := l.body, defers }) ∧ TR K l.N l.tm tmps
  | .deferred => K.w.heap[K.base id]? = some (.deferred (some []))
  | .glob b o => K.base id = b ∧ K.w.heap[K.base id]? = some o

abbrev Heap := Nat → Option Blk
def OB (K : Ctx) (H : Heap) (b : Nat) : Prop := ∃ id, H id ≠ none ∧ K.base id = b

structure Rel (K : Ctx) (H : Heap) : Prop where
  lt : ∀ id, H id ≠ none → id < K.next
  nro : ∀ id, H id ≠ none → ¬ K.ro (K.base id)
  br : ∀ id b, H id = some b → BR K id b
  inj : ∀ i j, H i ≠ none → H j ≠ none → K.base i = K.base j → i = j
  ros : ∀ b, K.ro b → b < K.w.heap.size

structure Step (K : Ctx) (H : Heap) (K' : Ctx) (H' : Heap) : Prop where
  next : K.next ≤ K'.next
  mu : ∀ id, id < K.next → K'.base id = K.base id ∧ K'.boff id = K.boff id ∧ K'.bsz id = K.bsz id
  ro : ∀ b, K.ro b → K'.ro b
  size : K.w.heap.size ≤ K'.w.heap.size
  same : ∀ b, b < K.w.heap.size → ¬ OB K H b → K'.w.heap[b]? = K.w.heap[b]?
  own : ∀ b, OB K' H' b → OB K H b ∨ K.w.heap.size ≤ b
  ro' : ∀ b, K'.ro b → K.ro b ∨ OB K H b ∨ K.w.heap.size ≤ b
  os : K'.w.os = K.w.os
  tape : K'.w.tape = K.w.tape
  output : K'.w.output = K.w.output

theorem Step.refl (K : Ctx) (H : Heap) : Step K H K H :=
  ⟨Nat.le_refl _, fun _ _ => ⟨rfl, rfl, rfl⟩, fun _ h => h, Nat.le_refl _, fun _ _ _ => rfl, fun _ h => .inl h, fun _ h => .inl h, rfl, rfl, rfl⟩
theorem Step.trans {K K1 K2 : Ctx} {H H1 H2 : Heap} (h : Step K H K1 H1) (h' : Step K1 H1 K2 H2) : Step K H K2 H2 where
  next := Nat.le_trans h.next h'.next
  mu := fun id hid => by
    obtain ⟨a, b, c⟩ := h.mu id hid
    obtain ⟨a', b', c'⟩ := h'.mu id (Nat.lt_of_lt_of_le hid h.next)
    exact ⟨a'.trans a, b'.trans b, c'.trans c⟩
  ro := fun b hb => h'.ro b (h.ro b hb)
  size := Nat.le_trans h.size h'.size
  same := fun b hb hn => (h'.same b (Nat.lt_of_lt_of_le hb h.size) (fun ho => (h.own b ho).elim hn (fun hh => by omega))).trans (h.same b hb hn)
  own := fun b hb => by
    rcases h'.own b hb with h1 | h1
    · exact h.own b h1
    · exact .inr (Nat.le_trans h.size h1)
  ro' := fun b hb => by
    rcases h'.ro' b hb with h1 | h1 | h1
    · exact h.ro' b h1
    · exact (h.own b h1).elim (fun x => .inr (.inl x)) (fun x => .inr (.inr x))
    · exact .inr (.inr (Nat.le_trans h.size h1))
  os := h'.os.trans h.os
  tape := h'.tape.trans h.tape
  output := h'.output.trans h.output
theorem Step.ext {K K' : Ctx} {H H' : Heap} (h : Step K H K' H') (hr : Rel K H) : Ext K K' :=
  ⟨h.next, h.mu, h.ro, fun b hb => h.same b (hr.ros b hb) (fun ⟨id, h1, h2⟩ => hr.nro id h1 (h2 ▸ hb))⟩

theorem TR.mono {K K' : Ctx} (hE : Ext K K') {N : Nat} {tm : Nat → AV} {tmps : Array Value} (h : TR K N tm tmps) : TR K' N tm tmps := ⟨h.1, fun t => (h.2 t).mono hE⟩
/-- A block of own memory that a step leaves alone reads as it did. -/
theorem BR.mono {K K' : Ctx} (hE : Ext K K') {id : Nat} {b : Blk} (hid : id < K.next) (hs : K'.w.heap[K.base id]? = K.w.heap[K.base id]?) (h : BR K id b) : BR K' id b := by
  obtain ⟨h1, h2, h3⟩ := hE.mu id hid
  cases b with
  | cells cs e =>
    obtain ⟨arr, fr, ha, ht, hz, hl, hv⟩ := h
    refine ⟨arr, fr, by rw [h1, hs]; exact ha, ht, by rw [h3]; exact hz, by rw [h2]; exact hl, fun j x hx => ?_⟩
    obtain ⟨v, hv1, hv2⟩ := hv j x hx
    exact ⟨v, by rw [h2]; exact hv1, hv2.mono hE⟩
  | map es =>
    obtain ⟨arr, clock, ha, hz, hv⟩ := h
    refine ⟨arr, clock, by rw [h1, hs]; exact ha, hz, fun j p hp => ?_⟩
    obtain ⟨m, hm, hk, hw⟩ := hv j p hp
    exact ⟨m, hm, hk.mono hE, hw.mono hE⟩
  | loop l =>
    obtain ⟨fn, tmps, defers, ha, ht⟩ := h
    exact ⟨fn, tmps, defers, by rw [h1, hs]; exact ha, ht.mono hE⟩
  | deferred => show _ = _; rw [h1, hs]; exact h
  | glob b o => exact ⟨h1.trans h.1, by rw [h1, hs]; exact h.2⟩

/-- Abstract states. -/
structure St where
  tm : Nat → AV
  h : Heap
  n : Nat
  df : List Nat

def upd {α : Type} (f : Nat → α) (i : Nat) (x : α) : Nat → α := fun j => if j = i then x else f j
theorem upd_same {α : Type} (f : Nat → α) (i : Nat) (x : α) : upd f i x i = x := by simp [upd]
theorem upd_ne {α : Type} (f : Nat → α) {i j : Nat} (x : α) (h : j ≠ i) : upd f i x j = f j := by simp [upd, h]

def DR (K : Ctx) (H : Heap) : List Nat → List Deferred → Prop
  | [], ds => ds = []
  | id :: r, ds => ∃ ds', ds = { target := .collected (K.base id), args := #[] } :: ds' ∧ id < K.next ∧ DR K H r ds'

theorem DR.mono {K K' : Ctx} {H H' : Heap} (hE : Ext K K') : ∀ {l : List Nat} {ds : List Deferred}, DR K H l ds → DR K' H' l ds
  | [], _, h => h
  | id :: r, ds, ⟨ds', e, h1, h2⟩ => ⟨ds', by rw [e, (hE.mu id h1).1], Nat.lt_of_lt_of_le h1 hE.next, DR.mono hE h2⟩

structure SR (K : Ctx) (N : Nat) (σ : St) (a : Act) : Prop where
  next : K.next = σ.n
  rel : Rel K σ.h
  tr : TR K N σ.tm a.tmps
  dr : DR K σ.h σ.df a.defers

inductive AEx where
  | normal
  | exit (id : Nat)
  | goto (l : Nat)
  | ret
  | panic (v : AV)
inductive ER (K : Ctx) : AEx → Ex → Prop
  | normal : ER K .normal .normal
  | exit (i : Nat) : ER K (.exit i) (.exit i)
  | goto (i : Nat) : ER K (.goto i) (.goto i)
  | ret : ER K .ret .ret
  | panic {x : AV} {v : Value} (h : VR K x v) : ER K (.panic x) (.panic v)

/-- A step as a frame's own code sees it: the ids from 'm' on are the frame's, and may be given anew. -/
structure StM (m : Nat) (K : Ctx) (H : Heap) (K' : Ctx) (H' : Heap) : Prop where
  next : m ≤ K.next
  next' : m ≤ K'.next
  mu : ∀ id, id < m → K'.base id = K.base id ∧ K'.boff id = K.boff id ∧ K'.bsz id = K.bsz id
  ro : ∀ b, K.ro b → K'.ro b
  size : K.w.heap.size ≤ K'.w.heap.size
  same : ∀ b, b < K.w.heap.size → ¬ OB K H b → K'.w.heap[b]? = K.w.heap[b]?
  own : ∀ b, OB K' H' b → OB K H b ∨ K.w.heap.size ≤ b
  ro' : ∀ b, K'.ro b → K.ro b ∨ OB K H b ∨ K.w.heap.size ≤ b
  os : K'.w.os = K.w.os
  tape : K'.w.tape = K.w.tape
  output : K'.w.output = K.w.output
theorem Step.stm {m : Nat} {K K' : Ctx} {H H' : Heap} (h : Step K H K' H') (hm : m ≤ K.next) : StM m K H K' H' :=
  ⟨hm, Nat.le_trans hm h.next, fun id hid => h.mu id (Nat.lt_of_lt_of_le hid hm), h.ro, h.size, h.same, h.own, h.ro', h.os, h.tape, h.output⟩
theorem StM.refl {m : Nat} {K : Ctx} (hm : m ≤ K.next) (H : Heap) : StM m K H K H := (Step.refl K H).stm hm
theorem StM.step {K K' : Ctx} {H H' : Heap} (h : StM K.next K H K' H') : Step K H K' H' :=
  ⟨h.next', h.mu, h.ro, h.size, h.same, h.own, h.ro', h.os, h.tape, h.output⟩
theorem StM.trans {m : Nat} {K K1 K2 : Ctx} {H H1 H2 : Heap} (h : StM m K H K1 H1) (h' : StM m K1 H1 K2 H2) : StM m K H K2 H2 where
  next := h.next
  next' := h'.next'
  mu := fun id hid => by
    obtain ⟨a, b, c⟩ := h.mu id hid
    obtain ⟨a', b', c'⟩ := h'.mu id hid
    exact ⟨a'.trans a, b'.trans b, c'.trans c⟩
  ro := fun b hb => h'.ro b (h.ro b hb)
  size := Nat.le_trans h.size h'.size
  same := fun b hb hn => (h'.same b (Nat.lt_of_lt_of_le hb h.size) (fun ho => (h.own b ho).elim hn (fun hh => by omega))).trans (h.same b hb hn)
  own := fun b hb => by
    rcases h'.own b hb with h1 | h1
    · exact h.own b h1
    · exact .inr (Nat.le_trans h.size h1)
  ro' := fun b hb => by
    rcases h'.ro' b hb with h1 | h1 | h1
    · exact h.ro' b h1
    · exact (h.own b h1).elim (fun x => .inr (.inl x)) (fun x => .inr (.inr x))
    · exact .inr (.inr (Nat.le_trans h.size h1))
  os := h'.os.trans h.os
  tape := h'.tape.trans h.tape
  output := h'.output.trans h.output

/-- The logic's weakest precondition of code; the ids below 'm' are not the frame's own to give anew. -/
def W (P : Program) (B : Fb → Prop) (N m : Nat) (c : Code) (Q : AEx → St → Prop) (σ : St) : Prop :=
  ∀ K a, m ≤ K.next → SR K N σ a → MW P B c (fun e a' w' => ∃ K' σ' e', K'.w = w' ∧ SR K' N σ' a' ∧ StM m K σ.h K' σ'.h ∧ ER K' e' e ∧ Q e' σ') a K.w

theorem W.mono {P : Program} {B : Fb → Prop} {N m : Nat} {c : Code} {Q Q' : AEx → St → Prop} {σ : St} (h : W P B N m c Q σ) (hq : ∀ e σ, Q e σ → Q' e σ) : W P B N m c Q' σ :=
  fun K a hm hs => (h K a hm hs).mono fun _ _ _ ⟨K', σ', e', h1, h2, h3, h4, h5⟩ => ⟨K', σ', e', h1, h2, h3, h4, hq _ _ h5⟩

/-- Ghost steps: the same machine state, told otherwise. -/
theorem W.ghostM {P : Program} {B : Fb → Prop} {N m : Nat} {c : Code} {Q : AEx → St → Prop} {σ σ1 : St}
    (hg : ∀ K a, m ≤ K.next → SR K N σ a → ∃ K1, K1.w = K.w ∧ SR K1 N σ1 a ∧ StM m K σ.h K1 σ1.h) (h : W P B N m c Q σ1) : W P B N m c Q σ := by
  intro K a hm hs
  obtain ⟨K1, hw, hs1, hst⟩ := hg K a hm hs
  have := h K1 a hst.next' hs1
  rw [hw] at this
  exact this.mono fun _ _ _ ⟨K', σ', e', h1, h2, h3, h4, h5⟩ => ⟨K', σ', e', h1, h2, hst.trans h3, h4, h5⟩
theorem W.ghost {P : Program} {B : Fb → Prop} {N m : Nat} {c : Code} {Q : AEx → St → Prop} {σ σ1 : St}
    (hg : ∀ K a, SR K N σ a → ∃ K1, K1.w = K.w ∧ SR K1 N σ1 a ∧ Step K σ.h K1 σ1.h) (h : W P B N m c Q σ1) : W P B N m c Q σ :=
  W.ghostM (fun K a hm hs => let ⟨K1, h1, h2, h3⟩ := hg K a hs; ⟨K1, h1, h2, h3.stm hm⟩) h

section rules
variable {P : Program} {B : Fb → Prop} {N m : Nat} {Q : AEx → St → Prop} {σ : St}
theorem w_skip (h : Q .normal σ) : W P B N m .skip Q σ := fun K _ hm hs => mw_skip ⟨K, σ, .normal, rfl, hs, .refl hm _, .normal, h⟩
theorem w_label {l : Nat} (h : Q .normal σ) : W P B N m (.label l) Q σ := fun K _ hm hs => mw_label ⟨K, σ, .normal, rfl, hs, .refl hm _, .normal, h⟩
theorem w_exit {id : Nat} (h : Q (.exit id) σ) : W P B N m (.exit id) Q σ := fun K _ hm hs => mw_exit ⟨K, σ, .exit id, rfl, hs, .refl hm _, .exit _, h⟩
theorem w_ret (h : Q .ret σ) : W P B N m .ret Q σ := fun K _ hm hs => mw_ret ⟨K, σ, .ret, rfl, hs, .refl hm _, .ret, h⟩

def AEx.go (next : St → Prop) (Q : AEx → St → Prop) : AEx → St → Prop
  | .normal, σ => next σ
  | e, σ => Q e σ
def AEx.blk (id : Nat) (Q : AEx → St → Prop) : AEx → St → Prop
  | .exit i, σ => if i = id then Q .normal σ else Q (.exit i) σ
  | e, σ => Q e σ

theorem w_seq {x y : Code} (h : W P B N m x (AEx.go (W P B N m y Q) Q) σ) : W P B N m (.seq x y) Q σ := by
  intro K a hm hs
  refine mw_seq ((h K a hm hs).mono ?_)
  rintro e a' w' ⟨K', σ', e', rfl, hs', hst, he, hq⟩
  cases he with
  | normal => exact (hq K' a' hst.next' hs').mono fun _ _ _ ⟨K2, σ2, e2, h1, h2, h3, h4, h5⟩ => ⟨K2, σ2, e2, h1, h2, hst.trans h3, h4, h5⟩
  | exit i => exact ⟨K', σ', _, rfl, hs', hst, .exit i, hq⟩
  | goto i => exact ⟨K', σ', _, rfl, hs', hst, .goto i, hq⟩
  | ret => exact ⟨K', σ', _, rfl, hs', hst, .ret, hq⟩
  | panic h => exact ⟨K', σ', _, rfl, hs', hst, .panic h, hq⟩
theorem w_block {id : Nat} {c : Code} (h : W P B N m c (AEx.blk id Q) σ) : W P B N m (.block id c) Q σ := by
  intro K a hm hs
  refine mw_block ((h K a hm hs).mono ?_)
  rintro e a' w' ⟨K', σ', e', rfl, hs', hst, he, hq⟩
  cases he with
  | normal => exact ⟨K', σ', _, rfl, hs', hst, .normal, hq⟩
  | exit i =>
    simp only [AEx.blk] at hq
    simp only [Ex.blk]
    split
    · rename_i hi; rw [if_pos hi] at hq; exact ⟨K', σ', .normal, rfl, hs', hst, .normal, hq⟩
    · rename_i hi; rw [if_neg hi] at hq; exact ⟨K', σ', _, rfl, hs', hst, .exit i, hq⟩
  | goto i => exact ⟨K', σ', _, rfl, hs', hst, .goto i, hq⟩
  | ret => exact ⟨K', σ', _, rfl, hs', hst, .ret, hq⟩
  | panic h => exact ⟨K', σ', _, rfl, hs', hst, .panic h, hq⟩
theorem w_loop {c : Code} (I : Nat → St → Prop) (n : Nat) (h0 : I n σ)
    (round : ∀ n σ, I n σ → W P B N m c (AEx.go (fun σ' => ∃ k, k < n ∧ I k σ') Q) σ) : W P B N m (.loop c) Q σ := by
  intro K a hm hs
  refine mw_loop (fun n a' w' => ∃ K' σ', K'.w = w' ∧ SR K' N σ' a' ∧ StM m K σ.h K' σ'.h ∧ I n σ') n ⟨K, σ, rfl, hs, .refl hm _, h0⟩ ?_
  rintro n a' w' ⟨K', σ', rfl, hs', hst, hI⟩
  refine (round n σ' hI K' a' hst.next' hs').mono ?_
  rintro e a2 w2 ⟨K2, σ2, e2, rfl, hs2, hst2, he, hq⟩
  cases he with
  | normal => obtain ⟨k, hk, hI2⟩ := hq; exact ⟨k, hk, K2, σ2, rfl, hs2, hst.trans hst2, hI2⟩
  | exit i => exact ⟨K2, σ2, _, rfl, hs2, hst.trans hst2, .exit i, hq⟩
  | goto i => exact ⟨K2, σ2, _, rfl, hs2, hst.trans hst2, .goto i, hq⟩
  | ret => exact ⟨K2, σ2, _, rfl, hs2, hst.trans hst2, .ret, hq⟩
  | panic h => exact ⟨K2, σ2, _, rfl, hs2, hst.trans hst2, .panic h, hq⟩
end rules
end Go.Lg

/- Regions, operations, calls, functions: the rules. -/
set_option linter.unusedVariables false
set_option linter.unusedSimpArgs false
set_option linter.unusedSectionVars false
namespace Go.Lg
open Go

/-- The machine's weakest precondition of the rest of a region. -/
def MO (P : Program) (B : Fb → Prop) (ops : Array Oper) (l : List Nat) (Q : Ex → Act → World → Prop) (a : Act) (w : World) : Prop :=
  ∀ (b : Fb), B b → ∀ (k : List Item) (cs : List Frame), ∃ e a' w', Q e a' w' ∧ Arr P (lone (b.fr a (.inRegion ops l :: k)) cs w) b k cs e a' w'

section mo
variable {P : Program} {B : Fb → Prop} {ops : Array Oper} {l : List Nat} {i : Nat} {o : Oper} {Q : Ex → Act → World → Prop} {a : Act} {w w' : World}
theorem mo_nil (h : Q .normal a w) : MO P B ops [] Q a w := fun _ _ _ _ => ⟨.normal, a, w, h, .one st_region_end⟩
theorem mo_skip (ho : ops[i]? = some o) (hw : Region.wanted o (yielded ops a.tmps) = false) (h : MO P B ops l Q (a.put o.dst undef) w) : MO P B ops (i :: l) Q a w := by
  intro b hb k cs
  obtain ⟨e, a', w', hq, harr⟩ := h b hb k cs
  have hs := st_op_skip (P := P) (b := b) (a := a) (k := k) (cs := cs) (w := w) (ops := ops) (i := i) (rest := l) (by simp [ho, hw])
  simp only [ho, Option.bind_some] at hs
  exact ⟨e, a', w', hq, .of_steps (.one hs) harr⟩
theorem fin_fr {b : Fb} {k : List Item} (ho : ops[i]? = some o) (v : Value) : (b.fr a (.inRegion ops (i :: l) :: k)).finish v = b.fr (a.put o.dst v) (.inRegion ops l :: k) := by
  rw [finish_fr, ho]; rfl
theorem mo_value {v : Value} (ho : ops[i]? = some o) (hw : Region.wanted o (yielded ops a.tmps) = true) (hd : ∀ c, o.op ≠ .defer c)
    (hr : (execOp a.eval o).run P w = .ok (.value v) w' ∨ ((execOp a.eval o).run P w = .ok .skip w' ∧ v = undef)) (h : MO P B ops l Q (a.put o.dst v) w') : MO P B ops (i :: l) Q a w := by
  intro b hb k cs
  obtain ⟨e, a', w'', hq, harr⟩ := h b hb k cs
  have hg := stG_op (P := P) (b := b) (k := k) (cs := cs) (w := w) (rest := l) ho hw (.inr hd)
  refine ⟨e, a', w'', hq, .of_steps (.one (step_lone_go ?_)) harr⟩
  rcases hr with hr | ⟨hr, rfl⟩
  · rw [hg, ← fin_fr ho]; simp [stepG.apply, hr]
  · rw [hg, ← fin_fr ho]; simp [stepG.apply, hr]
theorem mo_call {f : FuncId} {args : Array Value} {R : Ending → World → Prop} (ho : ops[i]? = some o) (hw : Region.wanted o (yielded ops a.tmps) = true) (hd : ∀ c, o.op ≠ .defer c)
    (hr : (execOp a.eval o).run P w = .ok (.enter f args) w') (hc : Calls P f args w' R)
    (h : ∀ e w2, R e w2 → (∃ v, e = .returned v ∧ MO P B ops l Q (a.put o.dst v) w2) ∨ (∃ v, e = .panicked [{ v, recovered := false }] ∧ Q (.panic v) a w2)) : MO P B ops (i :: l) Q a w := by
  intro b hb k cs
  have hg := stG_op (P := P) (b := b) (k := k) (cs := cs) (w := w) (rest := l) ho hw (.inr hd)
  obtain ⟨e, w'', fr, hR, hsteps, _, hleave⟩ := hc (b.fr a (.inRegion ops (i :: l) :: k) :: cs)
  have henter : step P (lone (b.fr a (.inRegion ops (i :: l) :: k)) cs w) = .next (lone (Frame.enter P f args .normal) (b.fr a (.inRegion ops (i :: l) :: k) :: cs) w') :=
    step_lone_go (by rw [hg]; simp [stepG.apply, hr, Fb.fr])
  rcases h e w'' hR with ⟨v, rfl, hm⟩ | ⟨v, rfl, hq⟩
  · obtain ⟨e, a', w₃, hq, harr⟩ := hm b hb k cs
    refine ⟨e, a', w₃, hq, .of_steps (.head henter (Steps.trans hsteps (.one ?_))) harr⟩
    rw [← fin_fr ho]; exact step_leave_returned hleave
  · exact ⟨.panic v, a, w'', hq, .inRegion ops (i :: l) :: k, rfl, .head henter (Steps.trans hsteps (.one (step_leave_panicked hleave)))⟩
theorem mw_region {id : Nat} (h : MO P B ops (List.range ops.size) Q a w) : MW P B (.region id ops false) Q a w :=
  fun b hb k cs => let ⟨e, a', w', q, r⟩ := h b hb k cs; ⟨e, a', w', q, .of_steps (.one st_region) r⟩
theorem mw_region_draw {id : Nat} (h : ∀ t, MO P B ops (Region.schedule (P.follows .mixedOrders) ops t) Q a { w with drawn := w.drawn + 1 }) : MW P B (.region id ops true) Q a w :=
  fun b hb k cs => let ⟨e, a', w', q, r⟩ := h _ b hb k cs; ⟨e, a', w', q, .of_steps (.one st_region_draw) r⟩
end mo

/-- What the logic's post says at the machine. -/
def Post (N m : Nat) (Q : AEx → St → Prop) (K : Ctx) (σ : St) : Ex → Act → World → Prop :=
  fun e a' w' => ∃ K' σ' e', K'.w = w' ∧ SR K' N σ' a' ∧ StM m K σ.h K' σ'.h ∧ ER K' e' e ∧ Q e' σ'
theorem Post.step {N m : Nat} {Q : AEx → St → Prop} {K K1 : Ctx} {σ σ1 : St} (hs : StM m K σ.h K1 σ1.h) {e : Ex} {a : Act} {w : World} (h : Post N m Q K1 σ1 e a w) : Post N m Q K σ e a w := by
  obtain ⟨K', σ', e', h1, h2, h3, h4, h5⟩ := h
  exact ⟨K', σ', e', h1, h2, hs.trans h3, h4, h5⟩
theorem MO.mono {P : Program} {B : Fb → Prop} {ops : Array Oper} {l : List Nat} {Q Q' : Ex → Act → World → Prop} {a : Act} {w : World} (h : MO P B ops l Q a w) (hq : ∀ e a w, Q e a w → Q' e a w) : MO P B ops l Q' a w :=
  fun b hb k cs => let ⟨e, a', w', q, r⟩ := h b hb k cs; ⟨e, a', w', hq _ _ _ q, r⟩

def WO (P : Program) (B : Fb → Prop) (N m : Nat) (ops : Array Oper) (l : List Nat) (Q : AEx → St → Prop) (σ : St) : Prop :=
  ∀ K a, m ≤ K.next → SR K N σ a → MO P B ops l (Post N m Q K σ) a K.w

/-- The rest of a region as a list. -/
def WL (P : Program) (B : Fb → Prop) (N m : Nat) (all rest : List Oper) (Q : AEx → St → Prop) (σ : St) : Prop :=
  ∀ pre, all = pre ++ rest → WO P B N m all.toArray (List.range' pre.length rest.length) Q σ

theorem w_region {P : Program} {B : Fb → Prop} {N m : Nat} {Q : AEx → St → Prop} {σ : St} {id : Nat} {ops : Array Oper} (h : WL P B N m ops.toList ops.toList Q σ) : W P B N m (.region id ops false) Q σ := by
  intro K a hm hs
  refine mw_region ?_
  have := h [] rfl K a hm hs
  simp only [Array.toArray_toList, List.length_nil, Array.length_toList] at this
  rw [List.range_eq_range']
  exact this
theorem wl_nil {P : Program} {B : Fb → Prop} {N m : Nat} {all : List Oper} {Q : AEx → St → Prop} {σ : St} (h : Q .normal σ) : WL P B N m all [] Q σ := by
  intro pre _ K a hm hs
  exact mo_nil ⟨K, σ, _, rfl, hs, .refl hm _, .normal, h⟩

def putT (tm : Nat → AV) : Option Tmp → AV → Nat → AV
  | some d, x => upd tm d x
  | none, _ => tm

/-- What an operation gives. -/
def OpV (P : Program) (N : Nat) (o : Oper) (σ : St) (x : AV) (h' : Heap) (n' : Nat) : Prop :=
  ∀ K a, SR K N σ a → ∃ v K', ((execOp a.eval o).run P K.w = .ok (.value v) K'.w ∨ ((execOp a.eval o).run P K.w = .ok .skip K'.w ∧ v = undef)) ∧
    K'.next = n' ∧ Rel K' h' ∧ Step K σ.h K' h' ∧ VR K' x v

theorem TR.put {K : Ctx} {N : Nat} {tm : Nat → AV} {a : Act} {d : Option Tmp} {x : AV} {v : Value} (h : TR K N tm a.tmps) (hd : ∀ t, d = some t → t < N) (hv : VR K x v) :
    TR K N (putT tm d x) (a.put d v).tmps := by
  cases d with
  | none => exact h
  | some t =>
    refine ⟨by simp [Act.put, h.1], fun s => ?_⟩
    have ht : t < a.tmps.size := by rw [h.1]; exact hd t rfl
    simp only [Act.put, putT, upd, Array.getD_eq_getD_getElem?, Array.getElem?_setIfInBounds]
    by_cases e : s = t
    · subst e; simp [ht]; exact hv
    · simp only [e, if_false, Ne.symm e]
      have := h.2 s
      simpa [Array.getD_eq_getD_getElem?] using this
theorem put_defers (a : Act) (d : Option Tmp) (v : Value) : (a.put d v).defers = a.defers := by cases d <;> rfl

def unguarded (all : List Oper) (o : Oper) (tm : Nat → AV) (b : Bool) : Prop :=
  match o.guard with
  | none => b = true
  | some (j, want) => ∃ oj t, all[j]? = some oj ∧ oj.dst = some t ∧ ((∃ c, tm t = .bool c ∧ b = (c == want)) ∨ (tm t = .tuple [] ∧ b = false))

theorem wanted_of {all : List Oper} {o : Oper} {K : Ctx} {N : Nat} {tm : Nat → AV} {tmps : Array Value} {b : Bool} (h : TR K N tm tmps) (hu : unguarded all o tm b) :
    Region.wanted o (yielded all.toArray tmps) = b := by
  unfold unguarded at hu
  unfold Region.wanted
  cases hg : o.guard with
  | none => simp [hg] at hu; simp [hu]
  | some p =>
    obtain ⟨j, want⟩ := p
    simp only [hg] at hu ⊢
    obtain ⟨oj, t, h1, h2, ⟨c, h3, rfl⟩ | ⟨h3, rfl⟩⟩ := hu
    rotate_left
    · have ht := h.2 t
      rw [h3] at ht
      simp only [yielded, List.getElem?_toArray, h1, h2, Option.bind_some]
      rw [Array.getD_eq_getD_getElem?] at ht
      cases hx : tmps[t]? with
      | none => simp
      | some y =>
        rw [hx] at ht
        cases y <;> first | (simp; done) | cases ht
    have ht := h.2 t
    rw [h3] at ht
    have hv : tmps.getD t undef = .bool c := by cases hh : tmps.getD t undef <;> rw [hh] at ht <;> cases ht; rfl
    have : tmps[t]? = some (.bool c) := by
      rw [Array.getD_eq_getD_getElem?] at hv
      cases hx : tmps[t]? with
      | none => simp [hx, undef] at hv
      | some y => simp [hx] at hv; rw [hv]
    simp [yielded, h1, h2, this]

section wl
variable {P : Program} {B : Fb → Prop} {N m : Nat} {all rest : List Oper} {o : Oper} {Q : AEx → St → Prop} {σ : St}
theorem range'_cons {α : Type} (pre rest : List α) (o : α) : List.range' pre.length (o :: rest).length = pre.length :: List.range' (pre ++ [o]).length rest.length := by
  simp [List.range'_succ]
theorem at_pre {all pre rest : List Oper} {o : Oper} (h : all = pre ++ o :: rest) : all.toArray[pre.length]? = some o := by subst h; simp
theorem wl_op {x : AV} {h' : Heap} {n' : Nat} (hu : unguarded all o σ.tm true) (hd : ∀ t, o.dst = some t → t < N) (hdf : ∀ c, o.op ≠ .defer c)
    (hv : OpV P N o σ x h' n') (h : WL P B N m all rest Q ⟨putT σ.tm o.dst x, h', n', σ.df⟩) : WL P B N m all (o :: rest) Q σ := by
  intro pre hp K a hm hs
  rw [range'_cons]
  obtain ⟨v, K', hr, hn, hrel, hst, hvr⟩ := hv K a hs
  have hE := hst.ext hs.rel
  refine mo_value (at_pre hp) (wanted_of hs.tr hu) hdf hr ?_
  have hs' : SR K' N ⟨putT σ.tm o.dst x, h', n', σ.df⟩ (a.put o.dst v) := ⟨hn, hrel, (hs.tr.mono hE).put hd hvr, by rw [put_defers]; exact hs.dr.mono hE⟩
  exact (h (pre ++ [o]) (by simp [hp]) K' _ (Nat.le_trans hm hst.next) hs').mono fun _ _ _ hq => hq.step (hst.stm hm)
theorem wl_skip (hu : unguarded all o σ.tm false) (hd : ∀ t, o.dst = some t → t < N) (h : WL P B N m all rest Q ⟨putT σ.tm o.dst (.tuple []), σ.h, σ.n, σ.df⟩) : WL P B N m all (o :: rest) Q σ := by
  intro pre hp K a hm hs
  rw [range'_cons]
  refine mo_skip (at_pre hp) (wanted_of hs.tr hu) ?_
  have hs' : SR K N ⟨putT σ.tm o.dst (.tuple []), σ.h, σ.n, σ.df⟩ (a.put o.dst undef) := ⟨hs.next, hs.rel, hs.tr.put hd (VR.undef_ K), by rw [put_defers]; exact hs.dr⟩
  exact h (pre ++ [o]) (by simp [hp]) K _ hm hs'
theorem wl_ghostM {σ1 : St} (hg : ∀ K a, m ≤ K.next → SR K N σ a → ∃ K1, K1.w = K.w ∧ SR K1 N σ1 a ∧ StM m K σ.h K1 σ1.h) (h : WL P B N m all rest Q σ1) : WL P B N m all rest Q σ := by
  intro pre hp K a hm hs
  obtain ⟨K1, hw, hs1, hst⟩ := hg K a hm hs
  have := h pre hp K1 a hst.next' hs1
  rw [hw] at this
  exact this.mono fun _ _ _ hq => hq.step hst
theorem wl_ghost {σ1 : St} (hg : ∀ K a, SR K N σ a → ∃ K1, K1.w = K.w ∧ SR K1 N σ1 a ∧ Step K σ.h K1 σ1.h) (h : WL P B N m all rest Q σ1) : WL P B N m all rest Q σ :=
  wl_ghostM (fun K a hm hs => let ⟨K1, h1, h2, h3⟩ := hg K a hs; ⟨K1, h1, h2, h3.stm hm⟩) h
theorem WL.mono {Q' : AEx → St → Prop} (h : WL P B N m all rest Q σ) (hq : ∀ e σ, Q e σ → Q' e σ) : WL P B N m all rest Q' σ :=
  fun pre hp K a hm hs => (h pre hp K a hm hs).mono fun _ _ _ ⟨K', σ', e', h1, h2, h3, h4, h5⟩ => ⟨K', σ', e', h1, h2, h3, h4, hq _ _ h5⟩
end wl

/-- How a call ends. -/
inductive AR where
  | ret (x : AV)
  | panic (x : AV)
inductive RR (K : Ctx) : AR → Ending → Prop
  | ret {x : AV} {v : Value} (h : VR K x v) : RR K (.ret x) (.returned v)
  | panic {x : AV} {v : Value} (h : VR K x v) : RR K (.panic x) (.panicked [{ v, recovered := false }])

/-- A call's contract: with this own memory (and whatever more there is), the next id 'n', it ends so. -/
def AC (P : Program) (f : FuncId) (args : List AV) (H : Heap) (n : Nat) (Q : AR → Heap → Nat → Prop) : Prop :=
  ∀ K vs, K.next = n → Rel K H → VRs K args vs.toList → Calls P f vs K.w fun e w' => ∃ K' H' r, K'.w = w' ∧ Rel K' H' ∧ Step K H K' H' ∧ RR K' r e ∧ Q r H' K'.next

theorem AC.mono {P : Program} {f : FuncId} {args : List AV} {H : Heap} {n : Nat} {Q Q' : AR → Heap → Nat → Prop} (h : AC P f args H n Q) (hq : ∀ r H n, Q r H n → Q' r H n) : AC P f args H n Q' :=
  fun K vs hn hr hv => (h K vs hn hr hv).mono fun _ _ ⟨K', H', r, h1, h2, h3, h4, h5⟩ => ⟨K', H', r, h1, h2, h3, h4, hq _ _ _ h5⟩

/-- An operation that calls. -/
def OpC (P : Program) (N : Nat) (o : Oper) (σ : St) (f : FuncId) (args : List AV) : Prop :=
  ∀ K a, SR K N σ a → ∃ vs, (execOp a.eval o).run P K.w = .ok (.enter f vs) K.w ∧ VRs K args vs.toList

section call
variable {P : Program} {B : Fb → Prop} {N m : Nat} {all rest : List Oper} {o : Oper} {Q : AEx → St → Prop} {σ : St} {f : FuncId} {args : List AV} {R : AR → Heap → Nat → Prop}
theorem wl_call (hu : unguarded all o σ.tm true) (hd : ∀ t, o.dst = some t → t < N) (hdf : ∀ c, o.op ≠ .defer c) (hc : OpC P N o σ f args) (hac : AC P f args σ.h σ.n R)
    (h : ∀ r h' n', R r h' n' → match r with
      | .ret x => WL P B N m all rest Q ⟨putT σ.tm o.dst x, h', n', σ.df⟩
      | .panic x => Q (.panic x) ⟨σ.tm, h', n', σ.df⟩) : WL P B N m all (o :: rest) Q σ := by
  intro pre hp K a hm hs
  rw [range'_cons]
  obtain ⟨vs, hr, hvs⟩ := hc K a hs
  refine mo_call (at_pre hp) (wanted_of hs.tr hu) hdf hr (hac K vs hs.next hs.rel hvs) ?_
  rintro e w2 ⟨K', H', r, rfl, hrel, hst, hrr, hR⟩
  have hE := hst.ext hs.rel
  have h := h r H' K'.next hR
  cases hrr with
  | @ret x v hv =>
    refine .inl ⟨v, rfl, ?_⟩
    have hs' : SR K' N ⟨putT σ.tm o.dst x, H', K'.next, σ.df⟩ (a.put o.dst v) := ⟨rfl, hrel, (hs.tr.mono hE).put hd hv, by rw [put_defers]; exact hs.dr.mono hE⟩
    exact (h (pre ++ [o]) (by simp [hp]) K' _ (Nat.le_trans hm hst.next) hs').mono fun _ _ _ hq => hq.step (hst.stm hm)
  | @panic x v hv =>
    refine .inr ⟨v, rfl, K', ⟨σ.tm, H', K'.next, σ.df⟩, .panic x, rfl, ⟨rfl, hrel, hs.tr.mono hE, hs.dr.mono hE⟩, hst.stm hm, .panic hv, h⟩
end call

/-- How a function's results are read. -/
def ResV (P : Program) (N : Nat) (fn : Func) (σ : St) (x : AV) : Prop :=
  ∀ K a, SR K N σ a → ∃ v, (results fn a.tmps).run P K.w = .ok v K.w ∧ VR K x v

def Done (P : Program) (fn : Func) (Q : AR → Heap → Nat → Prop) : AEx → St → Prop
  | .normal, σ | .ret, σ => σ.df = [] ∧ ∃ x, ResV P fn.ntmps fn σ x ∧ Q (.ret x) σ.h σ.n
  | .panic x, σ => σ.df = [] ∧ Q (.panic x) σ.h σ.n
  | _, _ => False

def args0 (args : List AV) : Nat → AV := fun t => args.getD t (.tuple [])

theorem st_end {P : Program} {b : Fb} (hb : b.round = none) {a : Act} {cs : List Frame} {w : World} :
    step P (lone (b.fr a []) cs w) = .next (lone { b.fr a [] with mode := .returning } cs w) :=
  step_lone_go (by simp [stepG, stepG.exec, Fb.fr, hb])
theorem st_ret {P : Program} {b : Fb} (hb : b.round = none) {a : Act} {k : List Item} {cs : List Frame} {w : World} :
    step P (lone (b.fr a (.code .ret :: k)) cs w) = .next (lone { b.fr a (.code .ret :: k) with mode := .returning } cs w) :=
  step_lone_go (by simp [stepG, stepG.exec, Fb.fr, hb])

/-- A frame that is no round. -/
def Plain : Fb → Prop := fun b => b.round = none
theorem ac_of_w {P : Program} {f : FuncId} {fn : Func} {c : Code} {args : List AV} {H : Heap} {n : Nat} {Q : AR → Heap → Nat → Prop}
    (hf : P.funcs[f]? = some fn) (hb : fn.body = some c) (hN : args.length ≤ fn.ntmps)
    (h : W P Plain fn.ntmps n c (Done P fn Q) ⟨args0 args, H, n, []⟩) : AC P f args H n Q := by
  intro K vs hn hrel hvs cs
  let b : Fb := { fn := f, kind := .normal, round := none }
  let a : Act := { tmps := vs ++ Array.replicate (fn.ntmps - vs.size) undef, defers := [] }
  have henter : Frame.enter P f vs .normal = b.fr a [.code c] := by
    simp [Frame.enter, Fb.fr, hf, hb, b, a]
  have hz : vs.size = args.length := by simpa using hvs.1
  have htr : TR K fn.ntmps (args0 args) a.tmps := by
    refine ⟨by simp [a]; omega, fun t => ?_⟩
    simp only [a, args0, Array.getD_eq_getD_getElem?, Array.getElem?_append, Array.getElem?_replicate]
    by_cases ht : t < vs.size
    · simp only [ht, if_true]
      have hx : args[t]? = some (args[t]'(by omega)) := List.getElem?_eq_getElem (by omega)
      have hv : vs.toList[t]? = some vs[t] := by simp [ht]
      have := hvs.2 t _ _ hx hv
      simpa [hx, ht] using this
    · simp only [ht, if_false]
      have hx : args[t]? = none := List.getElem?_eq_none (by omega)
      have : ∀ (c : Bool), ((if c = true then some undef else none : Option Value).getD undef) = undef := by intro c; cases c <;> rfl
      have h2 : (if t - vs.size < fn.ntmps - vs.size then some undef else none : Option Value).getD undef = undef := by split <;> rfl
      rw [h2]
      simp [hx]
      exact VR.undef_ K
  have hs : SR K fn.ntmps ⟨args0 args, H, n, []⟩ a := ⟨hn, hrel, htr, rfl⟩
  obtain ⟨e, a', w', ⟨K', σ', e', hw, hs', hst, he, hq⟩, harr⟩ := h K a (Nat.le_of_eq hn.symm) hs b rfl [] cs
  have hst : Step K H K' σ'.h := (hn ▸ hst : StM K.next K H K' σ'.h).step
  subst hw
  rw [← henter] at harr
  cases he with
  | normal =>
    obtain ⟨hd, x, hx, hQ⟩ := hq
    obtain ⟨v, hr, hv⟩ := hx K' a' hs'
    have hdd : a'.defers = [] := by have := hs'.dr; rw [hd] at this; exact this
    exact ⟨.returned v, K'.w, _, ⟨K', σ'.h, .ret x, rfl, hs'.rel, hst, .ret hv, by rw [hs'.next]; exact hQ⟩, Steps.trans harr (.one (st_end rfl)), rfl, rfl, (by show a'.defers ++ [] = []; rw [hdd]; rfl), rfl, fn, hf, hr⟩
  | ret =>
    obtain ⟨hd, x, hx, hQ⟩ := hq
    obtain ⟨v, hr, hv⟩ := hx K' a' hs'
    have hdd : a'.defers = [] := by have := hs'.dr; rw [hd] at this; exact this
    obtain ⟨k1, harr⟩ := harr
    exact ⟨.returned v, K'.w, _, ⟨K', σ'.h, .ret x, rfl, hs'.rel, hst, .ret hv, by rw [hs'.next]; exact hQ⟩, Steps.trans harr (.one (st_ret rfl)), rfl, rfl, (by show a'.defers ++ [] = []; rw [hdd]; rfl), rfl, fn, hf, hr⟩
  | @panic x v hv =>
    obtain ⟨hd, hQ⟩ := hq
    have hdd : a'.defers = [] := by have := hs'.dr; rw [hd] at this; exact this
    obtain ⟨k1, _, harr⟩ := harr
    exact ⟨.panicked _, K'.w, _, ⟨K', σ'.h, .panic x, rfl, hs'.rel, hst, .panic hv, by rw [hs'.next]; exact hQ⟩, harr, rfl, rfl, (by show a'.defers ++ [] = []; rw [hdd]; rfl), fn, hf⟩
  | exit i => exact hq.elim
  | goto i => exact hq.elim
end Go.Lg

/- Pure operations: a function that gives their abstract value, and that the machine gives the same. -/
set_option linter.unusedVariables false
set_option linter.unusedSimpArgs false
set_option linter.unusedSectionVars false
namespace Go.Lg
open Go

/-- What is known of a type. -/
structure TI where
  desc : TypeDesc
  size : Nat
  bytes : Nat
  zero : List AV
abbrev TT := TypeId → Option TI
def isAggD : TypeDesc → Bool
  | .struct _ | .array _ _ => true
  | _ => false
structure TOK (P : Program) (T : TT) : Prop where
  und : ∀ t i, T t = some i → P.underlying t = some i.desc
  info : ∀ t i, T t = some i → ∃ ti z, P.info? t = some ti ∧ ti.size = i.size ∧ ti.bytes = i.bytes ∧ ti.zero = some z ∧ z.cells.size = i.size ∧ (isAggD i.desc = true → z = .agg z.cells) ∧ ∀ K, VRs K i.zero z.cells.toList
  nagg : ∀ t i, T t = some i → isAggD i.desc = false → ∃ ti z, P.info? t = some ti ∧ ti.zero = some z ∧ z.cells = #[z]

theorem run_bindv {α β : Type} {P : Program} {x : Sem α} {f : α → Sem β} {w w' : World} {a : α} (h : x.run P w = .ok a w') : (x >>= f).run P w = (f a).run P w' := by
  rw [Sem.run_bind, h]; rfl
theorem run_purev {α : Type} {P : Program} (a : α) (w : World) : (pure a : Sem α).run P w = .ok a w := rfl
section types
variable {P : Program} {T : TT} (hT : TOK P T) {t : TypeId} {i : TI} (ht : T t = some i) (w : World)
include hT ht
theorem r_und : (underlying t).run P w = .ok i.desc w := run_underlying (hT.und t i ht) w
theorem r_size : (sizeOf t).run P w = .ok i.size w := by
  obtain ⟨ti, z, h1, h2, _⟩ := hT.info t i ht
  simp [sizeOf, typeInfo, program, Sem.run, h1, h2]
theorem r_zero : ∃ z, (zeroValue t).run P w = .ok z w ∧ z.cells.size = i.size ∧ (isAggD i.desc = true → z = .agg z.cells) ∧ ∀ K, VRs K i.zero z.cells.toList := by
  obtain ⟨ti, z, h1, h2, h3, h4, h5, h6, h7⟩ := hT.info t i ht
  exact ⟨z, by simp [zeroValue, typeInfo, program, Sem.run, h1, h4], h5, h6, h7⟩
theorem r_isAgg : (isAgg t).run P w = .ok (isAggD i.desc) w := by
  unfold isAgg
  rw [run_bindv (r_und hT ht w)]
  unfold isAggD
  split <;> simp_all <;> rfl
end types

def cval : Value → Option AV
  | .bool b => some (.bool b)
  | .int k n => some (.int k n)
  | .string s => some (.str s.data.toList)
  | .slice none 0 0 => some .empty
  | .pointer none => some .nilptr
  | .nilFunc => some .nilFunc
  | .nilIface => some .nilIface
  | .iface t (.int k n) => some (.iface t (.int k n))
  | .map none => some .any
  | _ => none
theorem cval_sound {K : Ctx} {v : Value} {x : AV} (h : cval v = some x) : VR K x v := by
  unfold cval at h
  split at h <;> first | (obtain rfl := Option.some.inj h) | cases h
  · exact .bool _
  · exact .int _ _
  · exact .str _
  · exact .empty _
  · exact .nilptr
  · exact .nilFunc
  · exact .nilIface
  · exact .iface (.int _ _)
  · exact .any _

def evo (tm : Nat → AV) : Operand → Option AV
  | .tmp t => some (tm t)
  | .const v => cval v
  | .func f => some (.func (.func f) [] [])
  | .global _ => none
theorem evo_sound {K : Ctx} {N : Nat} {tm : Nat → AV} {a : Act} {x : Operand} {y : AV} (hr : TR K N tm a.tmps) (h : evo tm x = some y) : VR K y (a.eval x) := by
  cases x with
  | tmp t => obtain rfl := Option.some.inj h; exact hr.2 t
  | const v => exact cval_sound h
  | func f => obtain rfl := Option.some.inj h; exact .func trivial rfl rfl (by simp) (by simp)
  | global g => simp [evo] at h
def evs (tm : Nat → AV) : List Operand → Option (List AV)
  | [] => some []
  | x :: r => match evo tm x, evs tm r with
    | some y, some ys => some (y :: ys)
    | _, _ => none
theorem evs_sound {K : Ctx} {N : Nat} {tm : Nat → AV} {a : Act} (hr : TR K N tm a.tmps) : ∀ {xs : List Operand} {ys : List AV}, evs tm xs = some ys → VRs K ys (xs.map a.eval)
  | [], ys, h => by obtain rfl := Option.some.inj h; exact VRs.nil K
  | x :: r, ys, h => by
    unfold evs at h
    split at h
    · rename_i y ys' h1 h2
      obtain rfl := Option.some.inj h
      exact .cons (evo_sound hr h1) (evs_sound hr h2)
    · cases h

def intop (op : BinOp) (k : IntKind) (a b : Int) : Option AV :=
  match op with
  | .add => some (.int k (k.wrap (a + b)))
  | .sub => some (.int k (k.wrap (a - b)))
  | .mul => some (.int k (k.wrap (a * b)))
  | .quo => if b = 0 then none else some (.int k (k.wrap (a.tdiv b)))
  | .rem => if b = 0 then none else some (.int k (a.tmod b))
  | .and => some (.int k (k.wrap (BitVec.ofInt k.bits a &&& BitVec.ofInt k.bits b).toNat))
  | .or => some (.int k (k.wrap (BitVec.ofInt k.bits a ||| BitVec.ofInt k.bits b).toNat))
  | .xor => some (.int k (k.wrap (BitVec.ofInt k.bits a ^^^ BitVec.ofInt k.bits b).toNat))
  | .eql => some (.bool (a == b))
  | .neq => some (.bool (a != b))
  | .lss => some (.bool (decide (a < b)))
  | .leq => some (.bool (decide (a ≤ b)))
  | .gtr => some (.bool (decide (a > b)))
  | .geq => some (.bool (decide (a ≥ b)))
  | _ => none
def binv (T : TT) (op : BinOp) (t : TypeId) (x y : AV) : Option AV :=
  match x, y with
  | .int k a, .int k' b =>
    match op with
    | .shl => if b < 0 then none else some (.int k (k.wrap (a * 2 ^ (min b.toNat k.bits))))
    | .shr => if b < 0 then none else some (.int k (a.fdiv (2 ^ (min b.toNat k.bits))))
    | _ => if k = k' then intop op k a b else none
  | .str a, .str b =>
    match op with
    | .eql => some (.bool (a == b))
    | .neq => some (.bool !(a == b))
    | _ => none
  | .bool a, .bool b =>
    match (T t).map (·.desc) with
    | some TypeDesc.bool => match op with
      | .eql => some (.bool (a == b))
      | .neq => some (.bool !(a == b))
      | _ => none
    | _ => none
  | .nilIface, .iface _ _ | .iface _ _, .nilIface =>
    match (T t).map (·.desc) with
    | some (TypeDesc.interface _) => match op with
      | .eql => some (.bool false)
      | .neq => some (.bool true)
      | _ => none
    | _ => none
  | _, _ => none
theorem desc_of {T : TT} {t : TypeId} {d : TypeDesc} (h : (T t).map (·.desc) = some d) : ∃ i, T t = some i ∧ i.desc = d := by
  cases hh : T t with
  | none => simp [hh] at h
  | some i => exact ⟨i, rfl, by simpa [hh] using h⟩
theorem guard_int (P : Program) (op : BinOp) (t : TypeId) (x y : Operand) (a b : Value) (w : World) (ha : ∀ cs, a ≠ .agg cs) (hab : a ≠ .nilIface ∨ b ≠ .nilIface) : (eqGuard op t x y a b).run P w = .ok () w := by
  unfold eqGuard
  cases op <;> first
    | rfl
    | (cases a <;> cases b <;> first | rfl | (exact absurd rfl (ha _)) | (rcases hab with h | h <;> exact absurd rfl h))
theorem run_intop {P : Program} {op : BinOp} {t : TypeId} {k : IntKind} {a b : Int} {x : AV} (h : intop op k a b = some x) (w : World) :
    ∃ v, (binOp op t (.int k a) (.int k b)).run P w = .ok v w ∧ ∀ K, VR K x v := by
  cases op <;> simp only [intop] at h
  case add => obtain rfl := Option.some.inj h; exact ⟨_, by simp [binOp, Op.intArith], fun K => .int _ _⟩
  case sub => obtain rfl := Option.some.inj h; exact ⟨_, by simp [binOp, Op.intArith], fun K => .int _ _⟩
  case mul => obtain rfl := Option.some.inj h; exact ⟨_, by simp [binOp, Op.intArith], fun K => .int _ _⟩
  case quo =>
    split at h
    · cases h
    · rename_i hb
      obtain rfl := Option.some.inj h
      exact ⟨_, by simp [binOp, Op.intDiv, hb], fun K => .int _ _⟩
  case rem =>
    split at h
    · cases h
    · rename_i hb
      obtain rfl := Option.some.inj h
      exact ⟨_, by simp [binOp, Op.intDiv, hb], fun K => .int _ _⟩
  case and => obtain rfl := Option.some.inj h; exact ⟨_, by simp [binOp, Op.intBits], fun K => .int _ _⟩
  case or => obtain rfl := Option.some.inj h; exact ⟨_, by simp [binOp, Op.intBits], fun K => .int _ _⟩
  case xor => obtain rfl := Option.some.inj h; exact ⟨_, by simp [binOp, Op.intBits], fun K => .int _ _⟩
  case eql => obtain rfl := Option.some.inj h; exact ⟨_, by simp [binOp, Op.intCmp], fun K => .bool _⟩
  case neq => obtain rfl := Option.some.inj h; exact ⟨_, by simp [binOp, Op.intCmp], fun K => .bool _⟩
  case lss => obtain rfl := Option.some.inj h; exact ⟨_, by simp [binOp, Op.intCmp], fun K => .bool _⟩
  case leq => obtain rfl := Option.some.inj h; exact ⟨_, by simp [binOp, Op.intCmp], fun K => .bool _⟩
  case gtr => obtain rfl := Option.some.inj h; exact ⟨_, by simp [binOp, Op.intCmp], fun K => .bool _⟩
  case geq => obtain rfl := Option.some.inj h; exact ⟨_, by simp [binOp, Op.intCmp], fun K => .bool _⟩
  all_goals cases h
theorem run_eql {P : Program} {t : TypeId} {x y : Value} {b : Bool} {w : World} (h : ∀ d, (Op.equalIn (d + 1) t x y).run P w = .ok b w) : (Op.equal t x y).run P w = .ok b w := h 9999
theorem run_eqbin {P : Program} {t : TypeId} {x y : Value} {b : Bool} {w : World} (h : ∀ d, (Op.equalIn (d + 1) t x y).run P w = .ok b w)
    (he : binOp .eql t x y = (do pure (.bool (← Op.equal t x y)))) : (binOp .eql t x y).run P w = .ok (.bool b) w := by
  rw [he, run_bindv (run_eql h)]; rfl
theorem run_nebin {P : Program} {t : TypeId} {x y : Value} {b : Bool} {w : World} (h : ∀ d, (Op.equalIn (d + 1) t x y).run P w = .ok b w)
    (he : binOp .neq t x y = (do pure (.bool (!(← Op.equal t x y))))) : (binOp .neq t x y).run P w = .ok (.bool !b) w := by
  rw [he, run_bindv (run_eql h)]; rfl
theorem run_binv {P : Program} {T : TT} (hT : TOK P T) {op : BinOp} {t : TypeId} {x y z : AV} (h : binv T op t x y = some z) {K : Ctx} {a b : Value} (ha : VR K x a) (hb : VR K y b) (xo yo : Operand) :
    ∃ v, (do eqGuard op t xo yo a b; binOp op t a b : Sem Value).run P K.w = .ok v K.w ∧ VR K z v := by
  unfold binv at h
  split at h
  · cases ha; cases hb
    rw [run_bindv (guard_int P op t xo yo _ _ K.w (by simp) (.inl (by simp)))]
    split at h
    · split at h
      · cases h
      · rename_i hneg; obtain rfl := Option.some.inj h
        exact ⟨_, by simp [binOp, Op.shift, hneg], .int _ _⟩
    · split at h
      · cases h
      · rename_i hneg; obtain rfl := Option.some.inj h
        exact ⟨_, by simp [binOp, Op.shift, hneg], .int _ _⟩
    · split at h
      · rename_i hk; subst hk
        obtain ⟨v, h1, h2⟩ := run_intop (P := P) (t := t) h K.w
        exact ⟨v, h1, h2 K⟩
      · cases h
  · cases ha with
    | str s1 => cases hb with
      | str s2 =>
        rw [run_bindv (guard_int P op t xo yo _ _ K.w (by simp) (.inl (by simp)))]
        have e : ∀ s : ByteArray, s.toList = s.data.toList := fun s => ByteArray.toList_eq s
        split at h <;> first | (obtain rfl := Option.some.inj h; exact ⟨_, by simp only [binOp, Op.stringOp, e]; rfl, .bool _⟩) | cases h
  · cases ha; cases hb
    rw [run_bindv (guard_int P op t xo yo _ _ K.w (by simp) (.inl (by simp)))]
    split at h
    · rename_i hd
      obtain ⟨i, hi, hid⟩ := desc_of hd
      have hu := r_und hT hi K.w
      rw [hid] at hu
      split at h <;> first | (obtain rfl := Option.some.inj h; exact ⟨_, run_eqbin (fun d => by unfold Op.equalIn; rw [run_bindv hu]; rfl) rfl, .bool _⟩) | (obtain rfl := Option.some.inj h; exact ⟨_, run_nebin (fun d => by unfold Op.equalIn; rw [run_bindv hu]; rfl) rfl, .bool _⟩) | cases h
    · cases h
  · cases ha; cases hb
    rw [run_bindv (guard_int P op t xo yo _ _ K.w (by simp) (.inr (by simp)))]
    split at h
    · rename_i hd
      obtain ⟨i, hi, hid⟩ := desc_of hd
      have hu := r_und hT hi K.w
      rw [hid] at hu
      split at h <;> first | (obtain rfl := Option.some.inj h; exact ⟨_, run_eqbin (fun d => by unfold Op.equalIn; rw [run_bindv hu]; rfl) rfl, .bool _⟩) | (obtain rfl := Option.some.inj h; exact ⟨_, run_nebin (fun d => by unfold Op.equalIn; rw [run_bindv hu]; rfl) rfl, .bool _⟩) | cases h
    · cases h
  · cases ha; cases hb
    rw [run_bindv (guard_int P op t xo yo _ _ K.w (by simp) (.inl (by simp)))]
    split at h
    · rename_i hd
      obtain ⟨i, hi, hid⟩ := desc_of hd
      have hu := r_und hT hi K.w
      rw [hid] at hu
      split at h <;> first | (obtain rfl := Option.some.inj h; exact ⟨_, run_eqbin (fun d => by unfold Op.equalIn; rw [run_bindv hu]; rfl) rfl, .bool _⟩) | (obtain rfl := Option.some.inj h; exact ⟨_, run_nebin (fun d => by unfold Op.equalIn; rw [run_bindv hu]; rfl) rfl, .bool _⟩) | cases h
    · cases h
  · cases h
end Go.Lg

/- Pure operations, on: the function 'pv'. -/
set_option linter.unusedVariables false
set_option linter.unusedSimpArgs false
set_option linter.unusedSectionVars false
namespace Go.Lg
open Go

theorem add_plain (b o j : Nat) : (⟨b, o, none⟩ : Addr).add j = ⟨b, o + j, none⟩ := by
  unfold Addr.add; split
  · rename_i h; subst h; rfl
  · rfl
theorem VRs.drop {K : Ctx} {xs : List AV} {vs : List Value} (n : Nat) (h : VRs K xs vs) : VRs K (xs.drop n) (vs.drop n) :=
  ⟨by simp [h.1], fun i x v hx hv => by rw [List.getElem?_drop] at hx hv; exact h.2 _ x v hx hv⟩
theorem VRs.take {K : Ctx} {xs : List AV} {vs : List Value} (n : Nat) (h : VRs K xs vs) : VRs K (xs.take n) (vs.take n) :=
  ⟨by simp [h.1], fun i x v hx hv => by
    rw [List.getElem?_take] at hx hv
    split at hx
    · rename_i hi; rw [if_pos hi] at hv; exact h.2 _ x v hx hv
    · cases hx⟩
theorem VRs.get {K : Ctx} {xs : List AV} {vs : List Value} (h : VRs K xs vs) {i : Nat} {x : AV} (hx : xs[i]? = some x) : ∃ v, vs[i]? = some v ∧ VR K x v := by
  have hi : i < vs.length := by rw [h.1]; exact (List.getElem?_eq_some_iff.1 hx).1
  exact ⟨vs[i], List.getElem?_eq_getElem hi, h.2 i x _ hx (List.getElem?_eq_getElem hi)⟩

def loadA (i : TI) (xs : List AV) : Option AV := if isAggD i.desc then (if i.size ≤ xs.length then some (.agg (xs.take i.size)) else none) else xs[0]?
def partA (i : TI) (cs : List AV) (off : Nat) : Option AV := if isAggD i.desc then (if off + i.size ≤ cs.length then some (.agg ((cs.drop off).take i.size)) else none) else cs[off]?

section
variable {P : Program} {T : TT} (hT : TOK P T)
include hT
/-- Cells at a place, as they read. -/
theorem r_loadVar {t : TypeId} {i : TI} (ht : T t = some i) {K : Ctx} {xs : List AV} {y : AV} {blk off : Nat} {vs : List Value} (hv : VRs K xs vs) (hc : ∀ (j : Nat) v, vs[j]? = some v → K.w.cell? ⟨blk, off + j, none⟩ = some v)
    (hy : loadA i xs = some y) : ∃ v, (loadVar t ⟨blk, off, none⟩).run P K.w = .ok v K.w ∧ VR K y v := by
  unfold loadA at hy
  unfold loadVar
  rw [run_bindv (r_isAgg hT ht K.w)]
  split at hy
  · rename_i hagg
    split at hy
    · rename_i hle
      obtain rfl := Option.some.inj hy
      rw [if_pos hagg, run_bindv (r_size hT ht K.w)]
      have hl : (vs.take i.size).length = i.size := by rw [List.length_take, hv.1]; omega
      have := run_loadCells_list (P := P) (w := K.w) ⟨blk, off, none⟩ (vs.take i.size) (fun j v hj => by
        rw [add_plain]; rw [List.getElem?_take] at hj
        split at hj
        · exact hc j v hj
        · cases hj)
      rw [hl] at this
      rw [run_bindv this]
      exact ⟨_, rfl, VR.agg_.2 (by simpa using hv.take i.size)⟩
    · cases hy
  · rename_i hagg
    obtain ⟨v, h1, h2⟩ := hv.get hy
    rw [if_neg hagg]
    refine ⟨v, ?_, h2⟩
    have := hc 0 v h1
    simp only [Nat.add_zero] at this
    simp [Go.load, Sem.run, this]
theorem r_part {t : TypeId} {i : TI} (ht : T t = some i) {K : Ctx} {xs : List AV} {y : AV} {off : Nat} {vs : Array Value} (hv : VRs K xs vs.toList)
    (hy : partA i xs off = some y) : ∃ v, (part t vs off).run P K.w = .ok v K.w ∧ VR K y v := by
  unfold partA at hy
  unfold part
  rw [run_bindv (r_isAgg hT ht K.w)]
  split at hy
  · rename_i hagg
    split at hy
    · obtain rfl := Option.some.inj hy
      rw [if_pos hagg, run_bindv (r_size hT ht K.w)]
      refine ⟨_, rfl, VR.agg_.2 ?_⟩
      have : (vs.extract off (off + i.size)).toList = (vs.toList.drop off).take i.size := by simp
      rw [this]
      exact (hv.drop off).take _
    · cases hy
  · rename_i hagg
    obtain ⟨v, h1, h2⟩ := hv.get hy
    rw [if_neg hagg]
    have : vs[off]? = some v := by rw [← Array.getElem?_toList]; exact h1
    rw [this]
    exact ⟨v, rfl, h2⟩
end

def lenA (d : TypeDesc) (x : AV) : Option Int :=
  match d, x with
  | .string, .str s => some s.length
  | .slice _, .view rows => some rows.length
  | .slice _, .empty => some 0
  | .slice _, .slice _ _ n _ _ => some n
  | .array n _, _ => some n
  | _, _ => none

def pvPick (c a b : AV) : Option AV :=
  match c with
  | .bool true => some a
  | .bool false => some b
  | _ => none
def pvUn (op : UnOp) (x : AV) : Option AV :=
  match op, x with
  | .not, .bool b => some (.bool !b)
  | .neg, .int k n => some (.int k (k.wrap (0 - n)))
  | _, _ => none
def pvConv (T : TT) (s d : TypeId) (x : AV) : Option AV :=
  match T s, T d with
  | some _, some j => match j.desc, x with
    | .int k, .int _ n => some (.int k (k.wrap n))
    | .string, .str s => some (.str s)
    | _, _ => none
  | _, _ => none
def pvExtract (i : Nat) (x : AV) : Option AV :=
  match x with
  | .tuple vs => vs[i]?
  | _ => none
def fieldOf (T : TT) (t : TypeId) (f : Nat) : Option (Field × TI) :=
  match T t with
  | some i => match i.desc with
    | .struct fs => match fs[f]? with
      | some fd => match T fd.type with
        | some fi => some (fd, fi)
        | none => none
      | none => none
    | _ => none
  | none => none
def pvField (T : TT) (t : TypeId) (f : Nat) (x : AV) : Option AV :=
  match fieldOf T t f, x with
  | some (fd, fi), .agg cs => partA fi cs fd.offset
  | _, _ => none
def pvFieldAddr (T : TT) (t : TypeId) (f : Nat) (x : AV) : Option AV :=
  match fieldOf T t f with
  | some (fd, fi) => if fi.size = 0 then none else match x with
    | .vptr cells => some (.vptr (cells.drop fd.offset))
    | .ptr id off => some (.ptr id (off + fd.offset))
    | _ => none
  | none => none
def pvLoad (T : TT) (t : TypeId) (x : AV) : Option AV :=
  match T t, x with
  | some i, .vptr cells => loadA i cells
  | _, _ => none
def pvNil (x : AV) : Option AV :=
  match x with
  | .vptr c => some (.vptr c)
  | .ptr i o => some (.ptr i o)
  | .func (.func f) a b => some (.func (.func f) a b)
  | _ => none
def isIface : TypeDesc → Bool
  | .interface _ => true
  | _ => false
def pvIface (T : TT) (t : TypeId) (x : AV) : Option AV :=
  match T t with
  | some i => if isIface i.desc = true then none else some (.iface t x)
  | none => none
def noYieldB : Fn → Bool
  | .yield _ => false
  | _ => true
def pvLen (T : TT) (t : TypeId) (x : AV) : Option AV :=
  match T t with
  | some i => match lenA i.desc x with
    | some n => some (.int .i64 n)
    | none => none
  | none => none
def pvCall (T : TT) (tm : Nat → AV) (c : Call) : Option AV :=
  match c with
  | { callee := .builtin .len, args := ⟨[x]⟩, argTypes := ⟨[t]⟩ } => (evo tm x).bind (pvLen T t)
  | _ => none
def pv (T : TT) (tm : Nat → AV) (op : Op) : Option AV :=
  match op with
  | .move x => evo tm x
  | .assign x => evo tm x
  | .pick c a b => (evo tm c).bind fun c => (evo tm a).bind fun a => (evo tm b).bind fun b => pvPick c a b
  | .binOp op t x y _ => (evo tm x).bind fun a => (evo tm y).bind fun b => binv T op t a b
  | .unOp op _ x => (evo tm x).bind (pvUn op)
  | .convert s d x => (evo tm x).bind (pvConv T s d)
  | .extract x i => (evo tm x).bind (pvExtract i)
  | .field t x f => (evo tm x).bind (pvField T t f)
  | .fieldAddr t x f => (evo tm x).bind (pvFieldAddr T t f)
  | .load t x => (evo tm x).bind (pvLoad T t)
  | .nilCheck x => (evo tm x).bind pvNil
  | .makeInterface t x => (evo tm x).bind (pvIface T t)
  | .makeFunc fn first cap => if noYieldB fn = true then (evs tm first.toList).bind fun a => (evs tm cap.toList).bind fun b => some (.func fn a b) else none
  | .call c => pvCall T tm c
  | _ => none

theorem getD_toList (a : Array Value) (i : Nat) : a.getD i undef = a.toList.getD i undef := by
  rw [Array.getD_eq_getD_getElem?, List.getD_eq_getElem?_getD, Array.getElem?_toList]
theorem VRs.func {K : Ctx} {fn : Fn} {xs ys : List AV} {vs us : Array Value} (hn : Fn.noYield fn) (h1 : VRs K xs vs.toList) (h2 : VRs K ys us.toList) : VR K (.func fn xs ys) (.func fn vs us) := by
  have key : ∀ {xs : List AV} {vs : Array Value}, VRs K xs vs.toList → ∀ (i : Nat) x, xs[i]? = some x → VR K x (vs.getD i undef) := by
    intro xs vs h i x hx
    obtain ⟨v, hv, hr⟩ := h.get hx
    rw [getD_toList, List.getD_eq_getElem?_getD, hv]; exact hr
  exact .func hn (by simpa using h1.1) (by simpa using h2.1) (key h1) (key h2)

/-- An operation that gives a value and leaves the world. -/
theorem opv_of {P : Program} {N : Nat} {o : Oper} {σ : St} {x : AV} (h : ∀ K a, SR K N σ a → ∃ v, (execOp a.eval o).run P K.w = .ok (.value v) K.w ∧ VR K x v) : OpV P N o σ x σ.h σ.n :=
  fun K a hs => let ⟨v, h1, h2⟩ := h K a hs; ⟨v, K, .inl h1, hs.next, hs.rel, .refl _ _, h2⟩
theorem run_v {P : Program} {s : Sem Value} {w w' : World} {v : Value} (h : s.run P w = .ok v w') : (do pure (Next.value (← s)) : Sem Next).run P w = .ok (.value v) w' := by
  rw [run_bindv h]; rfl

theorem vptr_cells {K : Ctx} {cells : List AV} {v : Value} (h : VR K (.vptr cells) v) : ∃ blk off vs, v = .pointer (some ⟨blk, off, none⟩) ∧ K.ro blk ∧ VRs K cells vs ∧ ∀ (j : Nat) u, vs[j]? = some u → K.w.cell? ⟨blk, off + j, none⟩ = some u := by
  cases h with
  | @vptr cells blk off f hr hc hv =>
    refine ⟨blk, off, (List.range cells.length).map f, rfl, hr, ⟨by simp, fun i x v hx hv' => ?_⟩, fun j u hu => ?_⟩
    · have hi : i < cells.length := (List.getElem?_eq_some_iff.1 hx).1
      simp [hi] at hv'
      subst hv'
      exact hv i x hx
    · by_cases hj : j < cells.length
      · simp [hj] at hu; subst hu; exact hc j hj
      · simp [hj] at hu
theorem vptr_mk {K : Ctx} {cells : List AV} {blk off : Nat} {vs : List Value} (hr : K.ro blk) (hv : VRs K cells vs) (hc : ∀ (j : Nat) u, vs[j]? = some u → K.w.cell? ⟨blk, off + j, none⟩ = some u) : VR K (.vptr cells) (.pointer (some ⟨blk, off, none⟩)) := by
  refine .vptr (fun j => vs.getD j undef) hr (fun j hj => ?_) (fun j x hx => ?_)
  · have hj' : j < vs.length := by rw [hv.1]; exact hj
    rw [List.getD_eq_getElem?_getD, List.getElem?_eq_getElem hj']
    exact hc j _ (List.getElem?_eq_getElem hj')
  · obtain ⟨v, h1, h2⟩ := hv.get hx
    simp only [List.getD_eq_getElem?_getD, h1]; exact h2
theorem vptr_drop {K : Ctx} {cells : List AV} {blk off n : Nat} (h : VR K (.vptr cells) (.pointer (some ⟨blk, off, none⟩))) : VR K (.vptr (cells.drop n)) (.pointer (some ⟨blk, off + n, none⟩)) := by
  obtain ⟨b, o, vs, e, hr, hv, hc⟩ := vptr_cells h
  cases e
  exact vptr_mk hr (hv.drop n) (fun j u hu => by rw [List.getElem?_drop] at hu; rw [Nat.add_assoc]; exact hc _ u hu)


theorem VR.bool_inv {K : Ctx} {b : Bool} {v : Value} (h : VR K (.bool b) v) : v = .bool b := by cases h; rfl
theorem VR.int_inv {K : Ctx} {k : IntKind} {n : Int} {v : Value} (h : VR K (.int k n) v) : v = .int k n := by cases h; rfl
theorem VR.agg_inv {K : Ctx} {xs : List AV} {v : Value} (h : VR K (.agg xs) v) : ∃ vs, v = .agg vs ∧ VRs K xs vs.toList := by
  cases v with
  | agg vs => exact ⟨vs, rfl, VR.agg_.1 h⟩
  | _ => cases h
theorem VR.tuple_inv {K : Ctx} {xs : List AV} {v : Value} (h : VR K (.tuple xs) v) : ∃ vs, v = .tuple vs ∧ VRs K xs vs.toList := by
  cases v with
  | tuple vs => exact ⟨vs, rfl, VR.tuple_.1 h⟩
  | _ => cases h
theorem VR.str_inv {K : Ctx} {s : List UInt8} {v : Value} (h : VR K (.str s) v) : ∃ b : ByteArray, v = .string b ∧ b.data.toList = s := by cases h; exact ⟨_, rfl, rfl⟩
theorem VR.ptr_inv {K : Ctx} {id off : Nat} {v : Value} (h : VR K (.ptr id off) v) : v = .pointer (some ⟨K.base id, K.boff id + off, none⟩) ∧ id < K.next := by cases h; exact ⟨rfl, by assumption⟩

section parts
variable {P : Program} {T : TT} (hT : TOK P T) {K : Ctx}
include hT
omit hT in
theorem p_un {op : UnOp} {x y : AV} {v : Value} (h : pvUn op x = some y) (hv : VR K x v) : ∃ u, (Op.unary op v).run P K.w = .ok u K.w ∧ VR K y u := by
  unfold pvUn at h
  split at h
  · obtain rfl := Option.some.inj h; obtain rfl := hv.bool_inv; exact ⟨_, rfl, .bool _⟩
  · obtain rfl := Option.some.inj h; obtain rfl := hv.int_inv; exact ⟨_, rfl, .int _ _⟩
  · cases h
theorem p_conv {s d : TypeId} {x y : AV} {v : Value} (h : pvConv T s d x = some y) (hv : VR K x v) : ∃ u, (convert s d v).run P K.w = .ok u K.w ∧ VR K y u := by
  unfold pvConv at h
  split at h
  · rename_i i j hi hj
    have h1 := r_und hT hi K.w
    have h2 := r_und hT hj K.w
    unfold convert
    rw [run_bindv h1, run_bindv h2]
    split at h
    · rename_i hd
      obtain rfl := Option.some.inj h; obtain rfl := hv.int_inv
      rw [hd]
      refine ⟨_, ?_, .int _ _⟩
      cases i.desc <;> rfl
    · rename_i hd
      obtain rfl := Option.some.inj h; obtain ⟨b, rfl, rfl⟩ := hv.str_inv
      rw [hd]
      refine ⟨.string b, ?_, .str _⟩
      cases i.desc <;> rfl
    · cases h
  · cases h
omit hT in
theorem p_extract {i : Nat} {x y : AV} {v : Value} (h : pvExtract i x = some y) (hv : VR K x v) : ∃ u, (Instr.extract v i).run P K.w = .ok u K.w ∧ VR K y u := by
  unfold pvExtract at h
  split at h
  · obtain ⟨us, rfl, hus⟩ := hv.tuple_inv
    obtain ⟨u, h1, h2⟩ := hus.get h
    rw [Array.getElem?_toList] at h1
    exact ⟨u, by simp [Instr.extract, h1], h2⟩
  · cases h
omit hT in
theorem field_of {t : TypeId} {f : Nat} {fd : Field} {fi : TI} (h : fieldOf T t f = some (fd, fi)) : ∃ i fs, T t = some i ∧ i.desc = .struct fs ∧ fs[f]? = some fd ∧ T fd.type = some fi := by
  unfold fieldOf at h
  split at h
  · rename_i i hi
    split at h
    · rename_i fs hd
      split at h
      · rename_i fd' hf
        split at h
        · rename_i fi' hfi
          cases h
          exact ⟨i, fs, hi, hd, hf, hfi⟩
        · cases h
      · cases h
    · cases h
  · cases h
theorem p_field {t : TypeId} {f : Nat} {x y : AV} {v : Value} (h : pvField T t f x = some y) (hv : VR K x v) : ∃ u, (Instr.field t v f).run P K.w = .ok u K.w ∧ VR K y u := by
  unfold pvField at h
  split at h
  · rename_i fd fi cs hfo
    obtain ⟨i, fs, hi, hd, hf, hfi⟩ := field_of hfo
    obtain ⟨us, rfl, hus⟩ := hv.agg_inv
    obtain ⟨u, h1, h2⟩ := r_part hT hfi hus h
    refine ⟨u, ?_, h2⟩
    unfold Instr.field
    have hu := r_und hT hi K.w
    rw [hd] at hu
    rw [run_bindv hu]
    simp only [hf]
    rw [run_bindv (a := us) (w' := K.w) (by rfl)]
    exact h1
  · cases h
theorem r_fieldAt {t : TypeId} {f : Nat} {fd : Field} {fi : TI} (h : fieldOf T t f = some (fd, fi)) (hz : fi.size ≠ 0) (blk off : Nat) (w : World) :
    (Instr.fieldAt t (.pointer (some ⟨blk, off, none⟩)) f).run P w = .ok (.pointer (some ⟨blk, off + fd.offset, none⟩)) w := by
  obtain ⟨i, fs, hi, hd, hf, hfi⟩ := field_of h
  have hu := r_und hT hi w
  rw [hd] at hu
  unfold Instr.fieldAt
  rw [run_bindv hu]
  simp only [hf]
  rw [run_bindv (a := ⟨blk, off, none⟩) (w' := w) (by rfl)]
  have : (fieldPlace ⟨blk, off, none⟩ fd).run P w = .ok ⟨blk, off + fd.offset, none⟩ w := by
    unfold fieldPlace
    rw [run_bindv (r_size hT hfi w), if_neg hz, add_plain]
    rfl
  rw [run_bindv this]
  rfl
theorem p_fieldAddr {t : TypeId} {f : Nat} {x y : AV} {v : Value} (h : pvFieldAddr T t f x = some y) (hv : VR K x v) : ∃ u, (Instr.fieldAt t v f).run P K.w = .ok u K.w ∧ VR K y u := by
  unfold pvFieldAddr at h
  split at h
  · rename_i fd fi hfo
    split at h
    · cases h
    · rename_i hz
      split at h
      · obtain rfl := Option.some.inj h
        obtain ⟨blk, off, vs, rfl, _⟩ := vptr_cells hv
        exact ⟨_, r_fieldAt hT hfo hz _ _ _, vptr_drop hv⟩
      · obtain rfl := Option.some.inj h
        obtain ⟨rfl, hid⟩ := hv.ptr_inv
        exact ⟨_, r_fieldAt hT hfo hz _ _ _, by rw [Nat.add_assoc]; exact .ptr hid⟩
      · cases h
  · cases h
theorem p_load {t : TypeId} {x y : AV} {v : Value} (h : pvLoad T t x = some y) (hv : VR K x v) : ∃ u, (Instr.loadAt t v).run P K.w = .ok u K.w ∧ VR K y u := by
  unfold pvLoad at h
  split at h
  · rename_i i cells hi
    obtain ⟨blk, off, vs, rfl, _, hvs, hc⟩ := vptr_cells hv
    obtain ⟨u, h1, h2⟩ := r_loadVar hT hi hvs hc h
    refine ⟨u, ?_, h2⟩
    unfold Instr.loadAt
    rw [run_bindv (a := ⟨blk, off, none⟩) (w' := K.w) (by rfl)]
    exact h1
  · cases h
theorem p_iface {t : TypeId} {x y : AV} {v : Value} (h : pvIface T t x = some y) (hv : VR K x v) : ∃ u, (Instr.makeInterface t v).run P K.w = .ok u K.w ∧ VR K y u := by
  unfold pvIface at h
  split at h
  · rename_i i hi
    split at h
    · cases h
    · rename_i hni
      obtain rfl := Option.some.inj h
      refine ⟨.iface t v, ?_, .iface hv⟩
      unfold Instr.makeInterface
      rw [run_bindv (r_und hT hi K.w)]
      cases hd : i.desc <;> first | rfl | (rw [hd] at hni; exact absurd rfl hni)
  · cases h
theorem p_len {t ty : TypeId} {x y : AV} {v : Value} (h : pvLen T t x = some y) (hv : VR K x v) : ∃ u, (Builtin.len_ #[t] ty #[v]).run P K.w = .ok u K.w ∧ VR K y u := by
  unfold pvLen at h
  split at h
  · rename_i i hi
    split at h
    · rename_i n hn
      obtain rfl := Option.some.inj h
      refine ⟨.int .i64 n, ?_, .int _ _⟩
      have hu := r_und hT hi K.w
      unfold Builtin.len_
      simp only [List.getElem?_toArray, List.getElem?_cons_zero]
      rw [run_bindv hu]
      unfold lenA at hn
      split at hn <;> first | (obtain rfl := Option.some.inj hn) | cases hn
      · rename_i hd
        obtain ⟨b, rfl, rfl⟩ := hv.str_inv
        rw [hd]
        show Result.ok (goInt b.size) K.w = _
        simp [goInt]
      · rename_i hd; rw [hd]; cases hv; rfl
      · rename_i hd; rw [hd]; cases hv; rfl
      · rename_i hd; rw [hd]; cases hv; rfl
      · rename_i hd; rw [hd]; rfl
    · cases h
  · cases h
end parts

theorem pv_sound {P : Program} {T : TT} (hT : TOK P T) {N : Nat} {o : Oper} {σ : St} {x : AV} (h : pv T σ.tm o.op = some x) : OpV P N o σ x σ.h σ.n := by
  refine opv_of fun K a hs => ?_
  have ev := fun {x : Operand} {y : AV} (h : evo σ.tm x = some y) => evo_sound (x := x) hs.tr h
  unfold execOp
  cases hop : o.op <;> rw [hop] at h <;> simp only [pv, Option.bind_eq_some_iff] at h <;> try contradiction
  case move => exact ⟨_, rfl, ev h⟩
  case assign => exact ⟨_, rfl, ev h⟩
  case pick =>
    obtain ⟨c, hc, p, hp, q, hq, h⟩ := h
    unfold pvPick at h
    split at h <;> first | (obtain rfl := Option.some.inj h) | cases h
    · refine ⟨_, ?_, ev hp⟩; simp only [(ev hc).bool_inv]; rfl
    · refine ⟨_, ?_, ev hq⟩; simp only [(ev hc).bool_inv]; rfl
  case binOp =>
    obtain ⟨p, hp, q, hq, h⟩ := h
    obtain ⟨v, hr, hv⟩ := run_binv hT h (ev hp) (ev hq) _ _
    exact ⟨v, run_v hr, hv⟩
  case unOp => obtain ⟨p, hp, h⟩ := h; obtain ⟨v, hr, hv⟩ := p_un h (ev hp); exact ⟨v, run_v hr, hv⟩
  case convert => obtain ⟨p, hp, h⟩ := h; obtain ⟨v, hr, hv⟩ := p_conv hT h (ev hp); exact ⟨v, run_v hr, hv⟩
  case extract => obtain ⟨p, hp, h⟩ := h; obtain ⟨v, hr, hv⟩ := p_extract h (ev hp); exact ⟨v, run_v hr, hv⟩
  case field => obtain ⟨p, hp, h⟩ := h; obtain ⟨v, hr, hv⟩ := p_field hT h (ev hp); exact ⟨v, run_v hr, hv⟩
  case fieldAddr => obtain ⟨p, hp, h⟩ := h; obtain ⟨v, hr, hv⟩ := p_fieldAddr hT h (ev hp); exact ⟨v, run_v hr, hv⟩
  case load => obtain ⟨p, hp, h⟩ := h; obtain ⟨v, hr, hv⟩ := p_load hT h (ev hp); exact ⟨v, run_v hr, hv⟩
  case makeInterface => obtain ⟨p, hp, h⟩ := h; obtain ⟨v, hr, hv⟩ := p_iface hT h (ev hp); exact ⟨v, run_v hr, hv⟩
  case nilCheck =>
    obtain ⟨p, hp, h⟩ := h
    have hv := ev hp
    unfold pvNil at h
    split at h <;> first | (obtain rfl := Option.some.inj h) | cases h
    · obtain ⟨blk, off, vs, e, _⟩ := vptr_cells hv
      exact ⟨_, by simp only [e]; rfl, by rw [← e]; exact hv⟩
    · obtain ⟨e, hid⟩ := hv.ptr_inv
      exact ⟨_, by simp only [e]; rfl, by rw [← e]; exact hv⟩
    · rename_i y _ f p q
      generalize hh : a.eval y = u at hv
      refine ⟨u, ?_, hv⟩
      cases hv
      simp only [hh]; rfl
  case makeFunc =>
    split at h
    · rename_i hy
      simp only [Option.bind_eq_some_iff] at h
      obtain ⟨xs, h1, ys, h2, h⟩ := h
      obtain rfl := Option.some.inj h
      have g1 := evs_sound hs.tr h1
      have g2 := evs_sound hs.tr h2
      refine ⟨_, run_v rfl, VRs.func ?_ (by simpa using g1) (by simpa using g2)⟩
      rename_i fn _ _
      cases fn <;> first | trivial | cases hy
    · cases h
  case call c =>
    unfold pvCall at h
    split at h
    · simp only [Option.bind_eq_some_iff] at h
      obtain ⟨p, hp, h⟩ := h
      obtain ⟨v, hr, hv⟩ := p_len hT (ty := o.type) h (ev hp)
      refine ⟨v, ?_, hv⟩
      simp only [resolve, List.map_toArray, List.map_cons, List.map_nil]
      rw [run_bindv (run_purev _ _)]
      unfold invoke
      simp only [builtin]
      rw [run_bindv hr]; rfl
    · cases h
end Go.Lg

/- Own memory: a new block, a block that is written, one that is renamed; and the operations on memory. -/
set_option linter.unusedVariables false
set_option linter.unusedSimpArgs false
set_option linter.unusedSectionVars false
namespace Go.Lg
open Go

def Ctx.newOwn (K : Ctx) (o : Obj) (sz : Nat) : Ctx :=
  { base := upd K.base K.next K.w.heap.size, boff := upd K.boff K.next 0, bsz := upd K.bsz K.next sz, next := K.next + 1, ro := K.ro, w := { K.w with heap := K.w.heap.push o } }
def Ctx.newRo (K : Ctx) (o : Obj) : Ctx := { K with ro := fun b => K.ro b ∨ b = K.w.heap.size, w := { K.w with heap := K.w.heap.push o } }
def Ctx.at_ (K : Ctx) (w : World) : Ctx := { K with w }

theorem push_old (w : World) (o : Obj) {b : Nat} (h : b < w.heap.size) : (w.heap.push o)[b]? = w.heap[b]? := by
  rw [Array.getElem?_push, if_neg (by omega)]
theorem push_new (w : World) (o : Obj) : (w.heap.push o)[w.heap.size]? = some o := by simp

section
variable {K : Ctx} {H : Heap}
theorem Rel.size_lt (hr : Rel K H) {id : Nat} (h : H id ≠ none) : K.base id < K.w.heap.size := by
  cases hb : H id with
  | none => exact absurd hb h
  | some b =>
    have := hr.br id b hb
    have key : ∀ o, K.w.heap[K.base id]? = some o → K.base id < K.w.heap.size := fun o ho => (Array.getElem?_eq_some_iff.1 ho).1
    cases b with
    | cells cs e => obtain ⟨arr, fr, ha, _⟩ := this; exact key _ ha
    | map es => obtain ⟨arr, c, ha, _⟩ := this; exact key _ ha
    | loop l => obtain ⟨f, a, d, ha, _⟩ := this; exact key _ ha
    | deferred => exact key _ this
    | glob b o => exact key _ this.2
theorem newOwn_ext (hr : Rel K H) (o : Obj) (sz : Nat) : Ext K (K.newOwn o sz) :=
  ⟨Nat.le_succ _, fun id hid => ⟨upd_ne _ _ (by omega), upd_ne _ _ (by omega), upd_ne _ _ (by omega)⟩, fun _ h => h, fun b hb => push_old _ _ (hr.ros b hb)⟩
theorem newOwn_ok (hr : Rel K H) {o : Obj} {sz : Nat} {b : Blk} (hb : BR (K.newOwn o sz) K.next b) :
    Rel (K.newOwn o sz) (upd H K.next (some b)) ∧ Step K H (K.newOwn o sz) (upd H K.next (some b)) := by
  have hE := newOwn_ext hr o sz
  have hne : ∀ id, H id ≠ none → id ≠ K.next := fun id h => Nat.ne_of_lt (hr.lt id h)
  have hold : ∀ id, upd H K.next (some b) id ≠ none → id = K.next ∨ H id ≠ none := fun id h => by
    by_cases e : id = K.next
    · exact .inl e
    · rw [upd_ne _ _ e] at h; exact .inr h
  have hbn : (K.newOwn o sz).base K.next = K.w.heap.size := upd_same _ _ _
  have hbo : ∀ id, H id ≠ none → (K.newOwn o sz).base id = K.base id := fun id h => upd_ne _ _ (hne id h)
  refine ⟨⟨fun id h => ?_, fun id h => ?_, fun id b' h => ?_, fun i j hi hj e => ?_, fun b' hb' => ?_⟩, ?_⟩
  · rcases hold id h with rfl | h
    · exact Nat.lt_succ_self _
    · exact Nat.lt_succ_of_lt (hr.lt id h)
  · rcases hold id h with rfl | h
    · rw [hbn]; intro hro; exact absurd (hr.ros _ hro) (Nat.lt_irrefl _)
    · rw [hbo id h]; exact hr.nro id h
  · by_cases e : id = K.next
    · subst e; rw [upd_same] at h; cases h; exact hb
    · rw [upd_ne _ _ e] at h
      have hid : H id ≠ none := by rw [h]; simp
      exact (hr.br id b' h).mono hE (hr.lt id hid) (push_old _ _ (hr.size_lt hid))
  · rcases hold i hi with rfl | hi <;> rcases hold j hj with rfl | hj
    · rfl
    · rw [hbn, hbo j hj] at e; exact absurd (hr.size_lt hj) (by omega)
    · rw [hbn, hbo i hi] at e; exact absurd (hr.size_lt hi) (by omega)
    · rw [hbo i hi, hbo j hj] at e; exact hr.inj i j hi hj e
  · have := hr.ros b' hb'; show b' < (K.w.heap.push o).size; simp; omega
  · refine ⟨hE.next, hE.mu, hE.ro, by show _ ≤ (K.w.heap.push o).size; simp, fun b' hb' _ => push_old _ _ hb', ?_, fun b' h => .inl h, rfl, rfl, rfl⟩
    rintro b' ⟨id, hid, rfl⟩
    rcases hold id hid with rfl | h
    · exact .inr (by rw [hbn]; exact Nat.le_refl _)
    · exact .inl ⟨id, h, (hbo id h).symm⟩
theorem newRo_ext (hr : Rel K H) (o : Obj) : Ext K (K.newRo o) :=
  ⟨Nat.le_refl _, fun _ _ => ⟨rfl, rfl, rfl⟩, fun _ h => .inl h, fun b hb => push_old _ _ (hr.ros b hb)⟩
theorem newRo_ok (hr : Rel K H) (o : Obj) : Rel (K.newRo o) H ∧ Step K H (K.newRo o) H := by
  have hE := newRo_ext hr o
  refine ⟨⟨hr.lt, fun id h => ?_, fun id b h => ?_, hr.inj, fun b hb => ?_⟩, ?_⟩
  · rintro (h1 | h1)
    · exact hr.nro id h h1
    · exact absurd (hr.size_lt h) (by show ¬ K.base id < _; have : K.base id = K.w.heap.size := h1; omega)
  · have hid : H id ≠ none := by rw [h]; simp
    exact (hr.br id b h).mono hE (hr.lt id hid) (push_old _ _ (hr.size_lt hid))
  · show b < (K.w.heap.push o).size
    rcases hb with hb | hb
    · have := hr.ros b hb; simp; omega
    · simp; omega
  · refine ⟨Nat.le_refl _, fun _ _ => ⟨rfl, rfl, rfl⟩, fun _ h => .inl h, by show _ ≤ (K.w.heap.push o).size; simp, fun b hb _ => push_old _ _ hb, fun b h => .inl h, ?_, rfl, rfl, rfl⟩
    rintro b (h | h)
    · exact .inl h
    · exact .inr (.inr (by omega))
/-- Only the block of one id is written. -/
structure Wrote (w w' : World) (blk : Nat) : Prop where
  size : w'.heap.size = w.heap.size
  same : ∀ b, b ≠ blk → w'.heap[b]? = w.heap[b]?
  os : w'.os = w.os
  tape : w'.tape = w.tape
  output : w'.output = w.output
theorem wrote_ext (hr : Rel K H) {w' : World} {id : Nat} (hid : H id ≠ none) (hw : Wrote K.w w' (K.base id)) : Ext K (K.at_ w') :=
  ⟨Nat.le_refl _, fun _ _ => ⟨rfl, rfl, rfl⟩, fun _ h => h, fun b hb => hw.same b (fun e => hr.nro id hid (e ▸ hb))⟩
theorem wrote_ok (hr : Rel K H) {w' : World} {id : Nat} {b : Blk} (hid : H id ≠ none) (hw : Wrote K.w w' (K.base id)) (hb : BR (K.at_ w') id b) :
    Rel (K.at_ w') (upd H id (some b)) ∧ Step K H (K.at_ w') (upd H id (some b)) := by
  have hE := wrote_ext hr hid hw
  have hold : ∀ j, upd H id (some b) j ≠ none → H j ≠ none := fun j h => by
    by_cases e : j = id
    · subst e; exact hid
    · rwa [upd_ne _ _ e] at h
  refine ⟨⟨fun j h => hr.lt j (hold j h), fun j h => hr.nro j (hold j h), fun j b' h => ?_, fun i j hi hj e => hr.inj i j (hold i hi) (hold j hj) e, fun b' h => by show b' < w'.heap.size; rw [hw.size]; exact hr.ros b' h⟩, ?_⟩
  · by_cases e : j = id
    · subst e; rw [upd_same] at h; cases h; exact hb
    · rw [upd_ne _ _ e] at h
      have hj : H j ≠ none := by rw [h]; simp
      exact (hr.br j b' h).mono hE (hr.lt j hj) (hw.same _ (fun e' => e (hr.inj j id hj hid e')))
  · refine ⟨Nat.le_refl _, fun _ _ => ⟨rfl, rfl, rfl⟩, fun _ h => h, by show _ ≤ w'.heap.size; rw [hw.size]; exact Nat.le_refl _, fun b' _ hn => hw.same b' (fun e => hn ⟨id, hid, e.symm⟩), ?_, fun b' h => .inl h, hw.os, hw.tape, hw.output⟩
    rintro b' ⟨j, hj, rfl⟩
    exact .inl ⟨j, hold j hj, rfl⟩
/-- A block that is written and goes on under a new id. -/
def Ctx.renamed (K : Ctx) (w : World) (id off : Nat) : Ctx :=
  { base := upd K.base K.next (K.base id), boff := upd K.boff K.next (K.boff id + off), bsz := upd K.bsz K.next (K.bsz id), next := K.next + 1, ro := K.ro, w }
theorem renamed_ext (hr : Rel K H) {w' : World} {id off : Nat} (hid : H id ≠ none) (hw : Wrote K.w w' (K.base id)) : Ext K (K.renamed w' id off) :=
  ⟨Nat.le_succ _, fun j hj => ⟨upd_ne _ _ (by omega), upd_ne _ _ (by omega), upd_ne _ _ (by omega)⟩, fun _ h => h, fun b hb => hw.same b (fun e => hr.nro id hid (e ▸ hb))⟩
theorem renamed_ok (hr : Rel K H) {w' : World} {id off : Nat} {b : Blk} (hid : H id ≠ none) (hw : Wrote K.w w' (K.base id)) (hb : BR (K.renamed w' id off) K.next b) :
    Rel (K.renamed w' id off) (upd (upd H id none) K.next (some b)) ∧ Step K H (K.renamed w' id off) (upd (upd H id none) K.next (some b)) := by
  have hE := renamed_ext (off := off) hr hid hw
  have hold : ∀ j, upd (upd H id none) K.next (some b) j ≠ none → j = K.next ∨ (j ≠ id ∧ H j ≠ none) := fun j h => by
    by_cases e : j = K.next
    · exact .inl e
    · rw [upd_ne _ _ e] at h
      by_cases e2 : j = id
      · subst e2; rw [upd_same] at h; exact absurd rfl h
      · rw [upd_ne _ _ e2] at h; exact .inr ⟨e2, h⟩
  have hbn : (K.renamed w' id off).base K.next = K.base id := upd_same _ _ _
  have hbo : ∀ j, H j ≠ none → (K.renamed w' id off).base j = K.base j := fun j h => upd_ne _ _ (Nat.ne_of_lt (hr.lt j h))
  refine ⟨⟨fun j h => ?_, fun j h => ?_, fun j b' h => ?_, fun i j hi hj e => ?_, fun b' h => by show b' < w'.heap.size; rw [hw.size]; exact hr.ros b' h⟩, ?_⟩
  · rcases hold j h with rfl | ⟨_, h⟩
    · exact Nat.lt_succ_self _
    · exact Nat.lt_succ_of_lt (hr.lt j h)
  · rcases hold j h with rfl | ⟨_, h⟩
    · rw [hbn]; exact hr.nro id hid
    · rw [hbo j h]; exact hr.nro j h
  · by_cases e : j = K.next
    · subst e; rw [upd_same] at h; cases h; exact hb
    · have hj := hold j (by rw [h]; simp)
      rcases hj with rfl | ⟨e2, hj⟩
      · exact absurd rfl e
      · rw [upd_ne _ _ e, upd_ne _ _ e2] at h
        exact (hr.br j b' h).mono hE (hr.lt j hj) (hw.same _ (fun e' => e2 (hr.inj j id hj hid e')))
  · rcases hold i hi with rfl | ⟨ei, hi⟩ <;> rcases hold j hj with rfl | ⟨ej, hj⟩
    · rfl
    · rw [hbn, hbo j hj] at e; exact absurd (hr.inj j id hj hid e.symm) ej
    · rw [hbn, hbo i hi] at e; exact absurd (hr.inj i id hi hid e) ei
    · rw [hbo i hi, hbo j hj] at e; exact hr.inj i j hi hj e
  · refine ⟨hE.next, hE.mu, fun _ h => h, by show _ ≤ w'.heap.size; rw [hw.size]; exact Nat.le_refl _, fun b' _ hn => hw.same b' (fun e => hn ⟨id, hid, e.symm⟩), ?_, fun b' h => .inl h, hw.os, hw.tape, hw.output⟩
    rintro b' ⟨j, hj, rfl⟩
    rcases hold j hj with rfl | ⟨_, hj⟩
    · exact .inl ⟨id, hid, hbn.symm⟩
    · exact .inl ⟨j, hj, (hbo j hj).symm⟩
/-- A draw. -/
theorem drew_ok (hr : Rel K H) (n : Nat) : Rel (K.at_ { K.w with drawn := n }) H ∧ Step K H (K.at_ { K.w with drawn := n }) H ∧ Ext K (K.at_ { K.w with drawn := n }) := by
  have hE : Ext K (K.at_ { K.w with drawn := n }) := ⟨Nat.le_refl _, fun _ _ => ⟨rfl, rfl, rfl⟩, fun _ h => h, fun _ _ => rfl⟩
  exact ⟨⟨hr.lt, hr.nro, fun id b h => (hr.br id b h).mono hE (hr.lt id (by rw [h]; simp)) rfl, hr.inj, hr.ros⟩,
    ⟨Nat.le_refl _, fun _ _ => ⟨rfl, rfl, rfl⟩, fun _ h => h, Nat.le_refl _, fun _ _ _ => rfl, fun _ h => .inl h, fun _ h => .inl h, rfl, rfl, rfl⟩, hE⟩

/-! ### Ghost steps: a block that is given up; a block that is only read from now on. -/
theorem kill_ok (hr : Rel K H) (id : Nat) : Rel K (upd H id none) ∧ Step K H K (upd H id none) := by
  have hold : ∀ j, upd H id none j ≠ none → j ≠ id ∧ H j ≠ none := fun j h => by
    by_cases e : j = id
    · subst e; rw [upd_same] at h; exact absurd rfl h
    · rw [upd_ne _ _ e] at h; exact ⟨e, h⟩
  refine ⟨⟨fun j h => hr.lt j (hold j h).2, fun j h => hr.nro j (hold j h).2, fun j b h => ?_, fun i j hi hj e => hr.inj i j (hold i hi).2 (hold j hj).2 e, hr.ros⟩, ?_⟩
  · have hj := hold j (by rw [h]; simp)
    rw [upd_ne _ _ hj.1] at h
    exact hr.br j b h
  · refine ⟨Nat.le_refl _, fun _ _ => ⟨rfl, rfl, rfl⟩, fun _ h => h, Nat.le_refl _, fun _ _ _ => rfl, ?_, fun _ h => .inl h, rfl, rfl, rfl⟩
    rintro b ⟨j, hj, rfl⟩
    exact .inl ⟨j, (hold j hj).2, rfl⟩
def Ctx.roAlso (K : Ctx) (blk : Nat) : Ctx := { K with ro := fun b => K.ro b ∨ b = blk }
theorem freeze_ok (hr : Rel K H) {id : Nat} (hid : H id ≠ none) : Rel (K.roAlso (K.base id)) (upd H id none) ∧ Step K H (K.roAlso (K.base id)) (upd H id none) ∧ Ext K (K.roAlso (K.base id)) := by
  have hE : Ext K (K.roAlso (K.base id)) := ⟨Nat.le_refl _, fun _ _ => ⟨rfl, rfl, rfl⟩, fun _ h => .inl h, fun _ _ => rfl⟩
  have hold : ∀ j, upd H id none j ≠ none → j ≠ id ∧ H j ≠ none := fun j h => by
    by_cases e : j = id
    · subst e; rw [upd_same] at h; exact absurd rfl h
    · rw [upd_ne _ _ e] at h; exact ⟨e, h⟩
  refine ⟨⟨fun j h => hr.lt j (hold j h).2, fun j h => ?_, fun j b h => ?_, fun i j hi hj e => hr.inj i j (hold i hi).2 (hold j hj).2 e, fun b h => ?_⟩, ?_, hE⟩
  · rintro (h1 | h1)
    · exact hr.nro j (hold j h).2 h1
    · exact (hold j h).1 (hr.inj j id (hold j h).2 hid h1)
  · have hj := hold j (by rw [h]; simp)
    rw [upd_ne _ _ hj.1] at h
    exact (hr.br j b h).mono hE (hr.lt j hj.2) rfl
  · rcases h with h | h
    · exact hr.ros b h
    · rw [h]; exact hr.size_lt hid
  · refine ⟨Nat.le_refl _, fun _ _ => ⟨rfl, rfl, rfl⟩, fun _ h => .inl h, Nat.le_refl _, fun _ _ _ => rfl, ?_, ?_, rfl, rfl, rfl⟩
    · rintro b ⟨j, hj, rfl⟩
      exact .inl ⟨j, (hold j hj).2, rfl⟩
    · rintro b (h | h)
      · exact .inl h
      · exact .inr (.inl ⟨id, hid, h.symm⟩)
end
end Go.Lg

/- Operations on memory. -/
set_option linter.unusedVariables false
set_option linter.unusedSimpArgs false
set_option linter.unusedSectionVars false
namespace Go.Lg
open Go

theorem upd_upd {α : Type} (f : Nat → α) (i : Nat) (x y : α) : upd (upd f i x) i y = upd f i y := by
  funext j; unfold upd; split <;> rfl
def cellsA : AV → List AV
  | .agg cs => cs
  | x => [x]
def scalA : AV → Bool
  | .agg _ | .tuple _ | .any => false
  | _ => true
def known : AV → Bool
  | .any => false
  | _ => true
theorem cells_VRs {K : Ctx} {x : AV} {v : Value} (hk : known x = true) (h : VR K x v) : VRs K (cellsA x) v.cells.toList := by
  cases x with
  | agg cs => obtain ⟨vs, rfl, hv⟩ := h.agg_inv; exact hv
  | any => cases hk
  | _ => cases h <;> exact .cons (by constructor <;> assumption) (.nil K)
def scalV : Value → Bool
  | .agg _ | .tuple _ => false
  | _ => true
theorem scal_of {K : Ctx} {x : AV} {v : Value} (h : VR K x v) (hs : scalA x = true) : scalV v = true := by cases h <;> first | rfl | cases hs

/-- Cells written from a place on. -/
def wr : List AV → Nat → List AV → List AV
  | cs, _, [] => cs
  | cs, off, y :: ys => wr (cs.set off y) (off + 1) ys
theorem own_cells {K : Ctx} {id : Nat} {cs : List AV} {e : TypeId} (h : BR K id (.cells cs e)) (off : Nat) :
    ∃ vs, VRs K (cs.drop off) vs ∧ ∀ (j : Nat) v, vs[j]? = some v → K.w.cell? ⟨K.base id, K.boff id + off + j, none⟩ = some v := by
  obtain ⟨arr, fr, ha, ht, hz, hl, hv⟩ := h
  refine ⟨(arr.toList.drop (K.boff id + off)).take (cs.length - off), ⟨?_, fun i x v hx hv' => ?_⟩, fun j v hj => ?_⟩
  · simp; omega
  · rw [List.getElem?_drop] at hx
    have hi : i < cs.length - off := by have := (List.getElem?_eq_some_iff.1 hx).1; omega
    rw [List.getElem?_take, if_pos hi, List.getElem?_drop, Array.getElem?_toList] at hv'
    obtain ⟨u, hu, hr⟩ := hv _ x hx
    rw [← Nat.add_assoc] at hu
    rw [hu] at hv'; cases hv'; exact hr
  · rw [List.getElem?_take] at hj
    split at hj
    · rw [List.getElem?_drop, Array.getElem?_toList] at hj
      simp [World.cell?, ha, hj]
    · cases hj

section
variable {P : Program} {T : TT} (hT : TOK P T) {N : Nat} {o : Oper} {σ : St}

/-- One store. -/
theorem store_one {K : Ctx} {H : Heap} (hr : Rel K H) {id off : Nat} {cs : List AV} {e : TypeId} (hH : H id = some (.cells cs e)) (hoff : off < cs.length) {y : AV} {v : Value} (hv : VR K y v) (hs : scalA y = true) :
    ∃ w', (store ⟨K.base id, K.boff id + off, none⟩ v).run P K.w = .ok () w' ∧ Rel (K.at_ w') (upd H id (some (.cells (cs.set off y) e))) ∧ Step K H (K.at_ w') (upd H id (some (.cells (cs.set off y) e))) := by
  have hid : H id ≠ none := by rw [hH]; simp
  obtain ⟨arr, fr, ha, ht, hz, hl, hcs⟩ := hr.br id _ hH
  have hlt : K.boff id + off < arr.size := by omega
  have hsv := scal_of hv hs
  let w' := K.w.setCell ⟨K.base id, K.boff id + off, none⟩ v
  have hb' : w'.heap[K.base id]? = some (.cells (arr.setIfInBounds (K.boff id + off) v) e fr) := by
    simp only [w', World.setCell, Array.getElem?_modify, if_true, ha]; rfl
  have hw : Wrote K.w w' (K.base id) := ⟨by simp [w', World.setCell], fun b hb => by
    simp only [w', World.setCell, Array.getElem?_modify]; rw [if_neg (fun e => hb e.symm)], rfl, rfl, rfl⟩
  have hE := wrote_ext hr hid hw
  have hbr : BR (K.at_ w') id (.cells (cs.set off y) e) := by
    refine ⟨_, fr, hb', fun j hj => ht j (by simpa using hj), by show _ = K.bsz id; simpa using hz, by show K.boff id + _ ≤ _; simpa using hl, fun j x hx => ?_⟩
    rw [List.getElem?_set] at hx
    by_cases hj : off = j
    · subst hj
      rw [if_pos rfl, if_pos hoff] at hx
      cases hx
      exact ⟨v, by show (arr.setIfInBounds (K.boff id + off) v)[K.boff id + off]? = _; simp [hlt], hv.mono hE⟩
    · rw [if_neg hj] at hx
      obtain ⟨u, hu, hru⟩ := hcs j x hx
      refine ⟨u, ?_, hru.mono hE⟩
      show (arr.setIfInBounds (K.boff id + off) v)[K.boff id + j]? = _
      rw [Array.getElem?_setIfInBounds_ne (by omega)]
      exact hu
  obtain ⟨h1, h2⟩ := wrote_ok hr hid hw hbr
  refine ⟨w', ?_, h1, h2⟩
  have hc : K.w.cell? ⟨K.base id, K.boff id + off, none⟩ = some arr[K.boff id + off] := by simp [World.cell?, ha, hlt]
  have hf : K.w.frozen? ⟨K.base id, K.boff id + off, none⟩ = false := by simp only [World.frozen?, ha]; exact ht _ hlt
  unfold store
  cases v <;> first | (simp only [Sem.run, hc, hf]; rfl) | (simp [scalV] at hsv)
theorem store_cells {e : TypeId} {id : Nat} : ∀ (ys : List AV) (vs : List Value) (K : Ctx) (H : Heap) (cs : List AV) (off j : Nat), Rel K H → H id = some (.cells cs e) → off + j + ys.length ≤ cs.length → VRs K ys vs → (∀ y, y ∈ ys → scalA y = true) →
    ∃ w', (storeCells ⟨K.base id, K.boff id + off, none⟩ vs j).run P K.w = .ok () w' ∧ Rel (K.at_ w') (upd H id (some (.cells (wr cs (off + j) ys) e))) ∧ Step K H (K.at_ w') (upd H id (some (.cells (wr cs (off + j) ys) e)))
  | [], vs, K, H, cs, off, j, hr, hH, _, hv, _ => by
    have : vs = [] := List.eq_nil_of_length_eq_zero hv.1
    subst this
    have e1 : upd H id (some (.cells (wr cs (off + j) []) e)) = H := by funext i; unfold upd wr; split <;> simp_all
    rw [e1]
    exact ⟨K.w, rfl, hr, .refl _ _⟩
  | y :: ys, vs, K, H, cs, off, j, hr, hH, hlen, hv, hs => by
    cases vs with
    | nil => have := hv.1; simp at this
    | cons v vs =>
      simp only [List.length_cons] at hlen
      obtain ⟨w1, h1, hr1, hst1⟩ := store_one (P := P) hr (off := off + j) hH (by omega) hv.head (hs y (by simp))
      have hE := hst1.ext hr
      obtain ⟨w2, h2, hr2, hst2⟩ := store_cells ys vs (K.at_ w1) _ (cs.set (off + j) y) off (j + 1) hr1 (upd_same _ _ _) (by simp; omega) (hv.tail.mono hE) (fun z hz => hs z (by simp [hz]))
      rw [upd_upd] at hr2 hst2
      refine ⟨w2, ?_, hr2, hst1.trans hst2⟩
      unfold storeCells
      rw [add_plain, Nat.add_assoc, run_bindv h1]
      exact h2
include hT
theorem opv_load {t : TypeId} {x : Operand} {id off : Nat} {cs : List AV} {e : TypeId} {i : TI} {y : AV} (hop : o.op = .load t x) (hx : evo σ.tm x = some (.ptr id off)) (hH : σ.h id = some (.cells cs e)) (ht : T t = some i)
    (hy : loadA i (cs.drop off) = some y) : OpV P N o σ y σ.h σ.n := by
  refine opv_of fun K a hs => ?_
  obtain ⟨hv, hid⟩ := (evo_sound hs.tr hx).ptr_inv
  obtain ⟨vs, h1, h2⟩ := own_cells (hs.rel.br id _ hH) off
  obtain ⟨v, h3, h4⟩ := r_loadVar hT ht h1 h2 hy
  refine ⟨v, ?_, h4⟩
  unfold execOp
  rw [hop]
  refine run_v ?_
  unfold Instr.loadAt
  rw [run_bindv (a := ⟨K.base id, K.boff id + off, none⟩) (w' := K.w) (by rw [hv]; rfl)]
  exact h3
theorem opv_store {t : TypeId} {x z : Operand} {id off : Nat} {cs : List AV} {e : TypeId} {i : TI} {y : AV} (hop : o.op = .store t x z) (hx : evo σ.tm x = some (.ptr id off)) (hz : evo σ.tm z = some y) (hH : σ.h id = some (.cells cs e)) (ht : T t = some i)
    (hlen : (cellsA y).length = i.size) (hoff : off + i.size ≤ cs.length) (hs : ∀ c, c ∈ cellsA y → scalA c = true) :
    OpV P N o σ (.tuple []) (upd σ.h id (some (.cells (wr cs off (cellsA y)) e))) σ.n := by
  intro K a hsr
  obtain ⟨hv, hid⟩ := (evo_sound hsr.tr hx).ptr_inv
  have hvz := evo_sound hsr.tr hz
  have hk : known y = true := by cases y <;> first | rfl | (have := hs .any (by simp [cellsA]); cases this)
  have hcs := cells_VRs hk hvz
  obtain ⟨w', h1, h2, h3⟩ := store_cells (P := P) (id := id) (e := e) (cellsA y) (a.eval z).cells.toList K σ.h cs off 0 hsr.rel hH (by omega) hcs hs
  refine ⟨undef, K.at_ w', .inr ⟨?_, rfl⟩, hsr.next, h2, h3, VR.undef_ _⟩
  unfold execOp
  rw [hop]
  have : (Instr.storeAt t (a.eval x) (a.eval z)).run P K.w = .ok () w' := by
    unfold Instr.storeAt
    rw [run_bindv (a := ⟨K.base id, K.boff id + off, none⟩) (w' := K.w) (by rw [hv]; rfl)]
    unfold storeVar
    rw [run_bindv (r_size hT ht K.w)]
    have hz : (a.eval z).cells.size = i.size := by rw [← hlen, ← hcs.1]; simp
    rw [if_neg (by simp [hz])]
    exact h1
  show (do Instr.storeAt t (a.eval x) (a.eval z); pure Next.skip : Sem Next).run P K.w = _
  rw [run_bindv this]
  rfl
omit hT in
theorem run_box (t : TypeId) (v : Value) (w : World) : (Instr.box t v).run P w = .ok (.pointer (some ⟨w.heap.size, 0, none⟩)) { w with heap := w.heap.push (.cells v.cells t) } := rfl
omit hT in
theorem thawed0 (arr : Array Value) : thawed arr (0, 0) := fun j _ => by simp
omit hT in
theorem new_cells {K : Ctx} {H : Heap} (hr : Rel K H) {arr : Array Value} {t : TypeId} {cs : List AV} (hv : VRs K cs arr.toList) : BR (K.newOwn (.cells arr t) arr.size) K.next (.cells cs t) := by
  have hE := newOwn_ext hr (.cells arr t) arr.size
  refine ⟨arr, (0, 0), ?_, thawed0 _, ?_, ?_, fun j x hx => ?_⟩
  · show (K.w.heap.push _)[upd K.base K.next _ K.next]? = _; rw [upd_same]; simp
  · show _ = upd K.bsz K.next _ K.next; rw [upd_same]
  · show upd K.boff K.next 0 K.next + _ ≤ _; rw [upd_same]; have := hv.1; simp at this; omega
  · obtain ⟨v, h1, h2⟩ := hv.get hx
    refine ⟨v, ?_, h2.mono hE⟩
    show arr[upd K.boff K.next 0 K.next + j]? = _
    rw [upd_same, Nat.zero_add, ← Array.getElem?_toList]; exact h1
omit hT in
theorem ptr_new (K : Ctx) (o : Obj) (sz : Nat) : VR (K.newOwn o sz) (.ptr K.next 0) (.pointer (some ⟨K.w.heap.size, 0, none⟩)) := by
  have := VR.ptr (K := K.newOwn o sz) (id := K.next) (off := 0) (Nat.lt_succ_self _)
  have e1 : (K.newOwn o sz).base K.next = K.w.heap.size := upd_same _ _ _
  have e2 : (K.newOwn o sz).boff K.next = 0 := upd_same _ _ _
  rw [e1, e2] at this; exact this
omit hT in
theorem opv_box {t : TypeId} {x : Operand} {y : AV} (hop : o.op = .box t x) (hx : evo σ.tm x = some y) (hk : known y = true) : OpV P N o σ (.ptr σ.n 0) (upd σ.h σ.n (some (.cells (cellsA y) t))) (σ.n + 1) := by
  intro K a hs
  have hv := cells_VRs hk (evo_sound hs.tr hx)
  obtain ⟨h1, h2⟩ := newOwn_ok hs.rel (new_cells hs.rel (t := t) hv)
  refine ⟨_, K.newOwn (.cells (a.eval x).cells t) (a.eval x).cells.size, .inl ?_, by rw [← hs.next]; rfl, by rw [← hs.next]; exact h1, by rw [← hs.next]; exact h2, by rw [← hs.next]; exact ptr_new K _ _⟩
  unfold execOp; rw [hop]; exact run_v (run_box _ _ _)
omit hT in
theorem vptr_new {K : Ctx} {H : Heap} (hr : Rel K H) {arr : Array Value} {t : TypeId} {cs : List AV} (hv : VRs K cs arr.toList) : VR (K.newRo (.cells arr t)) (.vptr cs) (.pointer (some ⟨K.w.heap.size, 0, none⟩)) := by
  refine vptr_mk (vs := arr.toList) (.inr rfl) (hv.mono (newRo_ext hr _)) fun j u hu => ?_
  rw [Array.getElem?_toList] at hu
  have e1 : (K.newRo (.cells arr t)).w.heap[K.w.heap.size]? = some (.cells arr t) := push_new K.w _
  simp only [World.cell?, e1, Option.isSome_none, Bool.false_eq_true, if_false, Nat.zero_add]
  exact hu
omit hT in
/-- A box that nobody writes. -/
theorem opv_box_ro {t : TypeId} {x : Operand} {y : AV} (hop : o.op = .box t x) (hx : evo σ.tm x = some y) (hk : known y = true) : OpV P N o σ (.vptr (cellsA y)) σ.h σ.n := by
  intro K a hs
  have hv := cells_VRs hk (evo_sound hs.tr hx)
  obtain ⟨h1, h2⟩ := newRo_ok hs.rel (.cells (a.eval x).cells t)
  refine ⟨_, K.newRo (.cells (a.eval x).cells t), .inl ?_, hs.next, h1, h2, vptr_new hs.rel hv⟩
  unfold execOp; rw [hop]; exact run_v (run_box _ _ _)
theorem opv_alloc {t : TypeId} {i : TI} (hop : o.op = .alloc t) (ht : T t = some i) : OpV P N o σ (.ptr σ.n 0) (upd σ.h σ.n (some (.cells i.zero t))) (σ.n + 1) := by
  intro K a hs
  obtain ⟨z, hz, _, _, hv⟩ := r_zero hT ht K.w
  obtain ⟨h1, h2⟩ := newOwn_ok hs.rel (new_cells hs.rel (t := t) (hv K))
  refine ⟨_, K.newOwn (.cells z.cells t) z.cells.size, .inl ?_, by rw [← hs.next]; rfl, by rw [← hs.next]; exact h1, by rw [← hs.next]; exact h2, by rw [← hs.next]; exact ptr_new K _ _⟩
  unfold execOp; rw [hop]; refine run_v ?_
  unfold Instr.alloc
  rw [run_bindv hz]; rfl
end
end Go.Lg

/- Indexing, slicing, literals; what is only read from now on. -/
set_option linter.unusedVariables false
set_option linter.unusedSimpArgs false
set_option linter.unusedSectionVars false
namespace Go.Lg
open Go

theorem view_cells {K : Ctx} {rows : List (List AV)} {v : Value} (h : VR K (.view rows) v) : ∃ a c esz, v = .slice a rows.length c ∧ rows.length ≤ c ∧ (∀ r, r ∈ rows → r.length = esz) ∧
    (0 < rows.length → ∃ blk off, a = some ⟨blk, off, none⟩ ∧ K.ro blk ∧ ∀ (i : Nat) r, rows[i]? = some r → ∃ vs, VRs K r vs ∧ ∀ (j : Nat) u, vs[j]? = some u → K.w.cell? ⟨blk, off + i * esz + j, none⟩ = some u) := by
  cases h with
  | @view rows a c esz f hc hl ha hv =>
    refine ⟨a, c, esz, rfl, hc, hl, fun hp => ?_⟩
    obtain ⟨blk, off, e, hr, hcell⟩ := ha hp
    refine ⟨blk, off, e, hr, fun i r hi => ⟨(List.range r.length).map (f i), ⟨by simp, fun j x u hx hu => ?_⟩, fun j u hu => ?_⟩⟩
    · have hj : j < r.length := (List.getElem?_eq_some_iff.1 hx).1
      simp [hj] at hu; subst hu
      exact hv i j r x hi hx
    · by_cases hj : j < r.length
      · simp [hj] at hu; subst hu
        have hi' : i < rows.length := (List.getElem?_eq_some_iff.1 hi).1
        have hm : r ∈ rows := List.mem_of_getElem? hi
        have := hcell i j hi' (by rw [← hl r hm]; exact hj)
        rw [← Nat.add_assoc] at this; exact this
      · simp [hj] at hu
theorem view_mk {K : Ctx} {rows : List (List AV)} {a : Option Addr} {c esz : Nat} (hc : rows.length ≤ c) (hl : ∀ r, r ∈ rows → r.length = esz)
    (ha : 0 < rows.length → ∃ blk off, a = some ⟨blk, off, none⟩ ∧ K.ro blk ∧ ∀ (i : Nat) r, rows[i]? = some r → ∃ vs, VRs K r vs ∧ ∀ (j : Nat) u, vs[j]? = some u → K.w.cell? ⟨blk, off + i * esz + j, none⟩ = some u) : VR K (.view rows) (.slice a rows.length c) := by
  by_cases hp : 0 < rows.length
  · obtain ⟨blk, off, e, hr, hcell⟩ := ha hp
    have key : ∀ i j, ∃ u, ∀ r x, rows[i]? = some r → r[j]? = some x → K.w.cell? ⟨blk, off + i * esz + j, none⟩ = some u ∧ VR K x u := by
      intro i j
      cases hi : rows[i]? with
      | none => exact ⟨undef, fun r x h => by cases h⟩
      | some r =>
        cases hj : r[j]? with
        | none => exact ⟨undef, fun r' x h h' => by cases h; rw [hj] at h'; cases h'⟩
        | some x =>
          obtain ⟨vs, h1, h2⟩ := hcell i r hi
          obtain ⟨u, hu, hx⟩ := h1.get hj
          exact ⟨u, fun r' x' h h' => by cases h; rw [hj] at h'; cases h'; exact ⟨h2 j u hu, hx⟩⟩
    have key' : ∀ i, ∃ g : Nat → Value, ∀ j r x, rows[i]? = some r → r[j]? = some x → K.w.cell? ⟨blk, off + i * esz + j, none⟩ = some (g j) ∧ VR K x (g j) :=
      fun i => ⟨fun j => Classical.choose (key i j), fun j => Classical.choose_spec (key i j)⟩
    let f : Nat → Nat → Value := fun i j => Classical.choose (key i j)
    have hf : ∀ i j r x, rows[i]? = some r → r[j]? = some x → K.w.cell? ⟨blk, off + i * esz + j, none⟩ = some (f i j) ∧ VR K x (f i j) := fun i j => Classical.choose_spec (key i j)
    refine .view f hc hl (fun _ => ⟨blk, off, e, hr, fun i j hi hj => ?_⟩) (fun i j r x h1 h2 => (hf i j r x h1 h2).2)
    have hr' : rows[i]? = some rows[i] := List.getElem?_eq_getElem hi
    have hlen := hl rows[i] (List.getElem_mem hi)
    have hx : rows[i][j]? = some (rows[i][j]'(by omega)) := List.getElem?_eq_getElem (by omega)
    rw [← Nat.add_assoc]
    exact (hf i j _ _ hr' hx).1
  · have : rows = [] := List.eq_nil_of_length_eq_zero (by omega)
    subst this
    exact .view (esz := esz) (fun _ _ => undef) hc hl (by simp) (by simp)
theorem empty_view {K : Ctx} {v : Value} (h : VR K .empty v) : VR K (.view []) v := by
  cases h; exact view_mk (rows := []) (esz := 0) (Nat.le_refl _) (by simp) (by simp)

section
variable {P : Program} {T : TT} (hT : TOK P T) {N : Nat} {o : Oper} {σ : St}
include hT
/-- The address of an element of what is only read. -/
theorem opv_indexAddr_view {t e : TypeId} {x ix : Operand} {rows : List (List AV)} {k : IntKind} {i : Int} {r : List AV} {ti ei : TI} (hop : o.op = .indexAddr t x ix) (hx : evo σ.tm x = some (.view rows)) (hi : evo σ.tm ix = some (.int k i))
    (ht : T t = some ti) (hd : ti.desc = .slice e) (he : T e = some ei) (h0 : 0 ≤ i) (hr : rows[i.toNat]? = some r) (hsz : r.length = ei.size) : OpV P N o σ (.vptr r) σ.h σ.n := by
  refine opv_of fun K a hs => ?_
  obtain ⟨ad, c, esz, hv, hc, hl, hcell⟩ := view_cells (evo_sound hs.tr hx)
  have hvi := (evo_sound hs.tr hi).int_inv
  have hlt : i.toNat < rows.length := (List.getElem?_eq_some_iff.1 hr).1
  obtain ⟨blk, off, rfl, hro, hcells⟩ := hcell (by omega)
  obtain ⟨vs, hvs, hcs⟩ := hcells _ r hr
  have hesz : esz = ei.size := by rw [← hl r (List.mem_of_getElem? hr)]; exact hsz
  have hu := r_und hT ht K.w
  rw [hd] at hu
  refine ⟨.pointer (some ⟨blk, off + i.toNat * esz, none⟩), ?_, vptr_mk hro hvs hcs⟩
  unfold execOp; rw [hop]; refine run_v ?_
  unfold Instr.indexAt
  rw [run_bindv (a := (k, i)) (w' := K.w) (by rw [hvi]; rfl), run_bindv hu, hv]
  simp only [run_bindv (run_purev _ _)]
  rw [run_bindv hu]
  simp only [Bool.and_false]
  rw [if_pos ⟨h0, by omega⟩, run_bindv (r_size hT he K.w), add_plain, hesz]
  rfl
/-- The address of an element of own memory. -/
theorem opv_indexAddr_own {t e : TypeId} {x ix : Operand} {id off len : Nat} {cap : Option Nat} {k : IntKind} {i : Int} {ti ei : TI} {sz : Nat} (hop : o.op = .indexAddr t x ix) (hx : evo σ.tm x = some (.slice id off len cap sz)) (hi : evo σ.tm ix = some (.int k i))
    (ht : T t = some ti) (hd : ti.desc = .slice e) (he : T e = some ei) (h0 : 0 ≤ i) (hlt : i < len) (hsz : sz = ei.size) : OpV P N o σ (.ptr id (off + i.toNat * sz)) σ.h σ.n := by
  refine opv_of fun K a hs => ?_
  have hvx := evo_sound hs.tr hx
  have hvi := (evo_sound hs.tr hi).int_inv
  have hu := r_und hT ht K.w
  rw [hd] at hu
  generalize hh : a.eval x = v at hvx
  cases hvx with
  | @slice id off len cap sz o' c hid ho hc hl hcap =>
    refine ⟨.pointer (some ⟨K.base id, K.boff id + (off + i.toNat * sz), none⟩), ?_, .ptr hid⟩
    unfold execOp; rw [hop]; refine run_v ?_
    unfold Instr.indexAt
    rw [run_bindv (a := (k, i)) (w' := K.w) (by rw [hvi]; rfl), run_bindv hu, hh]
    simp only [run_bindv (run_purev _ _)]
    rw [run_bindv hu]
    simp only [Bool.and_false]
    rw [if_pos ⟨h0, hlt⟩, run_bindv (r_size hT he K.w), add_plain, ho (by omega), hsz, Nat.add_assoc]
    rfl
/-- The address of an element of an array. -/
theorem r_indexAt_arr {t e : TypeId} {n : Nat} {k : IntKind} {i : Int} {ti ei : TI} (ht : T t = some ti) (hd : ti.desc = .array n e) (he : T e = some ei) (h0 : 0 ≤ i) (hlt : i < n) (blk off : Nat) (w : World) :
    (Instr.indexAt t (.pointer (some ⟨blk, off, none⟩)) (.int k i)).run P w = .ok (.pointer (some ⟨blk, off + i.toNat * ei.size, none⟩)) w := by
  have hu := r_und hT ht w
  rw [hd] at hu
  unfold Instr.indexAt
  rw [run_bindv (a := (k, i)) (w' := w) (by rfl), run_bindv hu]
  simp only [run_bindv (run_purev _ _), Instr.sureAddr]
  rw [run_bindv hu]
  simp only
  rw [if_pos ⟨h0, hlt⟩, run_bindv (r_size hT he w), add_plain]
  rfl
theorem opv_indexAddr_arr {t e : TypeId} {x ix : Operand} {n : Nat} {p : AV} {q : AV} {k : IntKind} {i : Int} {ti ei : TI} (hop : o.op = .indexAddr t x ix) (hx : evo σ.tm x = some p) (hi : evo σ.tm ix = some (.int k i))
    (ht : T t = some ti) (hd : ti.desc = .array n e) (he : T e = some ei) (h0 : 0 ≤ i) (hlt : i < n)
    (hq : (∃ id off, p = .ptr id off ∧ q = .ptr id (off + i.toNat * ei.size)) ∨ (∃ cells, p = .vptr cells ∧ q = .vptr (cells.drop (i.toNat * ei.size)))) : OpV P N o σ q σ.h σ.n := by
  refine opv_of fun K a hs => ?_
  have hvx := evo_sound hs.tr hx
  have hvi := (evo_sound hs.tr hi).int_inv
  rcases hq with ⟨id, off, rfl, rfl⟩ | ⟨cells, rfl, rfl⟩
  · obtain ⟨hv, hid⟩ := hvx.ptr_inv
    refine ⟨_, ?_, .ptr (off := off + i.toNat * ei.size) hid⟩
    unfold execOp; rw [hop]; refine run_v ?_
    rw [hv, hvi, ← Nat.add_assoc]
    exact r_indexAt_arr hT ht hd he h0 hlt _ _ _
  · obtain ⟨blk, off, vs, hv, _⟩ := vptr_cells hvx
    refine ⟨.pointer (some ⟨blk, off + i.toNat * ei.size, none⟩), ?_, vptr_drop (by rw [← hv]; exact hvx)⟩
    unfold execOp; rw [hop]; refine run_v ?_
    rw [hv, hvi]
    exact r_indexAt_arr hT ht hd he h0 hlt _ _ _
/-- An element of an array value. -/
theorem opv_index {t e : TypeId} {x ix : Operand} {n : Nat} {cs : List AV} {k : IntKind} {i : Int} {ti ei : TI} {y : AV} (hop : o.op = .index t x ix) (hx : evo σ.tm x = some (.agg cs)) (hi : evo σ.tm ix = some (.int k i))
    (ht : T t = some ti) (hd : ti.desc = .array n e) (he : T e = some ei) (h0 : 0 ≤ i) (hlt : i < n) (hy : partA ei cs (i.toNat * ei.size) = some y) : OpV P N o σ y σ.h σ.n := by
  refine opv_of fun K a hs => ?_
  obtain ⟨vs, hv, hvs⟩ := (evo_sound hs.tr hx).agg_inv
  have hvi := (evo_sound hs.tr hi).int_inv
  have hu := r_und hT ht K.w
  rw [hd] at hu
  obtain ⟨u, h1, h2⟩ := r_part hT he hvs hy
  refine ⟨u, ?_, h2⟩
  unfold execOp; rw [hop]; refine run_v ?_
  unfold Instr.index
  rw [run_bindv (a := (k, i)) (w' := K.w) (by rw [hvi]; rfl), run_bindv hu, hv]
  simp only
  rw [if_pos ⟨h0, hlt⟩, run_bindv (r_size hT he K.w)]
  exact h1

/-! slicing -/
def bnd (o : Option Nat) (d : Nat) : Nat := o.getD d
/-- Bounds of a slice expression: operands that are small whole numbers. -/
def isNat (σ : St) (x : Option Operand) (n : Option Nat) : Prop :=
  match x, n with
  | none, none => True
  | some x, some n => ∃ k, evo σ.tm x = some (.int k (n : Int))
  | _, _ => False
omit hT in
theorem r_bound {k : IntKind} {n y : Nat} (h : n ≤ y) (code : BoundsCode) (w : World) : (Instr.sliceBound (.int k (n : Int)) y code).run P w = .ok n w := by
  unfold Instr.sliceBound
  rw [run_bindv (a := (k, (n : Int))) (w' := w) (by rfl)]
  simp only
  rw [if_pos ⟨by omega, by omega⟩]
  simp
omit hT in
theorem isNat_eval {K : Ctx} {a : Act} (hs : SR K N σ a) {x : Option Operand} {n : Option Nat} (h : isNat σ x n) : ∃ k, x.map a.eval = n.map (fun (n : Nat) => Value.int k (n : Int)) := by
  cases x <;> cases n <;> simp only [isNat] at h
  · exact ⟨.i64, rfl⟩
  · obtain ⟨k, hk⟩ := h
    have := (evo_sound hs.tr hk).int_inv
    exact ⟨k, by simp [this]⟩
omit hT in
theorem r_bounds {isS : Bool} {len cap : Nat} {lo hi mx : Option Nat} {k1 k2 k3 : IntKind} (h1 : bnd lo 0 ≤ bnd hi len) (h2 : bnd hi len ≤ bnd mx cap) (h3 : bnd mx cap ≤ cap) (h4 : mx.isSome = true → hi.isSome = true) (w : World) :
    (Instr.sliceBounds isS len cap (lo.map fun (n : Nat) => Value.int k1 (n : Int)) (hi.map fun (n : Nat) => Value.int k2 (n : Int)) (mx.map fun (n : Nat) => Value.int k3 (n : Int))).run P w = .ok (bnd lo 0, bnd hi len, bnd mx cap) w := by
  unfold Instr.sliceBounds
  cases mx <;> cases hi <;> cases lo <;> simp only [bnd, Option.getD_none, Option.getD_some, Option.map_none, Option.map_some] at h1 h2 h3 ⊢
  all_goals first
    | (have h5 := h4 rfl; simp at h5; done)
    | (repeat (first | rw [run_bindv (r_bound h3 _ _)] | rw [run_bindv (r_bound h2 _ _)] | rw [run_bindv (r_bound h1 _ _)] | rw [run_bindv (run_purev _ _)])
       rfl)
/-- A part of what is only read (the bounds within its length). -/
theorem opv_slice_view {t e : TypeId} {x : Operand} {lo hi : Option Operand} {l h : Option Nat} {rows : List (List AV)} {ti ei : TI} (hop : o.op = .slice t x lo hi none) (hx : evo σ.tm x = some (.view rows))
    (hl : isNat σ lo l) (hh : isNat σ hi h) (ht : T t = some ti) (hd : ti.desc = .slice e) (he : T e = some ei) (h1 : bnd l 0 ≤ bnd h rows.length) (h2 : bnd h rows.length ≤ rows.length) (hsz : ∀ r, r ∈ rows → r.length = ei.size) :
    OpV P N o σ (.view ((rows.take (bnd h rows.length)).drop (bnd l 0))) σ.h σ.n := by
  refine opv_of fun K a hs => ?_
  obtain ⟨ad, c, esz, hv, hc, hlr, hcell⟩ := view_cells (evo_sound hs.tr hx)
  have hu := r_und hT ht K.w
  rw [hd] at hu
  have hlen : ((rows.take (bnd h rows.length)).drop (bnd l 0)).length = bnd h rows.length - bnd l 0 := by simp; omega
  refine ⟨.slice (if c = bnd l 0 then ad else ad.map (·.add (bnd l 0 * ei.size))) (bnd h rows.length - bnd l 0) (c - bnd l 0), ?_, ?_⟩
  · unfold execOp; rw [hop]; refine run_v ?_
    unfold Instr.sliceAt
    rw [run_bindv hu]
    simp only
    unfold Instr.slice
    rw [run_bindv hu, hv]
    simp only
    obtain ⟨k1, e1⟩ := isNat_eval hs hl
    obtain ⟨k2, e2⟩ := isNat_eval hs hh
    rw [e1, e2]
    have hb := r_bounds (P := P) (isS := true) (len := rows.length) (cap := c) (lo := l) (hi := h) (mx := none) (k1 := k1) (k2 := k2) (k3 := .i64) h1 (by show _ ≤ c; omega) (Nat.le_refl _) (by simp) K.w
    simp only [Option.map_none] at hb ⊢
    rw [run_bindv hb]
    simp only
    rw [run_bindv (r_size hT he K.w)]
    rfl
  · rw [← hlen]
    refine view_mk (esz := ei.size) (by rw [hlen]; omega) (fun r hr => hsz r (List.mem_of_mem_take (List.mem_of_mem_drop hr))) fun hp => ?_
    rw [hlen] at hp
    obtain ⟨blk, off, rfl, hro, hcells⟩ := hcell (by omega)
    rw [if_neg (by omega)]
    refine ⟨blk, off + bnd l 0 * ei.size, by simp [add_plain], hro, fun i r hi => ?_⟩
    rw [List.getElem?_drop, List.getElem?_take] at hi
    split at hi
    · obtain ⟨vs, hvs, hcs⟩ := hcells _ r hi
      refine ⟨vs, hvs, fun j u hu => ?_⟩
      have := hcs j u hu
      have e1 : esz = ei.size := by rw [← hlr r (List.mem_of_getElem? hi)]; exact hsz r (List.mem_of_getElem? hi)
      rw [e1, Nat.add_mul] at this
      rw [← this]
      congr 2
      omega
    · cases hi
/-- A part of own memory. -/
theorem opv_slice_own {t e : TypeId} {x : Operand} {lo hi mx : Option Operand} {l h m : Option Nat} {id off len : Nat} {cap : Option Nat} {sz : Nat} {ti ei : TI} (hop : o.op = .slice t x lo hi mx) (hx : evo σ.tm x = some (.slice id off len cap sz))
    (hl : isNat σ lo l) (hh : isNat σ hi h) (hm : isNat σ mx m) (ht : T t = some ti) (hd : ti.desc = .slice e) (he : T e = some ei) (h1 : bnd l 0 ≤ bnd h len) (h2 : bnd h len ≤ len) (h3 : ∀ m', m = some m' → bnd h len ≤ m' ∧ m' ≤ len ∧ h.isSome = true) (hsz : sz = ei.size) :
    OpV P N o σ (.slice id (off + bnd l 0 * sz) (bnd h len - bnd l 0) (match m with | some m => some (m - bnd l 0) | none => cap.map (· - bnd l 0)) sz) σ.h σ.n := by
  refine opv_of fun K a hs => ?_
  have hvx := evo_sound hs.tr hx
  have hu := r_und hT ht K.w
  rw [hd] at hu
  generalize hhv : a.eval x = v at hvx
  cases hvx with
  | @slice id off len cap sz o' c hid ho hc hl' hcap =>
    have hm2 : bnd h len ≤ bnd m c := by cases m with | none => show _ ≤ c; omega | some m' => exact (h3 m' rfl).1
    have hm3 : bnd m c ≤ c := by cases m with | none => exact Nat.le_refl _ | some m' => have := (h3 m' rfl).2.1; show m' ≤ c; omega
    have hm4 : m.isSome = true → h.isSome = true := by cases m with | none => simp | some m' => exact fun _ => (h3 m' rfl).2.2
    refine ⟨.slice (if bnd m c = bnd l 0 then some ⟨K.base id, o', none⟩ else some ⟨K.base id, o' + bnd l 0 * ei.size, none⟩) (bnd h len - bnd l 0) (bnd m c - bnd l 0), ?_, ?_⟩
    · unfold execOp; rw [hop]; refine run_v ?_
      unfold Instr.sliceAt
      rw [run_bindv hu]
      simp only
      unfold Instr.slice
      rw [run_bindv hu, hhv]
      simp only
      obtain ⟨k1, e1⟩ := isNat_eval hs hl
      obtain ⟨k2, e2⟩ := isNat_eval hs hh
      obtain ⟨k3, e3⟩ := isNat_eval hs hm
      rw [e1, e2, e3]
      have hb := r_bounds (P := P) (isS := true) (len := len) (cap := c) (lo := l) (hi := h) (mx := m) (k1 := k1) (k2 := k2) (k3 := k3) h1 hm2 hm3 hm4 K.w
      rw [run_bindv hb]
      simp only
      rw [run_bindv (r_size hT he K.w)]
      simp only [Option.map_some, add_plain]
      rfl
    · by_cases e0 : bnd m c = bnd l 0
      · rw [if_pos e0]
        exact .slice (o := o') hid (fun hp => absurd hp (by omega)) (fun hp => absurd hp (by omega)) (by omega) (fun c0 hc0 => by
          cases m with
          | none => cases cap with
            | none => simp at hc0
            | some c1 => simp at hc0; have := hcap c1 rfl; simp only [bnd, Option.getD_none] at *; omega
          | some m' => simp at hc0; simp only [bnd, Option.getD_some] at *; omega)
      · rw [if_neg e0]
        refine .slice (o := o' + bnd l 0 * ei.size) hid (fun hp => ?_) (fun hp => ?_) (by omega) (fun c0 hc0 => ?_)
        · rw [ho (by omega), hsz]; omega
        · have := hc (by omega)
          have h5 : (bnd m c - bnd l 0) * sz + bnd l 0 * sz ≤ c * sz := by rw [← Nat.add_mul]; exact Nat.mul_le_mul_right _ (by omega)
          rw [← hsz]; omega
        · cases m with
          | none => cases cap with
            | none => simp at hc0
            | some c1 => simp at hc0; have := hcap c1 rfl; simp only [bnd, Option.getD_none] at *; omega
          | some m' => simp at hc0; simp only [bnd, Option.getD_some] at *; omega
end
end Go.Lg

/- Literals of structs, arrays and slices; make; append; what is only read from now on. -/
set_option linter.unusedVariables false
set_option linter.unusedSimpArgs false
set_option linter.unusedSectionVars false
namespace Go.Lg
open Go

def fillA (place : Nat → Option (Nat × Nat)) (cells : List AV) : List (Nat × AV) → Option (List AV)
  | [] => some cells
  | (i, x) :: rest =>
    match place i with
    | none => none
    | some (off, size) => if (cellsA x).length = size ∧ known x = true then (if off + (cellsA x).length ≤ cells.length then fillA place (wr cells off (cellsA x)) rest else none) else none
theorem VRs.set {K : Ctx} {xs : List AV} {vs : List Value} (h : VRs K xs vs) (i : Nat) {x : AV} {v : Value} (hv : VR K x v) : VRs K (xs.set i x) (vs.set i v) :=
  ⟨by simp [h.1], fun j y u hy hu => by
    rw [List.getElem?_set] at hy hu
    by_cases e : i = j
    · subst e
      rw [if_pos rfl] at hy hu
      split at hy
      · rename_i hlt; rw [if_pos (by rw [h.1]; exact hlt)] at hu; cases hy; cases hu; exact hv
      · cases hy
    · rw [if_neg e] at hy hu; exact h.2 j y u hy hu⟩
theorem wr_fold {K : Ctx} : ∀ (ys : List AV) (us : List Value) (xs : List AV) (arr : Array Value) (off j : Nat), VRs K xs arr.toList → VRs K ys us →
    VRs K (wr xs (off + j) ys) ((us.zipIdx j).foldl (fun (cs : Array Value) (p : Value × Nat) => cs.setIfInBounds (off + p.2) p.1) arr).toList
  | [], us, xs, arr, off, j, h, h2 => by
    have : us = [] := List.eq_nil_of_length_eq_zero h2.1
    subst this; exact h
  | y :: ys, us, xs, arr, off, j, h, h2 => by
    cases us with
    | nil => have := h2.1; simp at this
    | cons u us =>
      unfold wr
      rw [List.zipIdx_cons, List.foldl_cons, Nat.add_assoc]
      exact wr_fold ys us _ _ off (j + 1) (by simpa using h.set (off + j) h2.head) h2.tail
/-- Parts and their values. -/
def PR (K : Ctx) (ps : List (Nat × AV)) (qs : List (Nat × Value)) : Prop := qs.length = ps.length ∧ ∀ (i : Nat) p q, ps[i]? = some p → qs[i]? = some q → p.1 = q.1 ∧ VR K p.2 q.2
theorem fill_sound {K : Ctx} {place : Nat → Option (Nat × Nat)} : ∀ (ps : List (Nat × AV)) (qs : List (Nat × Value)) (xs : List AV) (arr : Array Value) (ys : List AV), VRs K xs arr.toList → PR K ps qs → fillA place xs ps = some ys →
    ∃ arr', Instr.fill place arr qs = some arr' ∧ VRs K ys arr'.toList
  | [], qs, xs, arr, ys, h, h2, hf => by
    have : qs = [] := List.eq_nil_of_length_eq_zero h2.1
    subst this; cases hf; exact ⟨arr, rfl, h⟩
  | (i, x) :: ps, qs, xs, arr, ys, h, h2, hf => by
    cases qs with
    | nil => have := h2.1; simp at this
    | cons q qs =>
      obtain ⟨i', v⟩ := q
      obtain ⟨e1, hv⟩ := h2.2 0 _ _ rfl rfl
      have e1 : i = i' := e1
      subst e1
      have hv : VR K x v := hv
      unfold fillA at hf
      unfold Instr.fill
      split at hf
      · cases hf
      · rename_i off size hp
        rw [hp]
        have hxl : arr.size = xs.length := by rw [← h.1]; simp
        split at hf
        · rename_i hszk
          obtain ⟨hsz, hk⟩ := hszk
          have hc := cells_VRs hk hv
          have hcl : v.cells.size = (cellsA x).length := by rw [← hc.1]; simp
          split at hf
          · rename_i hle
            simp only
            rw [if_neg (by simp only [Bool.or_eq_true, decide_eq_true_eq, not_or]; exact ⟨by simp [hcl, hsz], by omega⟩)]
            refine fill_sound ps qs _ _ ys ?_ ⟨by have := h2.1; simpa using this, fun j p q hp hq => h2.2 (j + 1) p q (by simpa using hp) (by simpa using hq)⟩ hf
            have := wr_fold (cellsA x) v.cells.toList xs arr off 0 h hc
            rw [Nat.add_zero] at this
            rw [← Array.foldl_toList]
            simpa [Array.toList_zipIdx] using this
          · cases hf
        · cases hf

def evp (tm : Nat → AV) : List (Nat × Operand) → Option (List (Nat × AV))
  | [] => some []
  | (i, x) :: r => match evo tm x, evp tm r with
    | some y, some ys => some ((i, y) :: ys)
    | _, _ => none
theorem evp_sound {K : Ctx} {N : Nat} {tm : Nat → AV} {a : Act} (hr : TR K N tm a.tmps) : ∀ {xs : List (Nat × Operand)} {ys : List (Nat × AV)}, evp tm xs = some ys → PR K ys (xs.map fun p => (p.1, a.eval p.2))
  | [], ys, h => by cases h; exact ⟨rfl, by simp⟩
  | (i, x) :: r, ys, h => by
    unfold evp at h
    split at h
    · rename_i y ys' h1 h2
      cases h
      have ih := evp_sound hr h2
      refine ⟨by have := ih.1; simpa using this, fun j p q hp hq => ?_⟩
      cases j with
      | zero => simp at hp hq; subst hp hq; exact ⟨rfl, evo_sound hr h1⟩
      | succ j => simp at hp hq; exact ih.2 j p q (by simpa using hp) (by simpa using hq)
    · cases h

/-- The places of a struct's fields. -/
def placesA (T : TT) : List Field → Option (List (Nat × Nat))
  | [] => some []
  | f :: fs => match T f.type, placesA T fs with
    | some i, some r => some ((f.offset, i.size) :: r)
    | _, _ => none
def buildA (T : TT) (t : TypeId) (ps : List (Nat × AV)) : Option (List AV) :=
  match T t with
  | some i => match i.desc with
    | .array _ e => match T e with
      | some ei => fillA (fun j => some (j * ei.size, ei.size)) i.zero ps
      | none => none
    | .struct fs => match placesA T fs.toList with
      | some places => fillA (places[·]?) i.zero ps
      | none => none
    | _ => none
  | none => none

section
variable {P : Program} {T : TT} (hT : TOK P T) {N : Nat} {o : Oper} {σ : St}
include hT
theorem places_sound : ∀ {fs : List Field} {r : List (Nat × Nat)}, placesA T fs = some r → fs.mapM (fun f => (P.info? f.type).map fun i => (f.offset, i.size)) = some r
  | [], r, h => by cases h; rfl
  | f :: fs, r, h => by
    unfold placesA at h
    split at h
    · rename_i i r' hi hr
      cases h
      obtain ⟨ti, z, h1, h2, _⟩ := hT.info f.type i hi
      simp [List.mapM_cons, h1, h2, places_sound hr]
    · cases h
theorem opv_build {t : TypeId} {parts : Array (Nat × Operand)} {ps : List (Nat × AV)} {ys : List AV} (hop : o.op = .build t parts) (hp : evp σ.tm parts.toList = some ps) (hy : buildA T t ps = some ys) : OpV P N o σ (.agg ys) σ.h σ.n := by
  refine opv_of fun K a hs => ?_
  have hps := evp_sound hs.tr hp
  have key : ∃ cells, P.built t (parts.map fun (i, x) => (i, a.eval x)).toList = some cells ∧ VRs K ys cells.toList := by
    have e1 : (parts.map fun (i, x) => (i, a.eval x)).toList = parts.toList.map fun p => (p.1, a.eval p.2) := by simp
    rw [e1]
    unfold buildA at hy
    split at hy
    · rename_i i hi
      obtain ⟨ti, z, h1, h2, h3, h4, h5, h6, h7⟩ := hT.info t i hi
      have hu := hT.und t i hi
      unfold Program.built
      split at hy
      · rename_i n e hd
        split at hy
        · rename_i ei he
          obtain ⟨tj, _, g1, g2, _⟩ := hT.info e ei he
          obtain ⟨arr', k1, k2⟩ := fill_sound (K := K) ps _ i.zero z.cells ys (h7 K) hps hy
          refine ⟨arr', ?_, k2⟩
          rw [hd] at hu
          simp only [h1, hu, h4, g1, g2]
          exact k1
        · cases hy
      · rename_i fs hd
        split at hy
        · rename_i places hpl
          obtain ⟨arr', k1, k2⟩ := fill_sound (K := K) ps _ i.zero z.cells ys (h7 K) hps hy
          refine ⟨arr', ?_, k2⟩
          rw [hd] at hu
          simp only [h1, hu, h4, places_sound hT hpl]
          simpa using k1
        · cases hy
      · cases hy
    · cases hy
  obtain ⟨cells, h1, h2⟩ := key
  refine ⟨.agg cells, ?_, VR.agg_.2 h2⟩
  unfold execOp; rw [hop]
  exact run_v (run_build K.w t _ cells h1)

/-! slices that are made -/
def repA (n : Nat) (zero : List AV) : List AV := (List.replicate n zero).flatten
omit hT in
theorem repA_length (n : Nat) (zero : List AV) : (repA n zero).length = n * zero.length := by
  unfold repA
  induction n with
  | zero => simp
  | succ n ih => rw [List.replicate_succ, List.flatten_cons, List.length_append, ih, Nat.succ_mul, Nat.add_comm]
omit hT in
theorem repA_get (n : Nat) (zero : List AV) (j : Nat) (hj : j < n * zero.length) : (repA n zero)[j]? = zero[j % zero.length]? := by
  induction n generalizing j with
  | zero => simp at hj
  | succ n ih =>
    have e : repA (n + 1) zero = zero ++ repA n zero := by unfold repA; rw [List.replicate_succ, List.flatten_cons]
    rw [e, List.getElem?_append]
    split
    · rename_i h; rw [Nat.mod_eq_of_lt h]
    · rename_i h
      have h2 : n * zero.length + zero.length = (n + 1) * zero.length := by rw [Nat.succ_mul]
      rw [ih _ (by omega), ← Nat.mod_eq_sub_mod (by omega)]
omit hT in
theorem repA_VRs {K : Ctx} {n : Nat} {zero : List AV} {z : Array Value} (h : VRs K zero z.toList) : VRs K (repA n zero) ((Array.range (n * z.size)).map (fun i => z[i % z.size]!)).toList := by
  have hz : z.size = zero.length := by rw [← h.1]; simp
  refine ⟨by simp [repA_length, hz], fun j x v hx hv => ?_⟩
  have hj : j < n * zero.length := by rw [← repA_length]; exact (List.getElem?_eq_some_iff.1 hx).1
  rw [repA_get n zero j hj] at hx
  simp [hz, hj] at hv
  have hlt : j % zero.length < zero.length := (List.getElem?_eq_some_iff.1 hx).1
  obtain ⟨u, hu, hr⟩ := h.get hx
  rw [Array.getElem?_toList] at hu
  have : z[j % zero.length]! = u := by simp [getElem!_def, hu]
  rw [this] at hv; subst hv; exact hr

omit hT in
/-- Own memory's slice over a new block. -/
theorem slice_new {K : Ctx} {o : Obj} {n c sz m : Nat} (cap : Option Nat) (hm : c * sz ≤ m) (hn : n ≤ c) (hcap : ∀ c0, cap = some c0 → c = c0) : VR (K.newOwn o m) (.slice K.next 0 n cap sz) (.slice (some ⟨K.w.heap.size, 0, none⟩) n c) := by
  have e1 : (K.newOwn o m).base K.next = K.w.heap.size := upd_same _ _ _
  have e2 : (K.newOwn o m).boff K.next = 0 := upd_same _ _ _
  have e3 : (K.newOwn o m).bsz K.next = m := upd_same _ _ _
  have := VR.slice (K := K.newOwn o m) (id := K.next) (off := 0) (len := n) (cap := cap) (sz := sz) (o := 0) (c := c) (Nat.lt_succ_self _) (by rw [e2]; simp) (by rw [e3]; simpa using fun _ => hm) hn hcap
  rw [e1] at this; exact this

/-- A slice's literal. -/
theorem r_buildSlice {t e : TypeId} {len : Nat} {parts : Array (Nat × Operand)} {ps : List (Nat × AV)} {ys : List AV} {ti ei : TI} {K : Ctx} {a : Act} (hs : SR K N σ a) (ht : T t = some ti) (hd : ti.desc = .slice e) (he : T e = some ei) (hz : 0 < len * ei.size) (hb : len * ei.size ≤ 16777216)
    (hzl : ei.zero.length = ei.size) (hp : evp σ.tm parts.toList = some ps) (hy : fillA (fun j => some (j * ei.size, ei.size)) (repA len ei.zero) ps = some ys) :
    ∃ cells : Array Value, (Instr.buildSlice t len (parts.map fun (i, x) => (i, a.eval x))).run P K.w = .ok (.slice (some ⟨K.w.heap.size, 0, none⟩) len len) { K.w with heap := K.w.heap.push (.cells cells e) } ∧ VRs K ys cells.toList := by
  have hps := evp_sound hs.tr hp
  have hu := r_und hT ht K.w
  rw [hd] at hu
  obtain ⟨z, hzr, hzs, _, hzv⟩ := r_zero hT he K.w
  have hrep := repA_VRs (n := len) (hzv K)
  rw [hzs] at hrep
  obtain ⟨cells, k1, k2⟩ := fill_sound (K := K) ps _ _ _ ys hrep hps hy
  refine ⟨cells, ?_, k2⟩
  unfold Instr.buildSlice
  rw [run_bindv hu]
  simp only
  rw [run_bindv (r_size hT he K.w), if_neg (by omega)]
  have hne : ¬ (len * ei.size = 0) := by omega
  simp only [hne, if_false]
  rw [run_bindv hzr, run_bindv (run_purev _ _)]
  have e2 : (Array.map (fun x => (x.fst, a.eval x.snd)) parts).toList = parts.toList.map fun p => (p.1, a.eval p.2) := by simp
  simp only [e2, hzs, k1]
  rfl
/-- The rows of cells. -/
def chunk (sz : Nat) : Nat → List AV → List (List AV)
  | 0, _ => []
  | n + 1, cs => cs.take sz :: chunk sz n (cs.drop sz)
omit hT in
theorem chunk_length (sz : Nat) : ∀ (n : Nat) (cs : List AV), (chunk sz n cs).length = n
  | 0, _ => rfl
  | n + 1, cs => by simp [chunk, chunk_length sz n]
omit hT in
theorem chunk_get (sz : Nat) : ∀ (n : Nat) (cs : List AV) (i : Nat) (r : List AV), (chunk sz n cs)[i]? = some r → r = (cs.drop (i * sz)).take sz
  | 0, _, _, _, h => by simp [chunk] at h
  | n + 1, cs, 0, r, h => by simp [chunk] at h; simp [h]
  | n + 1, cs, i + 1, r, h => by
    simp [chunk] at h
    have := chunk_get sz n _ i r h
    rw [this, List.drop_drop, Nat.succ_mul, Nat.add_comm]
omit hT in
theorem chunk_row {sz n : Nat} {cs : List AV} (hl : n * sz ≤ cs.length) : ∀ r, r ∈ chunk sz n cs → r.length = sz := by
  intro r hr
  obtain ⟨i, hi⟩ := List.mem_iff_getElem?.1 hr
  have hlt : i < n := by have := (List.getElem?_eq_some_iff.1 hi).1; rwa [chunk_length] at this
  rw [chunk_get sz n cs i r hi, List.length_take, List.length_drop]
  have : i * sz + sz ≤ n * sz := by rw [← Nat.succ_mul]; exact Nat.mul_le_mul_right _ hlt
  omega
omit hT in
theorem view_of_cells {K : Ctx} {cs : List AV} {vs : List Value} {blk off n c sz : Nat} (hv : VRs K cs vs) (hc : ∀ (j : Nat) v, vs[j]? = some v → K.w.cell? ⟨blk, off + j, none⟩ = some v) (hro : K.ro blk) (hl : n * sz ≤ cs.length) (hn : n ≤ c) :
    VR K (.view (chunk sz n cs)) (.slice (some ⟨blk, off, none⟩) n c) := by
  have := view_mk (K := K) (rows := chunk sz n cs) (a := some ⟨blk, off, none⟩) (c := c) (esz := sz) (by rw [chunk_length]; exact hn) (chunk_row hl) (fun _ => ⟨blk, off, rfl, hro, fun i r hi => ⟨(vs.drop (i * sz)).take sz, by
    rw [chunk_get sz n cs i r hi]; exact (hv.drop _).take _, fun j u hu => by
      rw [List.getElem?_take] at hu
      split at hu
      · rw [List.getElem?_drop] at hu
        rw [Nat.add_assoc]; exact hc _ u hu
      · cases hu⟩⟩)
  rw [chunk_length] at this; exact this
/-- A slice's literal that nobody writes. -/
theorem opv_buildSlice_ro {t e : TypeId} {len : Nat} {parts : Array (Nat × Operand)} {ps : List (Nat × AV)} {ys : List AV} {ti ei : TI} (hop : o.op = .buildSlice t len parts) (ht : T t = some ti) (hd : ti.desc = .slice e) (he : T e = some ei) (hz : 0 < len * ei.size) (hb : len * ei.size ≤ 16777216)
    (hzl : ei.zero.length = ei.size) (hp : evp σ.tm parts.toList = some ps) (hy : fillA (fun j => some (j * ei.size, ei.size)) (repA len ei.zero) ps = some ys) (hl : ys.length = len * ei.size) :
    OpV P N o σ (.view (chunk ei.size len ys)) σ.h σ.n := by
  intro K a hs
  obtain ⟨cells, h1, h2⟩ := r_buildSlice hT hs ht hd he hz hb hzl hp hy
  obtain ⟨g1, g2⟩ := newRo_ok hs.rel (.cells cells e)
  refine ⟨.slice (some ⟨K.w.heap.size, 0, none⟩) len len, K.newRo (.cells cells e), .inl ?_, hs.next, g1, g2, view_of_cells (vs := cells.toList) (h2.mono (newRo_ext hs.rel _)) (fun j v hj => ?_) (.inr rfl) (by omega) (Nat.le_refl _)⟩
  · unfold execOp; rw [hop]; exact run_v h1
  · rw [Array.getElem?_toList] at hj
    have e1 : (K.newRo (.cells cells e)).w.heap[K.w.heap.size]? = some (.cells cells e) := push_new K.w _
    simp only [World.cell?, e1, Option.isSome_none, Bool.false_eq_true, if_false, Nat.zero_add]
    exact hj
end
end Go.Lg


