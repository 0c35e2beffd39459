/- Regions, operations, calls, functions: the rules. -/
import Derived.Test.YtlmighkbeacjnaaLg2
set_option linter.unusedVariables false
set_option linter.unusedSimpArgs false
set_option linter.unusedSectionVars false
namespace Go.Lg
open Go

/-- The machine's weakest precondition of the rest of a region. -/
def MO (P : Program) (B : Fb → Prop) (ops : Array Oper) (l : List Nat) (Q : Ex → Act → World → Prop) (a : Act) (w : World) : Prop :=
  ∀ (b : Fb), B b → ∀ (k : List Item) (cs : List Frame), ∃ e a' w', Q e a' w' ∧ Arr P (lone (b.fr a (.inRegion ops l :: k)) cs w) b k cs e a' w'

section mo
variable {P : Program} {B : Fb → Prop} {ops : Array Oper} {l : List Nat} {i : Nat} {o : Oper} {Q : Ex → Act → World → Prop} {a : Act} {w w' : World}
theorem mo_nil (h : Q .normal a w) : MO P B ops [] Q a w := fun _ _ _ _ => ⟨.normal, a, w, h, .one st_region_end⟩
theorem mo_skip (ho : ops[i]? = some o) (hw : Region.wanted o (yielded ops a.tmps) = false) (h : MO P B ops l Q (a.put o.dst undef) w) : MO P B ops (i :: l) Q a w := by
  intro b hb k cs
  obtain ⟨e, a', w', hq, harr⟩ := h b hb k cs
  have hs := st_op_skip (P := P) (b := b) (a := a) (k := k) (cs := cs) (w := w) (ops := ops) (i := i) (rest := l) (by simp [ho, hw])
  simp only [ho, Option.bind_some] at hs
  exact ⟨e, a', w', hq, .of_steps (.one hs) harr⟩
theorem fin_fr {b : Fb} {k : List Item} (ho : ops[i]? = some o) (v : Value) : (b.fr a (.inRegion ops (i :: l) :: k)).finish v = b.fr (a.put o.dst v) (.inRegion ops l :: k) := by
  rw [finish_fr, ho]; rfl
theorem mo_value {v : Value} (ho : ops[i]? = some o) (hw : Region.wanted o (yielded ops a.tmps) = true) (hd : ∀ c, o.op ≠ .defer c)
    (hr : (execOp a.eval o).run P w = .ok (.value v) w' ∨ ((execOp a.eval o).run P w = .ok .skip w' ∧ v = undef)) (h : MO P B ops l Q (a.put o.dst v) w') : MO P B ops (i :: l) Q a w := by
  intro b hb k cs
  obtain ⟨e, a', w'', hq, harr⟩ := h b hb k cs
  have hg := stG_op (P := P) (b := b) (k := k) (cs := cs) (w := w) (rest := l) ho hw (.inr hd)
  refine ⟨e, a', w'', hq, .of_steps (.one (step_lone_go ?_)) harr⟩
  rcases hr with hr | ⟨hr, rfl⟩
  · rw [hg, ← fin_fr ho]; simp [stepG.apply, hr]
  · rw [hg, ← fin_fr ho]; simp [stepG.apply, hr]
theorem mo_call {f : FuncId} {args : Array Value} {R : Ending → World → Prop} (ho : ops[i]? = some o) (hw : Region.wanted o (yielded ops a.tmps) = true) (hd : ∀ c, o.op ≠ .defer c)
    (hr : (execOp a.eval o).run P w = .ok (.enter f args) w') (hc : Calls P f args w' R)
    (h : ∀ e w2, R e w2 → (∃ v, e = .returned v ∧ MO P B ops l Q (a.put o.dst v) w2) ∨ (∃ v, e = .panicked [{ v, recovered := false }] ∧ Q (.panic v) a w2)) : MO P B ops (i :: l) Q a w := by
  intro b hb k cs
  have hg := stG_op (P := P) (b := b) (k := k) (cs := cs) (w := w) (rest := l) ho hw (.inr hd)
  obtain ⟨e, w'', fr, hR, hsteps, _, hleave⟩ := hc (b.fr a (.inRegion ops (i :: l) :: k) :: cs)
  have henter : step P (lone (b.fr a (.inRegion ops (i :: l) :: k)) cs w) = .next (lone (Frame.enter P f args .normal) (b.fr a (.inRegion ops (i :: l) :: k) :: cs) w') :=
    step_lone_go (by rw [hg]; simp [stepG.apply, hr, Fb.fr])
  rcases h e w'' hR with ⟨v, rfl, hm⟩ | ⟨v, rfl, hq⟩
  · obtain ⟨e, a', w₃, hq, harr⟩ := hm b hb k cs
    refine ⟨e, a', w₃, hq, .of_steps (.head henter (Steps.trans hsteps (.one ?_))) harr⟩
    rw [← fin_fr ho]; exact step_leave_returned hleave
  · exact ⟨.panic v, a, w'', hq, .inRegion ops (i :: l) :: k, rfl, .head henter (Steps.trans hsteps (.one (step_leave_panicked hleave)))⟩
theorem mo_panic {v : Value} (ho : ops[i]? = some o) (hw : Region.wanted o (yielded ops a.tmps) = true) (hd : ∀ c, o.op ≠ .defer c)
    (hr : (execOp a.eval o).run P w = .halt (.panic v) w') (h : Q (.panic v) a w') : MO P B ops (i :: l) Q a w := by
  intro b hb k cs
  have hg := stG_op (P := P) (b := b) (k := k) (cs := cs) (w := w) (rest := l) ho hw (.inr hd)
  refine ⟨_, a, w', h, .inRegion ops (i :: l) :: k, rfl, .one (step_lone_go ?_)⟩
  rw [hg]; simp [stepG.apply, hr, Frame.raise]
  rfl
theorem mw_region {id : Nat} (h : MO P B ops (List.range ops.size) Q a w) : MW P B (.region id ops false) Q a w :=
  fun b hb k cs => let ⟨e, a', w', q, r⟩ := h b hb k cs; ⟨e, a', w', q, .of_steps (.one st_region) r⟩
theorem mw_region_draw {id : Nat} (h : ∀ t, MO P B ops (Region.schedule (P.follows .mixedOrders) ops t) Q a { w with drawn := w.drawn + 1 }) : MW P B (.region id ops true) Q a w :=
  fun b hb k cs => let ⟨e, a', w', q, r⟩ := h _ b hb k cs; ⟨e, a', w', q, .of_steps (.one st_region_draw) r⟩
end mo

/-- What the logic's post says at the machine. -/
def Post (N m : Nat) (Q : AEx → St → Prop) (K : Ctx) (σ : St) : Ex → Act → World → Prop :=
  fun e a' w' => ∃ K' σ' e', K'.w = w' ∧ SR K' N σ' a' ∧ StM m K σ.h K' σ'.h ∧ ER K' e' e ∧ Q e' σ'
theorem Post.step {N m : Nat} {Q : AEx → St → Prop} {K K1 : Ctx} {σ σ1 : St} (hs : StM m K σ.h K1 σ1.h) {e : Ex} {a : Act} {w : World} (h : Post N m Q K1 σ1 e a w) : Post N m Q K σ e a w := by
  obtain ⟨K', σ', e', h1, h2, h3, h4, h5⟩ := h
  exact ⟨K', σ', e', h1, h2, hs.trans h3, h4, h5⟩
theorem MO.mono {P : Program} {B : Fb → Prop} {ops : Array Oper} {l : List Nat} {Q Q' : Ex → Act → World → Prop} {a : Act} {w : World} (h : MO P B ops l Q a w) (hq : ∀ e a w, Q e a w → Q' e a w) : MO P B ops l Q' a w :=
  fun b hb k cs => let ⟨e, a', w', q, r⟩ := h b hb k cs; ⟨e, a', w', hq _ _ _ q, r⟩

def WO (P : Program) (B : Fb → Prop) (N m : Nat) (ops : Array Oper) (l : List Nat) (Q : AEx → St → Prop) (σ : St) : Prop :=
  ∀ K a, m ≤ K.next → SR K N σ a → MO P B ops l (Post N m Q K σ) a K.w

/-- The rest of a region as a list. -/
def WL (P : Program) (B : Fb → Prop) (N m : Nat) (all rest : List Oper) (Q : AEx → St → Prop) (σ : St) : Prop :=
  ∀ pre, all = pre ++ rest → WO P B N m all.toArray (List.range' pre.length rest.length) Q σ

theorem w_region {P : Program} {B : Fb → Prop} {N m : Nat} {Q : AEx → St → Prop} {σ : St} {id : Nat} {ops : Array Oper} (h : WL P B N m ops.toList ops.toList Q σ) : W P B N m (.region id ops false) Q σ := by
  intro K a hm hs
  refine mw_region ?_
  have := h [] rfl K a hm hs
  simp only [Array.toArray_toList, List.length_nil, Array.length_toList] at this
  rw [List.range_eq_range']
  exact this
theorem wl_nil {P : Program} {B : Fb → Prop} {N m : Nat} {all : List Oper} {Q : AEx → St → Prop} {σ : St} (h : Q .normal σ) : WL P B N m all [] Q σ := by
  intro pre _ K a hm hs
  exact mo_nil ⟨K, σ, _, rfl, hs, .refl hm _, .normal, h⟩

def putT (tm : Nat → AV) : Option Tmp → AV → Nat → AV
  | some d, x => upd tm d x
  | none, _ => tm

/-- What an operation gives. -/
def OpV (P : Program) (N : Nat) (o : Oper) (σ : St) (x : AV) (h' : Heap) (n' : Nat) : Prop :=
  ∀ K a, SR K N σ a → ∃ v K', ((execOp a.eval o).run P K.w = .ok (.value v) K'.w ∨ ((execOp a.eval o).run P K.w = .ok .skip K'.w ∧ v = undef)) ∧
    K'.next = n' ∧ Rel K' h' ∧ Step K σ.h K' h' ∧ VR K' x v

theorem TR.put {K : Ctx} {N : Nat} {tm : Nat → AV} {a : Act} {d : Option Tmp} {x : AV} {v : Value} (h : TR K N tm a.tmps) (hd : ∀ t, d = some t → t < N) (hv : VR K x v) :
    TR K N (putT tm d x) (a.put d v).tmps := by
  cases d with
  | none => exact h
  | some t =>
    refine ⟨by simp [Act.put, h.1], fun s => ?_⟩
    have ht : t < a.tmps.size := by rw [h.1]; exact hd t rfl
    simp only [Act.put, putT, upd, Array.getD_eq_getD_getElem?, Array.getElem?_setIfInBounds]
    by_cases e : s = t
    · subst e; simp [ht]; exact hv
    · simp only [e, if_false, Ne.symm e]
      have := h.2 s
      simpa [Array.getD_eq_getD_getElem?] using this
theorem put_defers (a : Act) (d : Option Tmp) (v : Value) : (a.put d v).defers = a.defers := by cases d <;> rfl

def unguarded (all : List Oper) (o : Oper) (tm : Nat → AV) (b : Bool) : Prop :=
  match o.guard with
  | none => b = true
  | some (j, want) => ∃ oj t, all[j]? = some oj ∧ oj.dst = some t ∧ ((∃ c, tm t = .bool c ∧ b = (c == want)) ∨ (tm t = .tuple [] ∧ b = false))

theorem wanted_of {all : List Oper} {o : Oper} {K : Ctx} {N : Nat} {tm : Nat → AV} {tmps : Array Value} {b : Bool} (h : TR K N tm tmps) (hu : unguarded all o tm b) :
    Region.wanted o (yielded all.toArray tmps) = b := by
  unfold unguarded at hu
  unfold Region.wanted
  cases hg : o.guard with
  | none => simp [hg] at hu; simp [hu]
  | some p =>
    obtain ⟨j, want⟩ := p
    simp only [hg] at hu ⊢
    obtain ⟨oj, t, h1, h2, ⟨c, h3, rfl⟩ | ⟨h3, rfl⟩⟩ := hu
    rotate_left
    · have ht := h.2 t
      rw [h3] at ht
      simp only [yielded, List.getElem?_toArray, h1, h2, Option.bind_some]
      rw [Array.getD_eq_getD_getElem?] at ht
      cases hx : tmps[t]? with
      | none => simp
      | some y =>
        rw [hx] at ht
        cases y <;> first | (simp; done) | cases ht
    have ht := h.2 t
    rw [h3] at ht
    have hv : tmps.getD t undef = .bool c := by cases hh : tmps.getD t undef <;> rw [hh] at ht <;> cases ht; rfl
    have : tmps[t]? = some (.bool c) := by
      rw [Array.getD_eq_getD_getElem?] at hv
      cases hx : tmps[t]? with
      | none => simp [hx, undef] at hv
      | some y => simp [hx] at hv; rw [hv]
    simp [yielded, h1, h2, this]

section wl
variable {P : Program} {B : Fb → Prop} {N m : Nat} {all rest : List Oper} {o : Oper} {Q : AEx → St → Prop} {σ : St}
theorem range'_cons {α : Type} (pre rest : List α) (o : α) : List.range' pre.length (o :: rest).length = pre.length :: List.range' (pre ++ [o]).length rest.length := by
  simp [List.range'_succ]
theorem at_pre {all pre rest : List Oper} {o : Oper} (h : all = pre ++ o :: rest) : all.toArray[pre.length]? = some o := by subst h; simp
theorem wl_op {x : AV} {h' : Heap} {n' : Nat} (hu : unguarded all o σ.tm true) (hd : ∀ t, o.dst = some t → t < N) (hdf : ∀ c, o.op ≠ .defer c)
    (hv : OpV P N o σ x h' n') (h : WL P B N m all rest Q ⟨putT σ.tm o.dst x, h', n', σ.df⟩) : WL P B N m all (o :: rest) Q σ := by
  intro pre hp K a hm hs
  rw [range'_cons]
  obtain ⟨v, K', hr, hn, hrel, hst, hvr⟩ := hv K a hs
  have hE := hst.ext hs.rel
  refine mo_value (at_pre hp) (wanted_of hs.tr hu) hdf hr ?_
  have hs' : SR K' N ⟨putT σ.tm o.dst x, h', n', σ.df⟩ (a.put o.dst v) := ⟨hn, hrel, (hs.tr.mono hE).put hd hvr, by rw [put_defers]; exact hs.dr.mono hE⟩
  exact (h (pre ++ [o]) (by simp [hp]) K' _ (Nat.le_trans hm hst.next) hs').mono fun _ _ _ hq => hq.step (hst.stm hm)
theorem wl_skip (hu : unguarded all o σ.tm false) (hd : ∀ t, o.dst = some t → t < N) (h : WL P B N m all rest Q ⟨putT σ.tm o.dst (.tuple []), σ.h, σ.n, σ.df⟩) : WL P B N m all (o :: rest) Q σ := by
  intro pre hp K a hm hs
  rw [range'_cons]
  refine mo_skip (at_pre hp) (wanted_of hs.tr hu) ?_
  have hs' : SR K N ⟨putT σ.tm o.dst (.tuple []), σ.h, σ.n, σ.df⟩ (a.put o.dst undef) := ⟨hs.next, hs.rel, hs.tr.put hd (VR.undef_ K), by rw [put_defers]; exact hs.dr⟩
  exact h (pre ++ [o]) (by simp [hp]) K _ hm hs'
theorem wl_ghostM {σ1 : St} (hg : ∀ K a, m ≤ K.next → SR K N σ a → ∃ K1, K1.w = K.w ∧ SR K1 N σ1 a ∧ StM m K σ.h K1 σ1.h) (h : WL P B N m all rest Q σ1) : WL P B N m all rest Q σ := by
  intro pre hp K a hm hs
  obtain ⟨K1, hw, hs1, hst⟩ := hg K a hm hs
  have := h pre hp K1 a hst.next' hs1
  rw [hw] at this
  exact this.mono fun _ _ _ hq => hq.step hst
theorem wl_ghost {σ1 : St} (hg : ∀ K a, SR K N σ a → ∃ K1, K1.w = K.w ∧ SR K1 N σ1 a ∧ Step K σ.h K1 σ1.h) (h : WL P B N m all rest Q σ1) : WL P B N m all rest Q σ :=
  wl_ghostM (fun K a hm hs => let ⟨K1, h1, h2, h3⟩ := hg K a hs; ⟨K1, h1, h2, h3.stm hm⟩) h
theorem WL.mono {Q' : AEx → St → Prop} (h : WL P B N m all rest Q σ) (hq : ∀ e σ, Q e σ → Q' e σ) : WL P B N m all rest Q' σ :=
  fun pre hp K a hm hs => (h pre hp K a hm hs).mono fun _ _ _ ⟨K', σ', e', h1, h2, h3, h4, h5⟩ => ⟨K', σ', e', h1, h2, h3, h4, hq _ _ h5⟩
end wl

/-- How a call ends. -/
inductive AR where
  | ret (x : AV)
  | panic (x : AV)
inductive RR (K : Ctx) : AR → Ending → Prop
  | ret {x : AV} {v : Value} (h : VR K x v) : RR K (.ret x) (.returned v)
  | panic {x : AV} {v : Value} (h : VR K x v) : RR K (.panic x) (.panicked [{ v, recovered := false }])

/-- A call's contract: with this own memory (and whatever more there is), the next id 'n', it ends so. -/
def AC (P : Program) (f : FuncId) (args : List AV) (H : Heap) (n : Nat) (Q : AR → Heap → Nat → Prop) : Prop :=
  ∀ K vs, K.next = n → Rel K H → VRs K args vs.toList → Calls P f vs K.w fun e w' => ∃ K' H' r, K'.w = w' ∧ Rel K' H' ∧ Step K H K' H' ∧ RR K' r e ∧ Q r H' K'.next

theorem AC.mono {P : Program} {f : FuncId} {args : List AV} {H : Heap} {n : Nat} {Q Q' : AR → Heap → Nat → Prop} (h : AC P f args H n Q) (hq : ∀ r H n, Q r H n → Q' r H n) : AC P f args H n Q' :=
  fun K vs hn hr hv => (h K vs hn hr hv).mono fun _ _ ⟨K', H', r, h1, h2, h3, h4, h5⟩ => ⟨K', H', r, h1, h2, h3, h4, hq _ _ _ h5⟩

/-- An operation that calls. -/
def OpC (P : Program) (N : Nat) (o : Oper) (σ : St) (f : FuncId) (args : List AV) : Prop :=
  ∀ K a, SR K N σ a → ∃ vs, (execOp a.eval o).run P K.w = .ok (.enter f vs) K.w ∧ VRs K args vs.toList

section call
variable {P : Program} {B : Fb → Prop} {N m : Nat} {all rest : List Oper} {o : Oper} {Q : AEx → St → Prop} {σ : St} {f : FuncId} {args : List AV} {R : AR → Heap → Nat → Prop}
theorem wl_call (hu : unguarded all o σ.tm true) (hd : ∀ t, o.dst = some t → t < N) (hdf : ∀ c, o.op ≠ .defer c) (hc : OpC P N o σ f args) (hac : AC P f args σ.h σ.n R)
    (h : ∀ r h' n', R r h' n' → match r with
      | .ret x => WL P B N m all rest Q ⟨putT σ.tm o.dst x, h', n', σ.df⟩
      | .panic x => Q (.panic x) ⟨σ.tm, h', n', σ.df⟩) : WL P B N m all (o :: rest) Q σ := by
  intro pre hp K a hm hs
  rw [range'_cons]
  obtain ⟨vs, hr, hvs⟩ := hc K a hs
  refine mo_call (at_pre hp) (wanted_of hs.tr hu) hdf hr (hac K vs hs.next hs.rel hvs) ?_
  rintro e w2 ⟨K', H', r, rfl, hrel, hst, hrr, hR⟩
  have hE := hst.ext hs.rel
  have h := h r H' K'.next hR
  cases hrr with
  | @ret x v hv =>
    refine .inl ⟨v, rfl, ?_⟩
    have hs' : SR K' N ⟨putT σ.tm o.dst x, H', K'.next, σ.df⟩ (a.put o.dst v) := ⟨rfl, hrel, (hs.tr.mono hE).put hd hv, by rw [put_defers]; exact hs.dr.mono hE⟩
    exact (h (pre ++ [o]) (by simp [hp]) K' _ (Nat.le_trans hm hst.next) hs').mono fun _ _ _ hq => hq.step (hst.stm hm)
  | @panic x v hv =>
    refine .inr ⟨v, rfl, K', ⟨σ.tm, H', K'.next, σ.df⟩, .panic x, rfl, ⟨rfl, hrel, hs.tr.mono hE, hs.dr.mono hE⟩, hst.stm hm, .panic hv, h⟩
end call

/-- How a function's results are read. -/
def ResV (P : Program) (N : Nat) (fn : Func) (σ : St) (x : AV) : Prop :=
  ∀ K a, SR K N σ a → ∃ v, (results fn a.tmps).run P K.w = .ok v K.w ∧ VR K x v

def Done (P : Program) (fn : Func) (Q : AR → Heap → Nat → Prop) : AEx → St → Prop
  | .normal, σ | .ret, σ => σ.df = [] ∧ ∃ x, ResV P fn.ntmps fn σ x ∧ Q (.ret x) σ.h σ.n
  | .panic x, σ => σ.df = [] ∧ Q (.panic x) σ.h σ.n
  | _, _ => False

def args0 (args : List AV) : Nat → AV := fun t => args.getD t (.tuple [])

theorem st_end {P : Program} {b : Fb} (hb : b.round = none) {a : Act} {cs : List Frame} {w : World} :
    step P (lone (b.fr a []) cs w) = .next (lone { b.fr a [] with mode := .returning } cs w) :=
  step_lone_go (by simp [stepG, stepG.exec, Fb.fr, hb])
theorem st_ret {P : Program} {b : Fb} (hb : b.round = none) {a : Act} {k : List Item} {cs : List Frame} {w : World} :
    step P (lone (b.fr a (.code .ret :: k)) cs w) = .next (lone { b.fr a (.code .ret :: k) with mode := .returning } cs w) :=
  step_lone_go (by simp [stepG, stepG.exec, Fb.fr, hb])

/-- A frame that is no round. -/
def Plain : Fb → Prop := fun b => b.round = none
theorem ac_of_w {P : Program} {f : FuncId} {fn : Func} {c : Code} {args : List AV} {H : Heap} {n : Nat} {Q : AR → Heap → Nat → Prop}
    (hf : P.funcs[f]? = some fn) (hb : fn.body = some c) (hN : args.length ≤ fn.ntmps)
    (h : W P Plain fn.ntmps n c (Done P fn Q) ⟨args0 args, H, n, []⟩) : AC P f args H n Q := by
  intro K vs hn hrel hvs cs
  let b : Fb := { fn := f, kind := .normal, round := none }
  let a : Act := { tmps := vs ++ Array.replicate (fn.ntmps - vs.size) undef, defers := [] }
  have henter : Frame.enter P f vs .normal = b.fr a [.code c] := by
    simp [Frame.enter, Fb.fr, hf, hb, b, a]
  have hz : vs.size = args.length := by simpa using hvs.1
  have htr : TR K fn.ntmps (args0 args) a.tmps := by
    refine ⟨by simp [a]; omega, fun t => ?_⟩
    simp only [a, args0, Array.getD_eq_getD_getElem?, Array.getElem?_append, Array.getElem?_replicate]
    by_cases ht : t < vs.size
    · simp only [ht, if_true]
      have hx : args[t]? = some (args[t]'(by omega)) := List.getElem?_eq_getElem (by omega)
      have hv : vs.toList[t]? = some vs[t] := by simp [ht]
      have := hvs.2 t _ _ hx hv
      simpa [hx, ht] using this
    · simp only [ht, if_false]
      have hx : args[t]? = none := List.getElem?_eq_none (by omega)
      have : ∀ (c : Bool), ((if c = true then some undef else none : Option Value).getD undef) = undef := by intro c; cases c <;> rfl
      have h2 : (if t - vs.size < fn.ntmps - vs.size then some undef else none : Option Value).getD undef = undef := by split <;> rfl
      rw [h2]
      simp [hx]
      exact VR.undef_ K
  have hs : SR K fn.ntmps ⟨args0 args, H, n, []⟩ a := ⟨hn, hrel, htr, rfl⟩
  obtain ⟨e, a', w', ⟨K', σ', e', hw, hs', hst, he, hq⟩, harr⟩ := h K a (Nat.le_of_eq hn.symm) hs b rfl [] cs
  have hst : Step K H K' σ'.h := (hn ▸ hst : StM K.next K H K' σ'.h).step
  subst hw
  rw [← henter] at harr
  cases he with
  | normal =>
    obtain ⟨hd, x, hx, hQ⟩ := hq
    obtain ⟨v, hr, hv⟩ := hx K' a' hs'
    have hdd : a'.defers = [] := by have := hs'.dr; rw [hd] at this; exact this
    exact ⟨.returned v, K'.w, _, ⟨K', σ'.h, .ret x, rfl, hs'.rel, hst, .ret hv, by rw [hs'.next]; exact hQ⟩, Steps.trans harr (.one (st_end rfl)), rfl, rfl, (by show a'.defers ++ [] = []; rw [hdd]; rfl), rfl, fn, hf, hr⟩
  | ret =>
    obtain ⟨hd, x, hx, hQ⟩ := hq
    obtain ⟨v, hr, hv⟩ := hx K' a' hs'
    have hdd : a'.defers = [] := by have := hs'.dr; rw [hd] at this; exact this
    obtain ⟨k1, harr⟩ := harr
    exact ⟨.returned v, K'.w, _, ⟨K', σ'.h, .ret x, rfl, hs'.rel, hst, .ret hv, by rw [hs'.next]; exact hQ⟩, Steps.trans harr (.one (st_ret rfl)), rfl, rfl, (by show a'.defers ++ [] = []; rw [hdd]; rfl), rfl, fn, hf, hr⟩
  | @panic x v hv =>
    obtain ⟨hd, hQ⟩ := hq
    have hdd : a'.defers = [] := by have := hs'.dr; rw [hd] at this; exact this
    obtain ⟨k1, _, harr⟩ := harr
    exact ⟨.panicked _, K'.w, _, ⟨K', σ'.h, .panic x, rfl, hs'.rel, hst, .panic hv, by rw [hs'.next]; exact hQ⟩, harr, rfl, rfl, (by show a'.defers ++ [] = []; rw [hdd]; rfl), fn, hf⟩
  | exit i => exact hq.elim
  | goto i => exact hq.elim
end Go.Lg
