/- Ranges over functions: the machine's steps, rounds, yield, marks. -/
import Derived.Test.YtlmighkbeacjnaaLgJ
import Derived.RangeFuncRecord
set_option linter.unusedVariables false
set_option linter.unusedSimpArgs false
set_option linter.unusedSectionVars false
namespace Go.Lg
open Go

section moves
variable {P : Program} {b : Fb} {a : Act} {k : List Item} {cs : List Frame} {w : World}
theorem st_collected {fr : Frame} {blk : Nat} {ds : List Deferred} (hm : fr.mode ≠ .run) (hd : fr.defers = { target := .collected blk, args := #[] } :: ds) (hb : w.heap[blk]? = some (.deferred (some []))) :
    step P (lone fr cs w) = .next (lone { fr with defers := ds } cs (w.putObj blk (.deferred none))) :=
  step_lone_go (by
    cases h : fr.mode with
    | run => exact absurd h hm
    | returning => simp [stepG, unwind, h, hd, Sem.runT_eq, run_takeDeferred hb]
    | panicking ch => simp [stepG, unwind, h, hd, Sem.runT_eq, run_takeDeferred hb])
theorem st_range {f : Operand} {ps : Array Tmp} {as bd : Code} {g : FuncId} {first cap : Array Value} (hb : b.round = none) (hf : a.eval f = .func (.func g) first cap) (hc : Callable P g) :
    step P (lone (b.fr a (.code (.rangeFunc f ps as bd) :: k)) cs w) =
      .next (lone (Frame.enter P g ((first ++ #[.func (.yield (w.heap.size + 1)) #[] #[]]) ++ cap) .normal)
        (b.fr { a with defers := { target := .collected w.heap.size, args := #[] } :: a.defers } (.inRangeFunc (w.heap.size + 1) :: k) :: cs)
        ((w.alloc (.deferred (some []))).alloc (.loop { state := .ready, pending := none, fn := b.fn, tmps := a.tmps, params := ps, assign := as, body := bd, defers := w.heap.size }))) := by
  refine step_lone_go ?_
  have hcf := callFunc_run hc ((first ++ #[.func (.yield (w.heap.size + 1)) #[] #[]]) ++ cap) ((w.alloc (.deferred (some []))).alloc (.loop { state := .ready, pending := none, fn := b.fn, tmps := a.tmps, params := ps, assign := as, body := bd, defers := w.heap.size }))
  have he : ∀ todo ds, ({ fn := b.fn, tmps := a.tmps, todo := todo, defers := ds, mode := .run, kind := b.kind, roundOf := none } : Frame).eval f = .func (.func g) first cap := by
    intro todo ds
    rw [← hf]
    cases f <;> rfl
  have hc2 : ∀ todo ds t, ({ fn := b.fn, tmps := a.tmps, todo := todo, defers := ds, mode := .run, kind := b.kind, roundOf := none } : Frame).eval (.const t) = t := fun _ _ _ => rfl
  simp only [stepG, stepG.exec, Fb.fr, hb, Sem.runT_eq, run_enterLoop_outer]
  simp only [stepG.apply, List.cons_append, List.nil_append]
  have hrun : ∀ todo ds, (resolve ({ fn := b.fn, tmps := a.tmps, todo := todo, defers := ds, mode := .run, kind := b.kind, roundOf := none } : Frame).eval { callee := .value f, args := #[.const (.func (.yield (w.heap.size + 1)) #[] #[])], argTypes := #[] } 0 >>= fun d => invoke d.target d.args : Sem Next).run P ((w.alloc (.deferred (some []))).alloc (.loop { state := .ready, pending := none, fn := b.fn, tmps := a.tmps, params := ps, assign := as, body := bd, defers := w.heap.size })) =
      .ok (.enter g ((first ++ #[.func (.yield (w.heap.size + 1)) #[] #[]]) ++ cap)) ((w.alloc (.deferred (some []))).alloc (.loop { state := .ready, pending := none, fn := b.fn, tmps := a.tmps, params := ps, assign := as, body := bd, defers := w.heap.size })) := by
    intro todo ds
    have hres : ∀ w', (resolve ({ fn := b.fn, tmps := a.tmps, todo := todo, defers := ds, mode := .run, kind := b.kind, roundOf := none } : Frame).eval { callee := .value f, args := #[.const (.func (.yield (w.heap.size + 1)) #[] #[])], argTypes := #[] } 0).run P w' = .ok { target := .fn (.func g) cap, args := first ++ #[.func (.yield (w.heap.size + 1)) #[] #[]] } w' := by
      intro w'
      unfold resolve
      simp only [he, Deferred.ofValue, List.map_toArray, List.map_cons, List.map_nil, hc2]
      rfl
    rw [run_bindv (hres _)]
    unfold invoke
    exact hcf
  simp [Sem.runT_eq, hrun]
theorem st_endRange {l : Nat} {r : Loop} (h : w.heap[l]? = some (.loop r)) (hs : r.state ≠ .busy) :
    step P (lone (b.fr a (.endRangeFunc l :: k)) cs w) = .next (lone (b.fr a ((r.pending.map Item.code).toList ++ k)) cs (w.putObj l (.loop { r with state := .exhausted }))) :=
  step_lone_go (by simp [stepG, stepG.exec, Fb.fr, Sem.runT_eq, run_endLoop h hs])
theorem fin_range {l : Nat} (v : Value) : (b.fr a (.inRangeFunc l :: k)).finish v = b.fr a (.endRangeFunc l :: k) := by simp [Frame.finish, Fb.fr]
theorem st_beginRound {l : Nat} {r : Loop} (hb : b.round = some l) (h : w.heap[l]? = some (.loop r)) (hs : r.state = .ready) :
    step P (lone (b.fr a (.beginRound :: k)) cs w) = .next (lone (b.fr a k) cs (w.putObj l (.loop { r with state := .busy }))) :=
  step_lone_go (by simp [stepG, stepG.exec, stepG.apply, Fb.fr, hb, Sem.runT_eq, run_beginRound h hs, Result.andThen, Frame.finish])
variable {c : Frame} {l : Nat} {r : Loop}
theorem st_round_end (hb : b.round = some l) (hk : b.kind = .normal) (h : w.heap[l]? = some (.loop r)) :
    step P (lone (b.fr a []) (c :: cs) w) = .next (lone (c.finish (.bool true)) cs (w.putObj l (.loop { r with state := .ready, pending := none }))) :=
  step_lone_go (by have := run_endRound (P := P) none h; simp at this; simp [stepG, stepG.exec, Fb.fr, hb, hk, Sem.runT_eq, this, doReturn])
theorem st_round_ret (hb : b.round = some l) (hk : b.kind = .normal) (h : w.heap[l]? = some (.loop r)) :
    step P (lone (b.fr a (.code .ret :: k)) (c :: cs) w) = .next (lone (c.finish (.bool false)) cs (w.putObj l (.loop { r with state := .done, pending := some .ret }))) :=
  step_lone_go (by have := run_endRound (P := P) (some .ret) h; simp at this; simp [stepG, stepG.exec, Fb.fr, hb, hk, Sem.runT_eq, this, doReturn])
theorem st_round_exit {id : Nat} (hb : b.round = some l) (hk : b.kind = .normal) (hx : exitTo id k = none) (h : w.heap[l]? = some (.loop r)) :
    step P (lone (b.fr a (.code (.exit id) :: k)) (c :: cs) w) = .next (lone (c.finish (.bool false)) cs (w.putObj l (.loop { r with state := .done, pending := some (.exit id) }))) :=
  step_lone_go (by have := run_endRound (P := P) (some (.exit id)) h; simp at this; simp [stepG, stepG.exec, Fb.fr, hb, hk, hx, Sem.runT_eq, this, doReturn])
end moves

/-! a block given up as it is written -/
theorem wrote_drop {K : Ctx} {H : Heap} (hr : Rel K H) {w' : World} {id : Nat} (hid : H id ≠ none) (hw : Wrote K.w w' (K.base id)) : Rel (K.at_ w') (upd H id none) ∧ Step K H (K.at_ w') (upd H id none) := by
  have hE := wrote_ext hr hid hw
  have hold : ∀ j, upd H id none j ≠ none → j ≠ id ∧ H j ≠ none := fun j h => by
    by_cases e : j = id
    · subst e; rw [upd_same] at h; exact absurd rfl h
    · rw [upd_ne _ _ e] at h; exact ⟨e, h⟩
  refine ⟨⟨fun j h => hr.lt j (hold j h).2, fun j h => hr.nro j (hold j h).2, fun j b h => ?_, fun i j hi hj e => hr.inj i j (hold i hi).2 (hold j hj).2 e, fun b h => ?_⟩, ⟨Nat.le_refl _, fun _ _ => ⟨rfl, rfl, rfl⟩, fun _ h => h, ?_, fun b _ hn => hw.same b (fun e => hn ⟨id, hid, e.symm⟩), ?_, fun _ h => .inl h, hw.os, hw.tape, hw.output⟩⟩
  · have hj := hold j (by rw [h]; simp)
    rw [upd_ne _ _ hj.1] at h
    exact (hr.br j b h).mono hE (hr.lt j hj.2) (hw.same _ (fun e' => hj.1 (hr.inj j id hj.2 hid e')))
  · show b < w'.heap.size; rw [hw.size]; exact hr.ros b h
  · show _ ≤ w'.heap.size; rw [hw.size]; exact Nat.le_refl _
  · rintro b ⟨j, hj, rfl⟩
    exact .inl ⟨j, (hold j hj).2, rfl⟩
theorem wrote_put (w : World) (l : Nat) (o : Obj) : Wrote w (w.putObj l o) l :=
  ⟨by simp, fun b hb => World.putObj_heap_other hb, rfl, rfl, rfl⟩

/-! marks -/
def Marks : Heap → List Nat → Prop
  | _, [] => True
  | H, id :: r => H id = some .deferred ∧ Marks (upd H id none) r
def killAll : Heap → List Nat → Heap
  | H, [] => H
  | H, id :: r => killAll (upd H id none) r
theorem unwinds {P : Program} {cs : List Frame} (dt : List Deferred) : ∀ (df : List Nat) (K : Ctx) (H : Heap) (fr : Frame) (ds0 : List Deferred), fr.mode ≠ .run → Rel K H → fr.defers = ds0 ++ dt → DR K H df ds0 → Marks H df →
    ∃ w', Steps P (lone fr cs K.w) (lone { fr with defers := dt } cs w') ∧ Rel (K.at_ w') (killAll H df) ∧ Step K H (K.at_ w') (killAll H df)
  | [], K, H, fr, ds0, hm, hr, hd, hdr, _ => ⟨K.w, by have h0 : ds0 = [] := hdr; subst h0; cases fr; simp only [List.nil_append] at hd; subst hd; exact .refl _ _, hr, .refl _ _⟩
  | id :: df, K, H, fr, ds0, hm, hr, hd, ⟨ds, hd0, hlt, hds⟩, ⟨hid, hmk⟩ => by
    have hb : K.w.heap[K.base id]? = some (.deferred (some [])) := hr.br id _ hid
    have hne : H id ≠ none := by rw [hid]; simp
    have hw := wrote_put K.w (K.base id) (.deferred none)
    obtain ⟨k1, k2⟩ := wrote_drop hr hne hw
    have hE := wrote_ext hr hne hw
    subst hd0
    obtain ⟨w', h1, h2, h3⟩ := unwinds dt df (K.at_ (K.w.putObj (K.base id) (.deferred none))) (upd H id none) { fr with defers := ds ++ dt } ds hm k1 rfl (hds.mono hE) hmk
    exact ⟨w', .head (st_collected hm hd hb) h1, h2, k2.trans h3⟩
def DoneD (P : Program) (fn : Func) (Q : AR → Heap → Nat → Prop) : AEx → St → Prop
  | .normal, σ | .ret, σ => Marks σ.h σ.df ∧ ∃ x, ResV P fn.ntmps fn ⟨σ.tm, killAll σ.h σ.df, σ.n, []⟩ x ∧ Q (.ret x) (killAll σ.h σ.df) σ.n
  | _, _ => False
theorem enter_ok {P : Program} {f : FuncId} {fn : Func} {c : Code} {args : List AV} {K : Ctx} {vs : Array Value} (hf : P.funcs[f]? = some fn) (hb : fn.body = some c) (hN : args.length ≤ fn.ntmps) (hvs : VRs K args vs.toList) :
    ∃ a : Act, a.defers = [] ∧ Frame.enter P f vs .normal = (⟨f, .normal, none, []⟩ : Fb).fr a [.code c] ∧ TR K fn.ntmps (args0 args) a.tmps := by
  have hz : vs.size = args.length := by simpa using hvs.1
  refine ⟨{ tmps := vs ++ Array.replicate (fn.ntmps - vs.size) undef, defers := [] }, rfl, by simp [Frame.enter, Fb.fr, hf, hb], by simp; omega, fun t => ?_⟩
  simp only [args0, Array.getD_eq_getD_getElem?, Array.getElem?_append, Array.getElem?_replicate]
  by_cases ht : t < vs.size
  · simp only [ht, if_true]
    have hx : args[t]? = some (args[t]'(by omega)) := List.getElem?_eq_getElem (by omega)
    have hv : vs.toList[t]? = some vs[t] := by simp [ht]
    have := hvs.2 t _ _ hx hv
    simpa [hx, ht] using this
  · simp only [ht, if_false]
    have hx : args[t]? = none := List.getElem?_eq_none (by omega)
    have h2 : (if t - vs.size < fn.ntmps - vs.size then some undef else none : Option Value).getD undef = undef := by split <;> rfl
    rw [h2]
    simp [hx]
    exact VR.undef_ K
theorem ac_of_wd {P : Program} {f : FuncId} {fn : Func} {c : Code} {args : List AV} {H : Heap} {n : Nat} {Q : AR → Heap → Nat → Prop}
    (hf : P.funcs[f]? = some fn) (hb : fn.body = some c) (hN : args.length ≤ fn.ntmps) (h : W P Plain fn.ntmps n c (DoneD P fn Q) ⟨args0 args, H, n, []⟩) : AC P f args H n Q := by
  intro K vs hn hrel hvs cs
  obtain ⟨a, had, henter, htr⟩ := enter_ok hf hb hN hvs
  have hs : SR K fn.ntmps ⟨args0 args, H, n, []⟩ a := ⟨hn, hrel, htr, had⟩
  obtain ⟨e, a', w', ⟨K', σ', e', hw, hs', hst, he, hq⟩, harr⟩ := h K a (Nat.le_of_eq hn.symm) hs ⟨f, .normal, none, []⟩ rfl [] cs
  have hst : Step K H K' σ'.h := (hn ▸ hst : StM K.next K H K' σ'.h).step
  subst hw
  rw [← henter] at harr
  have key : ∀ k1, Marks σ'.h σ'.df → (∃ x, ResV P fn.ntmps fn ⟨σ'.tm, killAll σ'.h σ'.df, σ'.n, []⟩ x ∧ Q (.ret x) (killAll σ'.h σ'.df) σ'.n) → Steps P (lone (Frame.enter P f vs .normal) cs K.w) (lone { (⟨f, .normal, none, []⟩ : Fb).fr a' k1 with mode := .returning } cs K'.w) →
      ∃ e w' fr, (∃ K' H' r, K'.w = w' ∧ Rel K' H' ∧ Step K H K' H' ∧ RR K' r e ∧ Q r H' K'.next) ∧ Comes P (lone (Frame.enter P f vs .normal) cs K.w) (lone fr cs w') e ∧ fr.fn = f ∧ fr.leaving P w' e := by
    intro k1 hmk ⟨x, hx, hQ⟩ hsteps
    obtain ⟨w2, h1, h2, h3⟩ := unwinds (P := P) (cs := cs) [] σ'.df K' σ'.h { (⟨f, .normal, none, []⟩ : Fb).fr a' k1 with mode := .returning } a'.defers (fun h => by cases h) hs'.rel rfl hs'.dr hmk
    have hE := h3.ext hs'.rel
    have hs2 : SR (K'.at_ w2) fn.ntmps ⟨σ'.tm, killAll σ'.h σ'.df, σ'.n, []⟩ { a' with defers := [] } := ⟨hs'.next, h2, hs'.tr.mono hE, rfl⟩
    obtain ⟨v, hr, hv⟩ := hx _ _ hs2
    exact ⟨.returned v, w2, _, ⟨K'.at_ w2, _, .ret x, rfl, h2, hst.trans h3, .ret hv, by have : (K'.at_ w2).next = σ'.n := hs'.next; rw [this]; exact hQ⟩, Steps.trans hsteps h1, rfl, rfl, rfl, rfl, fn, hf, hr⟩
  cases he with
  | normal => exact key [] hq.1 hq.2 (Steps.trans harr (.one (st_end rfl)))
  | ret => obtain ⟨k1, harr⟩ := harr; exact key _ hq.1 hq.2 (Steps.trans harr (.one (st_ret rfl)))
  | panic => exact hq.elim
  | exit i => exact hq.elim
  | goto i => exact hq.elim
end Go.Lg
