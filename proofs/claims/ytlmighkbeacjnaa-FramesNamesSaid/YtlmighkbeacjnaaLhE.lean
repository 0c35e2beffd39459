/- Evaluator: functions that end by marks or by a panic; rounds; a panic's rule. -/
import Derived.Test.YtlmighkbeacjnaaLhD
set_option linter.unusedVariables false
set_option linter.unusedSimpArgs false
set_option linter.unusedSectionVars false
namespace Go.Lg
open Go
/-- A function's end. -/
def DoneX (P : Program) (fn : Func) (Q : AR → Heap → Nat → Prop) : AEx → St → Prop
  | .normal, σ | .ret, σ => Marks σ.h σ.df ∧ ∃ x, ResV P fn.ntmps fn ⟨σ.tm, killAll σ.h σ.df, σ.n, []⟩ x ∧ Q (.ret x) (killAll σ.h σ.df) σ.n
  | .panic x, σ => Marks σ.h σ.df ∧ Q (.panic x) (killAll σ.h σ.df) σ.n
  | _, _ => False
theorem ac_of_wdp {P : Program} {f : FuncId} {fn : Func} {c : Code} {args : List AV} {H : Heap} {n : Nat} {Q : AR → Heap → Nat → Prop}
    (hf : P.funcs[f]? = some fn) (hb : fn.body = some c) (hN : args.length ≤ fn.ntmps) (h : W P Plain fn.ntmps n c (DoneX P fn Q) ⟨args0 args, H, n, []⟩) : AC P f args H n Q := by
  intro K vs hn hrel hvs cs
  obtain ⟨a, had, henter, htr⟩ := enter_ok hf hb hN hvs
  have hs : SR K fn.ntmps ⟨args0 args, H, n, []⟩ a := ⟨hn, hrel, htr, had⟩
  obtain ⟨e, a', w', ⟨K', σ', e', hw, hs', hst, he, hq⟩, harr⟩ := h K a (Nat.le_of_eq hn.symm) hs ⟨f, .normal, none, []⟩ rfl [] cs
  have hst : Step K H K' σ'.h := (hn ▸ hst : StM K.next K H K' σ'.h).step
  subst hw
  rw [← henter] at harr
  have key : ∀ k1, Marks σ'.h σ'.df → (∃ x, ResV P fn.ntmps fn ⟨σ'.tm, killAll σ'.h σ'.df, σ'.n, []⟩ x ∧ Q (.ret x) (killAll σ'.h σ'.df) σ'.n) → Steps P (lone (Frame.enter P f vs .normal) cs K.w) (lone { (⟨f, .normal, none, []⟩ : Fb).fr a' k1 with mode := .returning } cs K'.w) →
      ∃ e w' fr, (∃ K' H' r, K'.w = w' ∧ Rel K' H' ∧ Step K H K' H' ∧ RR K' r e ∧ Q r H' K'.next) ∧ Comes P (lone (Frame.enter P f vs .normal) cs K.w) (lone fr cs w') e ∧ fr.fn = f ∧ fr.leaving P w' e := by
    intro k1 hmk ⟨x, hx, hQ⟩ hsteps
    obtain ⟨w2, h1, h2, h3⟩ := unwinds (P := P) (cs := cs) [] σ'.df K' σ'.h { (⟨f, .normal, none, []⟩ : Fb).fr a' k1 with mode := .returning } a'.defers (fun h => by cases h) hs'.rel rfl hs'.dr hmk
    have hE := h3.ext hs'.rel
    have hs2 : SR (K'.at_ w2) fn.ntmps ⟨σ'.tm, killAll σ'.h σ'.df, σ'.n, []⟩ { a' with defers := [] } := ⟨hs'.next, h2, hs'.tr.mono hE, rfl⟩
    obtain ⟨v, hr, hv⟩ := hx _ _ hs2
    exact ⟨.returned v, w2, _, ⟨K'.at_ w2, _, .ret x, rfl, h2, hst.trans h3, .ret hv, by have : (K'.at_ w2).next = σ'.n := hs'.next; rw [this]; exact hQ⟩, Steps.trans hsteps h1, rfl, rfl, rfl, rfl, fn, hf, hr⟩
  cases he with
  | normal => exact key [] hq.1 hq.2 (Steps.trans harr (.one (st_end rfl)))
  | ret => obtain ⟨k1, harr⟩ := harr; exact key _ hq.1 hq.2 (Steps.trans harr (.one (st_ret rfl)))
  | @panic x v hv =>
    obtain ⟨todo, _, hst2⟩ := harr
    obtain ⟨w2, h1, h2, h3⟩ := unwinds (P := P) (cs := cs) [] σ'.df K' σ'.h { (⟨f, .normal, none, []⟩ : Fb).fr a' todo with mode := .panicking [{ v, recovered := false }] } a'.defers (fun h => by cases h) hs'.rel rfl hs'.dr hq.1
    have hE := h3.ext hs'.rel
    exact ⟨.panicked _, w2, _, ⟨K'.at_ w2, _, .panic x, rfl, h2, hst.trans h3, .panic (hv.mono hE), by have : (K'.at_ w2).next = σ'.n := hs'.next; rw [this]; exact hq.2⟩, Steps.trans hst2 h1, rfl, rfl, rfl, fn, hf⟩
  | exit i => exact hq.elim
  | goto i => exact hq.elim
/-- How a round ends, whatever the loop's block is by then. -/
def RQX (id : Nat) (R : AR → Heap → Nat → Prop) (e : AEx) (σ : St) : Prop :=
  σ.df = [] ∧ match e with
    | .panic x => R (.panic x) σ.h σ.n
    | e => ∃ lb, σ.h id = some (.loop lb) ∧ match e with
      | .normal => R (.ret (.bool true)) (upd σ.h id (some (.loop (lb.st .ready none)))) σ.n
      | .ret => R (.ret (.bool false)) (upd σ.h id (some (.loop (lb.st .done (some .ret))))) σ.n
      | .exit i => R (.ret (.bool false)) (upd σ.h id (some (.loop (lb.st .done (some (.exit i)))))) σ.n
      | _ => False
/-- What a call of a loop's yield comes to; a panic in its round is one of its ends. -/
def YX (P : Program) (id : Nat) (args : List AV) (H : Heap) (n : Nat) (R : AR → Heap → Nat → Prop) : Prop :=
  ∀ K vs, K.next = n → Rel K H → VRs K args vs.toList → ∃ f tmps as bd, (Instr.yield (K.base id) vs).run P K.w = .ok (.round (K.base id) f tmps as bd) K.w ∧
    ∀ c cs, ∃ r K' H', Rel K' H' ∧ Step K H K' H' ∧ R r H' K'.next ∧ match r with
      | .ret x => ∃ b, x = .bool b ∧ Steps P (lone (Frame.round (K.base id) f tmps as bd .normal) (c :: cs) K.w) (lone (c.finish (.bool b)) cs K'.w)
      | .panic x => ∃ v, VR K' x v ∧ Steps P (lone (Frame.round (K.base id) f tmps as bd .normal) (c :: cs) K.w) (lone (c.raise [{ v, recovered := false }]) cs K'.w)
theorem st_panicked {P : Program} {b : Fb} {a : Act} {todo : List Item} {c : Frame} {cs : List Frame} {w : World} {v : Value} (hn : noCall todo = true) (hd : a.defers ++ b.dt = []) :
    step P (lone { b.fr a todo with mode := .panicking [{ v, recovered := false }] } (c :: cs) w) = .next (lone (c.raise [{ v, recovered := false }]) cs w) := by
  have hc : ∀ fr : Frame, fr.todo = todo → Frame.catches P fr = false := fun fr h => by
    unfold Frame.catches
    split
    · rename_i h2; rw [h] at h2; rw [h2] at hn; cases hn
    · rfl
  refine step_lone_go ?_
  simp only [stepG, unwind]
  have hd' : (b.fr a todo).defers = [] := hd
  simp only [hd']
  rw [hc _ rfl]
  rfl
theorem yx_of_w {P : Program} {id : Nat} {args : List AV} {H : Heap} {n : Nat} {R : AR → Heap → Nat → Prop} {lb : LoopB} (hH : H id = some (.loop lb)) (hs : lb.state = .ready) (ha : args.length = lb.params.size) (hp : ∀ t, t ∈ lb.params.toList → t < lb.N)
    (h : W P Round lb.N n lb.assign (fun e σ => e = .normal ∧ σ.df = [] ∧ ∃ lb1, σ.h id = some (.loop lb1) ∧ lb1.state = .ready ∧ W P Round lb.N n lb.body (RQX id R) ⟨σ.tm, upd σ.h id (some (.loop (lb1.st .busy lb1.pending))), σ.n, []⟩) ⟨setPs lb.tm (lb.params.toList.zip args), H, n, []⟩) : YX P id args H n R := by
  intro K vs hn hr hvs
  subst hn
  obtain ⟨r, g1, g2, g3, g4, g5, g6, g7, _⟩ := loop_put hr hH
  have hvl : vs.size = r.params.size := by rw [g4, ← ha]; simpa using hvs.1
  refine ⟨r.fn, _, r.assign, r.body, run_yield g1 hvl, fun c cs => ?_⟩
  let b : Fb := ⟨r.fn, .normal, some (K.base id), []⟩
  let a : Act := ⟨(r.params.zip vs).foldl (fun tmps (x : Tmp × Value) => tmps.setIfInBounds x.1 x.2) r.tmps, []⟩
  have htr : TR K lb.N (setPs lb.tm (lb.params.toList.zip args)) a.tmps := by
    have hz : (r.params.zip vs).toList = lb.params.toList.zip vs.toList := by rw [← g4]; simp
    have := TR.setPs (lb.params.toList.zip args) (lb.params.toList.zip vs.toList) _ _ g7 (by
      rw [List.map_fst_zip (by simp [ha]), List.map_fst_zip (by rw [hvs.1, ha]; simp)]) (by
      rw [List.map_snd_zip (by rw [ha]; simp), List.map_snd_zip (by rw [hvs.1, ha]; simp)]; exact hvs) (fun p hp' => hp _ (List.of_mem_zip (a := p.1) (b := p.2) hp').1)
    show TR K lb.N _ ((r.params.zip vs).foldl _ r.tmps)
    rw [← Array.foldl_toList, hz]
    exact this
  have hsr : SR K lb.N ⟨setPs lb.tm (lb.params.toList.zip args), H, K.next, []⟩ a := ⟨rfl, hr, htr, rfl⟩
  obtain ⟨e, a1, w1, ⟨K1, σ1, e1, rfl, hs1, hst1, he1, rfl, hd1, lb1, hl1, hs1', hbody⟩, harr⟩ := h K a (Nat.le_refl _) hsr b ⟨rfl, _, rfl⟩ [.beginRound, .code r.body] (c :: cs)
  rw [g5] at *
  cases he1
  have hbase1 : K1.base id = K.base id := (hst1.mu id (hr.lt id (by rw [hH]; simp))).1
  obtain ⟨r1, k1, k2, k3, k4, k5, k6, k7, k8⟩ := loop_put hs1.rel hl1
  have hbegin : step P (lone (b.fr a1 [.beginRound, .code r.body]) (c :: cs) K1.w) = .next (lone (b.fr a1 [.code r.body]) (c :: cs) (K1.w.putObj (K1.base id) (.loop { r1 with state := .busy }))) := by
    have := st_beginRound (P := P) (b := b) (a := a1) (k := [.code r.body]) (cs := c :: cs) (w := K1.w) (l := K.base id) (r := r1) rfl (by rw [← hbase1]; exact k1) (k2.trans hs1')
    rw [hbase1]; exact this
  obtain ⟨q1, q2, q3⟩ := k8 .busy lb1.pending
  have hpend : ({ r1 with state := .busy, pending := lb1.pending } : Loop) = { r1 with state := .busy } := by rw [← k3]
  rw [hpend] at q1 q2 q3
  have hdef : a1.defers = [] := by have := hs1.dr; rw [hd1] at this; exact this
  have hsr2 : SR (K1.at_ (K1.w.putObj (K1.base id) (.loop { r1 with state := .busy }))) lb.N ⟨σ1.tm, upd σ1.h id (some (.loop (lb1.st .busy lb1.pending))), σ1.n, []⟩ a1 := ⟨hs1.next, q1, hs1.tr.mono q3, hdef⟩
  obtain ⟨e2, a2, w2, ⟨K2, σ2, e2', rfl, hs2, hst2, he2, hd2, hR⟩, harr2⟩ := hbody (K1.at_ (K1.w.putObj (K1.base id) (.loop { r1 with state := .busy }))) a1 hst1.next' hsr2 b ⟨rfl, _, rfl⟩ [] (c :: cs)
  have hK12 : StM K.next K H K2 σ2.h := (hst1.trans (q2.stm hst1.next')).trans hst2
  have hbase2 : K2.base id = K.base id := (hK12.mu id (hr.lt id (by rw [hH]; simp))).1
  have hpre : Steps P (lone (Frame.round (K.base id) r.fn a.tmps lb.assign r.body .normal) (c :: cs) K.w) (lone (b.fr a1 [.code r.body]) (c :: cs) (K1.w.putObj (K1.base id) (.loop { r1 with state := .busy }))) :=
    Steps.trans (show Steps P (lone (b.fr a [.code lb.assign, .beginRound, .code r.body]) (c :: cs) K.w) _ from harr) (.one hbegin)
  have fin : ∀ (lb2 : LoopB) (hl2 : σ2.h id = some (.loop lb2)) (r2 : Loop), K2.w.heap[K2.base id]? = some (.loop r2) → ∀ (bb : Bool) (s : LoopState) (p : Option Code),
      (Rel (K2.at_ (K2.w.putObj (K2.base id) (.loop { r2 with state := s, pending := p }))) (upd σ2.h id (some (.loop (lb2.st s p)))) ∧ Step K2 σ2.h (K2.at_ (K2.w.putObj (K2.base id) (.loop { r2 with state := s, pending := p }))) (upd σ2.h id (some (.loop (lb2.st s p))))) →
      R (.ret (.bool bb)) (upd σ2.h id (some (.loop (lb2.st s p)))) σ2.n → Steps P (lone (b.fr a1 [.code r.body]) (c :: cs) (K1.w.putObj (K1.base id) (.loop { r1 with state := .busy }))) (lone (c.finish (.bool bb)) cs (K2.w.putObj (K.base id) (.loop { r2 with state := s, pending := p }))) →
      ∃ r' K' H', Rel K' H' ∧ Step K H K' H' ∧ R r' H' K'.next ∧ match r' with
        | .ret x => ∃ b, x = .bool b ∧ Steps P (lone (Frame.round (K.base id) r.fn a.tmps lb.assign r.body .normal) (c :: cs) K.w) (lone (c.finish (.bool b)) cs K'.w)
        | .panic x => ∃ v, VR K' x v ∧ Steps P (lone (Frame.round (K.base id) r.fn a.tmps lb.assign r.body .normal) (c :: cs) K.w) (lone (c.raise [{ v, recovered := false }]) cs K'.w) := by
    rintro lb2 hl2 r2 _ bb s p ⟨z1, z2⟩ hRb hsteps
    refine ⟨.ret (.bool bb), _, _, z1, (hK12.trans (z2.stm hK12.next')).step, ?_, bb, rfl, hpre.trans ?_⟩
    · have hn2 : K2.next = σ2.n := hs2.next
      show R _ _ K2.next
      rw [hn2]; exact hRb
    · rw [← hbase2] at hsteps; exact hsteps
  rw [g6] at *
  cases he2 with
  | normal =>
    obtain ⟨lb2, hl2, hR⟩ := hR
    obtain ⟨r2, p1, p2, p3, p4, p5, p6, p7, p8⟩ := loop_put hs2.rel hl2
    have p1' : K2.w.heap[K.base id]? = some (.loop r2) := by rw [← hbase2]; exact p1
    exact fin lb2 hl2 r2 p1 true _ _ ⟨(p8 _ _).1, (p8 _ _).2.1⟩ hR (Steps.trans harr2 (.one (st_round_end (b := b) rfl rfl p1')))
  | ret =>
    obtain ⟨lb2, hl2, hR⟩ := hR
    obtain ⟨r2, p1, p2, p3, p4, p5, p6, p7, p8⟩ := loop_put hs2.rel hl2
    have p1' : K2.w.heap[K.base id]? = some (.loop r2) := by rw [← hbase2]; exact p1
    obtain ⟨k', harr2⟩ := harr2
    exact fin lb2 hl2 r2 p1 false _ _ ⟨(p8 _ _).1, (p8 _ _).2.1⟩ hR (Steps.trans harr2 (.one (st_round_ret (b := b) rfl rfl p1')))
  | exit i =>
    obtain ⟨lb2, hl2, hR⟩ := hR
    obtain ⟨r2, p1, p2, p3, p4, p5, p6, p7, p8⟩ := loop_put hs2.rel hl2
    have p1' : K2.w.heap[K.base id]? = some (.loop r2) := by rw [← hbase2]; exact p1
    obtain ⟨k', hx, harr2⟩ := harr2
    exact fin lb2 hl2 r2 p1 false _ _ ⟨(p8 _ _).1, (p8 _ _).2.1⟩ hR (Steps.trans harr2 (.one (st_round_exit (b := b) rfl rfl (by rw [hx]; rfl) p1')))
  | goto i => obtain ⟨lb2, hl2, hR⟩ := hR; exact hR.elim
  | @panic x v hv =>
    obtain ⟨todo, hnc, harr2⟩ := harr2
    have hdef2 : a2.defers = [] := by have := hs2.dr; rw [hd2] at this; exact this
    refine ⟨.panic x, K2, σ2.h, hs2.rel, hK12.step, ?_, v, hv, hpre.trans (Steps.trans harr2 (.one (st_panicked (b := b) hnc (by rw [hdef2]; rfl))))⟩
    have hn2 : K2.next = σ2.n := hs2.next
    rw [hn2]; exact hR
theorem mo_yieldX {P : Program} {B : Fb → Prop} {ops : Array Oper} {l : List Nat} {i : Nat} {o : Oper} {Q : Ex → Act → World → Prop} {a : Act} {w : World} {lp : Nat} {f : FuncId} {tmps : Array Value} {as bd : Code}
    (ho : ops[i]? = some o) (hw : Region.wanted o (yielded ops a.tmps) = true) (hd : ∀ c, o.op ≠ .defer c) (hr : (execOp a.eval o).run P w = .ok (.round lp f tmps as bd) w)
    (h : ∀ c cs, (∃ bb w2, Steps P (lone (Frame.round lp f tmps as bd .normal) (c :: cs) w) (lone (c.finish (.bool bb)) cs w2) ∧ MO P B ops l Q (a.put o.dst (.bool bb)) w2) ∨
      (∃ v w2, Steps P (lone (Frame.round lp f tmps as bd .normal) (c :: cs) w) (lone (c.raise [{ v, recovered := false }]) cs w2) ∧ Q (.panic v) a w2)) : MO P B ops (i :: l) Q a w := by
  intro b hb k cs
  have hg := stG_op (P := P) (b := b) (k := k) (cs := cs) (w := w) (rest := l) ho hw (.inr hd)
  have henter : step P (lone (b.fr a (.inRegion ops (i :: l) :: k)) cs w) = .next (lone (Frame.round lp f tmps as bd .normal) (b.fr a (.inRegion ops (i :: l) :: k) :: cs) w) :=
    step_lone_go (by rw [hg]; simp [stepG.apply, hr, Fb.fr])
  rcases h (b.fr a (.inRegion ops (i :: l) :: k)) cs with ⟨bb, w2, hsteps, hm⟩ | ⟨v, w2, hsteps, hq⟩
  · obtain ⟨e, a', w3, hq, harr⟩ := hm b hb k cs
    rw [fin_fr ho] at hsteps
    exact ⟨e, a', w3, hq, .of_steps (.head henter hsteps) harr⟩
  · exact ⟨.panic v, a, w2, hq, .inRegion ops (i :: l) :: k, rfl, .head henter hsteps⟩
theorem wl_yieldX {P : Program} {B : Fb → Prop} {N m : Nat} {all rest : List Oper} {Q : AEx → St → Prop} {o : Oper} {σ : St} {fo : Operand} {args : Array Operand} {ats : Array TypeId} {id : Nat} {xs : List AV} {R : AR → Heap → Nat → Prop} (hop : o.op = .call { callee := .value fo, args := args, argTypes := ats })
    (hf : evo σ.tm fo = some (.yieldf id)) (hx : evs σ.tm args.toList = some xs) (hy : YX P id xs σ.h σ.n R) (hu : unguarded all o σ.tm true) (hd : ∀ t, o.dst = some t → t < N)
    (h : ∀ r h' n', R r h' n' → match r with
      | .ret x => WL P B N m all rest Q ⟨putT σ.tm o.dst x, h', n', σ.df⟩
      | .panic x => Q (.panic x) ⟨σ.tm, h', n', σ.df⟩) : WL P B N m all (o :: rest) Q σ := by
  intro pre hpre K a hm hs
  rw [range'_cons]
  have hxs := evs_sound hs.tr hx
  obtain ⟨f, tmps, as, bd, hrun, hround⟩ := hy K (args.map a.eval) hs.next hs.rel (by simpa using hxs)
  refine mo_yieldX (at_pre hpre) (wanted_of hs.tr hu) (fun c h => by rw [hop] at h; cases h) ((run_yieldop hop hs.tr hf).trans hrun) fun c cs => ?_
  obtain ⟨r, K', H', h1, h2, h3, h4⟩ := hround c cs
  have hE := h2.ext hs.rel
  have hk := h r H' K'.next h3
  cases r with
  | ret x =>
    obtain ⟨b, rfl, h4⟩ := h4
    refine .inl ⟨b, K'.w, h4, ?_⟩
    have hs' : SR K' N ⟨putT σ.tm o.dst (.bool b), H', K'.next, σ.df⟩ (a.put o.dst (.bool b)) := ⟨rfl, h1, (hs.tr.mono hE).put hd (.bool b), by rw [put_defers]; exact hs.dr.mono hE⟩
    exact (hk (pre ++ [_]) (by simp [hpre]) K' _ (Nat.le_trans hm h2.next) hs').mono fun _ _ _ hq => hq.step (h2.stm hm)
  | panic x =>
    obtain ⟨v, hv, h4⟩ := h4
    exact .inr ⟨v, K'.w, h4, K', ⟨σ.tm, H', K'.next, σ.df⟩, .panic x, rfl, ⟨rfl, h1, hs.tr.mono hE, hs.dr.mono hE⟩, h2.stm hm, .panic hv, hk⟩
/-- A panic with a value. -/
theorem wl_panic {P : Program} {B : Fb → Prop} {N m : Nat} {all rest : List Oper} {o : Oper} {Q : AEx → St → Prop} {σ : St} {x : Operand} {t : TypeId} {y : AV} (hop : o.op = .panic x) (hu : unguarded all o σ.tm true) (hx : evo σ.tm x = some (.iface t y)) (hq : Q (.panic (.iface t y)) σ) : WL P B N m all (o :: rest) Q σ := by
  intro pre hp K a hm hs
  rw [range'_cons]
  have hv := evo_sound hs.tr hx
  generalize hh : a.eval x = v at hv
  cases hv with
  | @iface _ _ u hu2 =>
    refine mo_panic (v := .iface t u) (w' := K.w) (at_pre hp) (wanted_of hs.tr hu) (fun c h => by rw [hop] at h; cases h) ?_ ⟨K, σ, _, rfl, hs, .refl hm _, .panic (.iface hu2), hq⟩
    unfold execOp; rw [hop]
    simp only [hh]
    rfl
/-- The loop, with a panic in it. -/
theorem w_rangeX {P : Program} {N m : Nat} {Q : AEx → St → Prop} {tm : Nat → AV} {hp : Heap} {n : Nat} {df : List Nat} {f : Operand} {ps : Array Tmp} {as bd : Code} {g : FuncId} {first cap : List AV} {R : AR → Heap → Nat → Prop} (hf : evo tm f = some (.func (.func g) first cap)) (hc : Callable P g)
    (hac : AC P g (first ++ [.yieldf (n + 1)] ++ cap) (upd (upd hp n (some .deferred)) (n + 1) (some (.loop ⟨tm, N, ps, as, bd, .ready, none⟩))) (n + 2) R)
    (h : ∀ r h' n', R r h' n' → (∃ x lb', r = .ret x ∧ h' (n + 1) = some (.loop lb') ∧ lb'.state ≠ .busy ∧
      match lb'.pending with
      | none => Q .normal ⟨tm, upd h' (n + 1) none, n', n :: df⟩
      | some c => W P Plain N m c Q ⟨tm, upd h' (n + 1) none, n', n :: df⟩) ∨ (∃ x, r = .panic x ∧ Q (.panic x) ⟨tm, h', n', n :: df⟩)) : W P Plain N m (.rangeFunc f ps as bd) Q ⟨tm, hp, n, df⟩ := by
  intro K a hm hs b hb k cs
  have hn : K.next = n := hs.next
  subst hn
  have hv := evo_sound hs.tr hf
  generalize hh : a.eval f = v at hv
  cases hv
  rename_i fs cp g1 g2 g3 g4 g5
  have hfs : VRs K first fs.toList := VR.agg_.1 (.agg g2 g3)
  have hcp : VRs K cap cp.toList := VR.agg_.1 (.agg g4 g5)
  let o1 : Obj := .deferred (some [])
  let K1 := K.newOwn o1 0
  have hb1 : BR K1 K.next .deferred := by
    show K1.w.heap[K1.base K.next]? = _
    have e1 : K1.base K.next = K.w.heap.size := upd_same _ _ _
    rw [e1]
    show (K.w.heap.push o1)[K.w.heap.size]? = _
    simp [o1]
  obtain ⟨q1, q2⟩ := newOwn_ok (sz := 0) hs.rel hb1
  have hE1 := newOwn_ext hs.rel o1 0
  let o2 : Obj := .loop { state := .ready, pending := none, fn := b.fn, tmps := a.tmps, params := ps, assign := as, body := bd, defers := K.w.heap.size }
  let K2 := K1.newOwn o2 0
  have hE2 := newOwn_ext q1 o2 0
  have hz1 : K1.w.heap.size = K.w.heap.size + 1 := by show (K.w.heap.push o1).size = _; simp
  have hb2 : BR K2 K1.next (.loop ⟨tm, N, ps, as, bd, .ready, none⟩) := by
    refine ⟨b.fn, a.tmps, K.w.heap.size, ?_, (hs.tr.mono hE1).mono hE2⟩
    have e1 : K2.base K1.next = K1.w.heap.size := upd_same _ _ _
    rw [e1]
    show (K1.w.heap.push o2)[K1.w.heap.size]? = _
    simp [o2]
  obtain ⟨q3, q4⟩ := newOwn_ok (sz := 0) q1 hb2
  have hbase : K2.base (K.next + 1) = K.w.heap.size + 1 := by
    have e1 : K2.base K1.next = K1.w.heap.size := upd_same _ _ _
    exact e1.trans hz1
  have hargs : VRs K2 (first ++ [.yieldf (K.next + 1)] ++ cap) (((fs ++ #[Value.func (.yield (K.w.heap.size + 1)) #[] #[]]) ++ cp).toList) := by
    have hy : VR K2 (.yieldf (K.next + 1)) (.func (.yield (K.w.heap.size + 1)) #[] #[]) := by
      rw [← hbase]; exact .yieldf (Nat.lt_succ_self _)
    simp only [Array.toList_append]
    exact (((hfs.mono hE1).mono hE2).append (.cons hy (.nil _))).append ((hcp.mono hE1).mono hE2)
  let a' : Act := { a with defers := { target := .collected K.w.heap.size, args := #[] } :: a.defers }
  obtain ⟨e, w3, fr, ⟨K3, H3, r, rfl, hrel3, hst3, hrr, hR⟩, hcomes, _, hleave⟩ := hac K2 _ rfl q3 hargs (b.fr a' (.inRangeFunc (K.w.heap.size + 1) :: k) :: cs)
  have hE3 := hst3.ext q3
  have hdr : DR K3 H3 (K.next :: df) a'.defers := by
    refine ⟨a.defers, ?_, ?_, ((hs.dr.mono (H' := hp) hE1).mono (H' := hp) hE2).mono (H' := H3) hE3⟩
    · have e1 : K3.base K.next = K2.base K.next := (hst3.mu K.next (show K.next < K2.next from Nat.lt_succ_of_lt (Nat.lt_succ_self _))).1
      have e2 : K2.base K.next = K1.base K.next := upd_ne _ _ (Nat.ne_of_lt (Nat.lt_succ_self _))
      have e3 : K1.base K.next = K.w.heap.size := upd_same _ _ _
      show a'.defers = { target := .collected (K3.base K.next), args := #[] } :: a.defers
      rw [e1, e2, e3]
    · exact Nat.lt_of_lt_of_le (show K.next < K2.next from Nat.lt_succ_of_lt (Nat.lt_succ_self _)) hst3.next
  rcases h r H3 K3.next hR with ⟨x, lb', rfl, hl3, hbusy, hq⟩ | ⟨x, rfl, hq⟩
  rotate_left
  · cases hrr with
    | @panic _ v hvx =>
      refine ⟨.panic v, a', K3.w, ⟨K3, ⟨tm, H3, K3.next, K.next :: df⟩, .panic x, rfl, ⟨rfl, hrel3, ((hs.tr.mono hE1).mono hE2).mono hE3, hdr⟩, ((q2.trans q4).trans hst3).stm hm, .panic hvx, hq⟩, .inRangeFunc (K.w.heap.size + 1) :: k, rfl, ?_⟩
      exact .head (st_range hb hh hc) (Steps.trans hcomes (.one (step_leave_panicked hleave)))
  cases hrr with
  | @ret _ v hvx =>
    obtain ⟨rr, p1, p2, p3, _, _, _, _, _⟩ := loop_put hrel3 hl3
    have hmu3 := hst3.mu (K.next + 1) (Nat.lt_succ_self _)
    have hb3 : K3.base (K.next + 1) = K.w.heap.size + 1 := hmu3.1.trans hbase
    have hne : H3 (K.next + 1) ≠ none := by rw [hl3]; simp
    have hw := wrote_put K3.w (K3.base (K.next + 1)) (.loop { rr with state := .exhausted })
    obtain ⟨d1, d2⟩ := wrote_drop hrel3 hne hw
    have hE4 := wrote_ext hrel3 hne hw
    have hsteps : Steps P (lone (b.fr a (.code (.rangeFunc f ps as bd) :: k)) cs K.w) (lone (b.fr a' ((lb'.pending.map Item.code).toList ++ k)) cs (K3.w.putObj (K3.base (K.next + 1)) (.loop { rr with state := .exhausted }))) := by
      refine .head (st_range hb hh hc) (Steps.trans hcomes (.head (step_leave_returned hleave) ?_))
      rw [fin_range]
      have := st_endRange (P := P) (b := b) (a := a') (k := k) (cs := cs) (w := K3.w) (l := K.w.heap.size + 1) (r := rr) (by rw [← hb3]; exact p1) (by rw [p2]; exact hbusy)
      rw [hb3, ← p3]
      exact .one this
    have hdr := hdr.mono (H' := upd H3 (K.next + 1) none) hE4
    have hs4 : SR (K3.at_ (K3.w.putObj (K3.base (K.next + 1)) (.loop { rr with state := .exhausted }))) N ⟨tm, upd H3 (K.next + 1) none, K3.next, K.next :: df⟩ a' := ⟨rfl, d1, (((hs.tr.mono hE1).mono hE2).mono hE3).mono hE4, hdr⟩
    have hst4 : StM m K hp (K3.at_ (K3.w.putObj (K3.base (K.next + 1)) (.loop { rr with state := .exhausted }))) (upd H3 (K.next + 1) none) := (((q2.trans q4).trans hst3).trans d2).stm hm
    cases hpe : lb'.pending with
    | none =>
      rw [hpe] at hq hsteps
      exact ⟨.normal, a', _, ⟨_, _, .normal, rfl, hs4, hst4, .normal, hq⟩, hsteps⟩
    | some c =>
      rw [hpe] at hq hsteps
      obtain ⟨e5, a5, w5, ⟨K5, σ5, e5', rfl, hs5, hst5, he5, hq5⟩, harr5⟩ := hq _ a' hst4.next' hs4 b hb k cs
      exact ⟨e5, a5, _, ⟨K5, σ5, e5', rfl, hs5, hst4.trans hst5, he5, hq5⟩, .of_steps hsteps harr5⟩
def noGoto (Q : AEx → St → Prop) : AEx → St → Prop := fun e σ => match e with
  | .goto _ => False
  | e => Q e σ
theorem w_scope {P : Program} {B : Fb → Prop} {N m : Nat} {c : Code} {Q : AEx → St → Prop} {σ : St} (h : W P B N m c (noGoto Q) σ) : W P B N m (.scope c) Q σ := by
  intro K a hm hs
  refine mw_scope (fun _ _ _ _ => False) 0 ((h K a hm hs).mono ?_) (fun _ _ _ _ _ _ h => h.elim)
  rintro e a' w' ⟨K', σ', e', h1, h2, h3, h4, h5⟩
  cases h4 with
  | goto l => exact h5.elim
  | normal => exact ⟨K', σ', _, h1, h2, h3, .normal, h5⟩
  | exit i => exact ⟨K', σ', _, h1, h2, h3, .exit i, h5⟩
  | ret => exact ⟨K', σ', _, h1, h2, h3, .ret, h5⟩
  | panic hv => exact ⟨K', σ', _, h1, h2, h3, .panic hv, h5⟩
end Go.Lg
