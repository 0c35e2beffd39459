/- Functions with one deferred call of a closure that recovers. -/
import Derived.Test.YtlmighkbeacjnaaLhE
set_option linter.unusedSimpArgs false
set_option linter.unusedSectionVars false
namespace Go.Lg
open Go
set_option linter.unusedVariables false
/-- The frame comes to its end so. -/
def EndsP (P : Program) (f : FuncId) (Q : AR → Heap → Nat → Prop) (K0 : Ctx) (H0 : Heap) (m : Machine) (cs : List Frame) : Prop :=
  ∃ e w' fr, (∃ K' H' r, K'.w = w' ∧ Rel K' H' ∧ Step K0 H0 K' H' ∧ RR K' r e ∧ Q r H' K'.next) ∧ Comes P m (lone fr cs w') e ∧ fr.fn = f ∧ fr.leaving P w' e
theorem EndsP.of_steps {P : Program} {f : FuncId} {Q : AR → Heap → Nat → Prop} {K0 : Ctx} {H0 : Heap} {m m1 : Machine} {cs : List Frame} (h : Steps P m m1) (h' : EndsP P f Q K0 H0 m1 cs) : EndsP P f Q K0 H0 m cs := by
  obtain ⟨e, w', fr, h1, h2, h3⟩ := h'
  exact ⟨e, w', fr, h1, .of_steps h h2, h3⟩
/-- A closure, run as a deferred call where its caller returns (none), or panics with a value. -/
def PVal (K : Ctx) (pv : Option AV) (m : FrameMode) : Prop := match pv with
  | none => m = .returning
  | some x => ∃ v, m = .panicking [{ v, recovered := false }] ∧ VR K x v
def DC (P : Program) (g : FuncId) (cap : List AV) (pv : Option AV) (H : Heap) (n : Nat) (R : Heap → Nat → Prop) : Prop :=
  ∀ K (caps : Array Value), K.next = n → Rel K H → VRs K cap caps.toList → ∀ (fr : Frame) cs, PVal K pv fr.mode → ∃ K' H', Rel K' H' ∧ Step K H K' H' ∧ R H' K'.next ∧
    Steps P (lone (Frame.enter P g caps .deferred) (fr :: cs) K.w) (lone { fr with mode := .returning } cs K'.w)
def pvA (pv : Option AV) : AV := match pv with
  | none => .nilIface
  | some x => x
theorem enter_okD {P : Program} {f : FuncId} {fn : Func} {c : Code} {args : List AV} {K : Ctx} {vs : Array Value} (hf : P.funcs[f]? = some fn) (hb : fn.body = some c) (hN : args.length ≤ fn.ntmps) (hvs : VRs K args vs.toList) :
    ∃ a : Act, a.defers = [] ∧ Frame.enter P f vs .deferred = (⟨f, .deferred, none, []⟩ : Fb).fr a [.code c] ∧ TR K fn.ntmps (args0 args) a.tmps := by
  obtain ⟨a, h1, h2, h3⟩ := enter_ok hf hb hN hvs
  refine ⟨a, h1, ?_, h3⟩
  have e1 : Frame.enter P f vs .deferred = { Frame.enter P f vs .normal with kind := .deferred } := rfl
  rw [e1, h2]
  rfl
/-- The recovering operation. -/
def isRec (o : Oper) (d : Tmp) : Prop := o.dst = some d ∧ o.guard = none ∧ ∃ ats, o.op = .call { callee := .builtin .recover, args := #[], argTypes := ats }
theorem rec_run {P : Program} {o : Oper} {d : Tmp} (h : isRec o d) (ρ : Operand → Value) (w : World) : (execOp ρ o).run P w = .ok .recover w := by
  obtain ⟨_, _, ats, hop⟩ := h
  unfold execOp; rw [hop]
  rfl
theorem st_recover {P : Program} {g : FuncId} {a : Act} {ops : Array Oper} {i : Nat} {l : List Nat} {k : List Item} {o : Oper} {d : Tmp} {K : Ctx} {pv : Option AV} {fr : Frame} {cs : List Frame} {w : World} (ho : ops[i]? = some o) (hr : isRec o d) (hp : PVal K pv fr.mode) :
    ∃ v fr', VR K (pvA pv) v ∧ step P (lone ((⟨g, .deferred, none, []⟩ : Fb).fr a (.inRegion ops (i :: l) :: k)) (fr :: cs) w) = .next (lone ((⟨g, .deferred, none, []⟩ : Fb).fr (a.put (some d) v) (.inRegion ops l :: k)) (fr' :: cs) w) ∧
      (fr' = fr ∧ fr.mode = .returning ∨ ∃ v', fr' = { fr with mode := .panicking [{ v := v', recovered := true }] }) := by
  have hw : Region.wanted o (yielded ops a.tmps) = true := by simp [Region.wanted, hr.2.1]
  have hg := stG_op (P := P) (b := ⟨g, .deferred, none, []⟩) (a := a) (k := k) (cs := fr :: cs) (w := w) (rest := l) ho hw (.inl rfl)
  have hfin := fin_fr (l := l) (b := ⟨g, .deferred, none, []⟩) (a := a) (k := k) ho
  rw [hr.1] at hfin
  cases pv with
  | none =>
    have hm : fr.mode = .returning := hp
    refine ⟨.nilIface, fr, .nilIface, step_lone_go ?_, .inl ⟨rfl, hm⟩⟩
    rw [hg]
    have ht : tryRecover ((⟨g, .deferred, none, []⟩ : Fb).fr a (.inRegion ops (i :: l) :: k)) (fr :: cs) = none := by simp [tryRecover, Fb.fr, hm]
    simp only [stepG.apply, rec_run hr, if_true]
    have hround : ((⟨g, .deferred, none, []⟩ : Fb).fr a (.inRegion ops (i :: l) :: k)).roundOf = none := rfl
    simp only [hround, ht, hfin]
    simp [Sem.runT_eq, rec_run hr]
  | some x =>
    obtain ⟨v, hm, hv⟩ := hp
    refine ⟨v, { fr with mode := .panicking [{ v, recovered := true }] }, hv, step_lone_go ?_, .inr ⟨v, rfl⟩⟩
    rw [hg]
    have ht : tryRecover ((⟨g, .deferred, none, []⟩ : Fb).fr a (.inRegion ops (i :: l) :: k)) (fr :: cs) = some (v, { fr with mode := .panicking [{ v, recovered := true }] } :: cs) := by simp [tryRecover, Fb.fr, hm]
    have hround : ((⟨g, .deferred, none, []⟩ : Fb).fr a (.inRegion ops (i :: l) :: k)).roundOf = none := rfl
    simp [stepG.apply, Sem.runT_eq, rec_run hr, hround, ht, hfin]
/-- A deferred frame returns. -/
theorem st_def_return {P : Program} {g : FuncId} {fn : Func} {a : Act} {todo : List Item} {fr fr' : Frame} {cs : List Frame} {w : World} (hf : P.funcs[g]? = some fn) (hres : fn.results = #[]) (hd : a.defers = [])
    (hfr : fr' = fr ∧ fr.mode = .returning ∨ ∃ v', fr' = { fr with mode := .panicking [{ v := v', recovered := true }] }) :
    step P (lone { (⟨g, .deferred, none, []⟩ : Fb).fr a todo with mode := .returning } (fr' :: cs) w) = .next (lone { fr with mode := .returning } cs w) := by
  have hrun : (results fn a.tmps).run P w = .ok (.tuple #[]) w := by simp [results, hres, Sem.run]
  refine step_lone_go ?_
  rcases hfr with ⟨rfl, hm⟩ | ⟨v', rfl⟩
  · have e1 : ({ fr' with mode := .returning } : Frame) = fr' := by cases fr'; simp only at hm; subst hm; rfl
    rw [e1]
    simp [stepG, unwind, Fb.fr, hd, hf, Sem.runT_eq, hrun, doReturn, hm]
  · simp [stepG, unwind, Fb.fr, hd, hf, Sem.runT_eq, hrun, doReturn]
theorem dc_of_w {P : Program} {g : FuncId} {fn : Func} {id : Nat} {ops : Array Oper} {o : Oper} {d : Tmp} {rest : Code} {cap : List AV} {pv : Option AV} {H : Heap} {n : Nat} {R : Heap → Nat → Prop} (hf : P.funcs[g]? = some fn) (hb : fn.body = some (.seq (.region id ops false) rest)) (hops : ops = #[o]) (hrec : isRec o d) (hres : fn.results = #[]) (hN : cap.length ≤ fn.ntmps) (hd : d < fn.ntmps)
    (h : W P Plain fn.ntmps n rest (fun e σ => (e = .normal ∨ e = .ret) ∧ σ.df = [] ∧ R σ.h σ.n) ⟨upd (args0 cap) d (pvA pv), H, n, []⟩) : DC P g cap pv H n R := by
  intro K caps hn hrel hvs fr cs hp
  obtain ⟨a, had, henter, htr⟩ := enter_okD hf hb hN hvs
  have ho : ops[0]? = some o := by rw [hops]; rfl
  obtain ⟨v, fr', hv, hstep, hfr⟩ := st_recover (P := P) (g := g) (a := a) (l := []) (k := [.code rest]) (cs := cs) (w := K.w) ho hrec hp
  have htr2 : TR K fn.ntmps (upd (args0 cap) d (pvA pv)) (a.put (some d) v).tmps := TR.put (d := some d) htr (fun t ht => by cases ht; exact hd) hv
  have hs : SR K fn.ntmps ⟨upd (args0 cap) d (pvA pv), H, n, []⟩ (a.put (some d) v) := ⟨hn, hrel, htr2, by rw [put_defers]; exact had⟩
  obtain ⟨e, a', w', ⟨K', σ', e', hw, hs', hst, he, hq1, hq2, hq3⟩, harr⟩ := h K (a.put (some d) v) (Nat.le_of_eq hn.symm) hs ⟨g, .deferred, none, []⟩ rfl [] (fr' :: cs)
  have hst : Step K H K' σ'.h := (hn ▸ hst : StM K.next K H K' σ'.h).step
  subst hw
  have hdd : a'.defers = [] := by have := hs'.dr; rw [hq2] at this; exact this
  have hpre : Steps P (lone (Frame.enter P g caps .deferred) (fr :: cs) K.w) (lone ((⟨g, .deferred, none, []⟩ : Fb).fr (a.put (some d) v) [.code rest]) (fr' :: cs) K.w) := by
    rw [henter]
    refine .head st_seq (.head st_region ?_)
    have : List.range ops.size = [0] := by rw [hops]; rfl
    rw [this]
    exact .head hstep (.one st_region_end)
  refine ⟨K', σ'.h, hs'.rel, hst, by rw [hs'.next]; exact hq3, ?_⟩
  cases he with
  | normal => exact Steps.trans hpre (Steps.trans harr (.head (st_end rfl) (.one (st_def_return hf hres hdd hfr))))
  | ret => obtain ⟨k1, harr⟩ := harr; exact Steps.trans hpre (Steps.trans harr (.head (st_ret rfl) (.one (st_def_return hf hres hdd hfr))))
  | exit i => rcases hq1 with h | h <;> cases h
  | goto i => rcases hq1 with h | h <;> cases h
  | panic _ => rcases hq1 with h | h <;> cases h

/-! the function's code, item by item -/
def DT (P : Program) (K : Ctx) (dc : Option (FuncId × List AV)) (dt : List Deferred) : Prop := match dc with
  | none => dt = []
  | some (g, cap) => ∃ caps, dt = [{ target := .fn (.func g) caps, args := #[] }] ∧ VRs K cap caps.toList ∧ Callable P g
theorem DT.mono {P : Program} {K K' : Ctx} (hE : Ext K K') {dc : Option (FuncId × List AV)} {dt : List Deferred} (h : DT P K dc dt) : DT P K' dc dt := by
  cases dc with
  | none => exact h
  | some p => obtain ⟨caps, h1, h2, h3⟩ := h; exact ⟨caps, h1, h2.mono hE, h3⟩
def FT (P : Program) (f : FuncId) (N : Nat) (Q : AR → Heap → Nat → Prop) (dc : Option (FuncId × List AV)) (todo : List Item) (σ : St) : Prop :=
  ∀ K a cs K0 H0 dt, Step K0 H0 K σ.h → SR K N σ a → DT P K dc dt → EndsP P f Q K0 H0 (lone ((⟨f, .normal, none, dt⟩ : Fb).fr a todo) cs K.w) cs
/-- The function's end: by a return. -/
def FinR (P : Program) (fn : Func) (Q : AR → Heap → Nat → Prop) (dc : Option (FuncId × List AV)) (σ : St) : Prop :=
  Marks σ.h σ.df ∧ match dc with
    | none => ∃ x, ResV P fn.ntmps fn ⟨σ.tm, killAll σ.h σ.df, σ.n, []⟩ x ∧ Q (.ret x) (killAll σ.h σ.df) σ.n
    | some (g, cap) => DC P g cap none (killAll σ.h σ.df) σ.n fun H n => ∃ x, ResV P fn.ntmps fn ⟨σ.tm, H, n, []⟩ x ∧ Q (.ret x) H n
/-- The function's end: by a panic. -/
def FinP (P : Program) (fn : Func) (Q : AR → Heap → Nat → Prop) (dc : Option (FuncId × List AV)) (x : AV) (σ : St) : Prop :=
  Marks σ.h σ.df ∧ match dc with
    | none => Q (.panic x) (killAll σ.h σ.df) σ.n
    | some (g, cap) => DC P g cap (some x) (killAll σ.h σ.df) σ.n fun H n => ∃ x, ResV P fn.ntmps fn ⟨σ.tm, H, n, []⟩ x ∧ Q (.ret x) H n
theorem st_callDef {P : Program} {fr : Frame} {cs : List Frame} {w : World} {g : FuncId} {caps : Array Value} (hm : fr.mode ≠ .run) (hd : fr.defers = [{ target := .fn (.func g) caps, args := #[] }]) (hc : Callable P g) :
    step P (lone fr cs w) = .next (lone (Frame.enter P g caps .deferred) ({ fr with defers := [] } :: cs) w) := by
  have hinv : (invoke (.fn (.func g) caps) #[]).run P w = .ok (.enter g caps) w := by
    unfold invoke
    have := callFunc_run hc (#[] ++ caps) w
    simpa using this
  refine step_lone_go ?_
  cases h : fr.mode with
  | run => exact absurd h hm
  | returning => simp [stepG, unwind, h, hd, callDeferred, Sem.runT_eq, hinv]
  | panicking ch => simp [stepG, unwind, h, hd, callDeferred, Sem.runT_eq, hinv]
section
variable {P : Program} {f : FuncId} {fn : Func} {Q : AR → Heap → Nat → Prop} {dc : Option (FuncId × List AV)} {todo : List Item} {σ : St} (hf : P.funcs[f]? = some fn)
include hf
/-- From the end of the code on. -/
theorem fin_ret (h : FinR P fn Q dc σ) {K : Ctx} {a : Act} {cs : List Frame} {K0 : Ctx} {H0 : Heap} {dt : List Deferred} {todo : List Item} (hst : Step K0 H0 K σ.h) (hs : SR K fn.ntmps σ a) (hdt : DT P K dc dt) :
    EndsP P f Q K0 H0 (lone { (⟨f, .normal, none, dt⟩ : Fb).fr a todo with mode := .returning } cs K.w) cs := by
  obtain ⟨w2, h1, h2, h3⟩ := unwinds (P := P) (cs := cs) dt σ.df K σ.h { (⟨f, .normal, none, dt⟩ : Fb).fr a todo with mode := .returning } a.defers (fun h => by cases h) hs.rel rfl hs.dr h.1
  have hE := h3.ext hs.rel
  have htr : TR (K.at_ w2) fn.ntmps σ.tm a.tmps := hs.tr.mono hE
  have hn2 : (K.at_ w2).next = σ.n := hs.next
  refine .of_steps h1 ?_
  cases dc with
  | none =>
    have hdt0 : dt = [] := hdt
    subst hdt0
    obtain ⟨_, x, hx, hQ⟩ := h
    have hs2 : SR (K.at_ w2) fn.ntmps ⟨σ.tm, killAll σ.h σ.df, σ.n, []⟩ { a with defers := [] } := ⟨hn2, h2, htr, rfl⟩
    obtain ⟨v, hr, hv⟩ := hx _ _ hs2
    exact ⟨.returned v, w2, _, ⟨K.at_ w2, _, .ret x, rfl, h2, hst.trans h3, .ret hv, by rw [hn2]; exact hQ⟩, .refl _ _, rfl, rfl, rfl, rfl, fn, hf, hr⟩
  | some p =>
    obtain ⟨g, cap⟩ := p
    obtain ⟨caps, rfl, hcap, hcal⟩ := hdt
    obtain ⟨_, hdc⟩ := h
    obtain ⟨K', H', g1, g2, ⟨x, hx, hQ⟩, g4⟩ := hdc (K.at_ w2) caps hn2 h2 (hcap.mono hE) { (⟨f, .normal, none, [{ target := .fn (.func g) caps, args := #[] }]⟩ : Fb).fr a todo with mode := .returning, defers := [] } cs rfl
    have hE2 := g2.ext h2
    have hs2 : SR K' fn.ntmps ⟨σ.tm, H', K'.next, []⟩ { a with defers := [] } := ⟨rfl, g1, htr.mono hE2, rfl⟩
    obtain ⟨v, hr, hv⟩ := hx _ _ hs2
    refine .of_steps (.head (st_callDef (g := g) (caps := caps) (fun h => by cases h) rfl hcal) g4) ?_
    exact ⟨.returned v, K'.w, _, ⟨K', H', .ret x, rfl, g1, (hst.trans h3).trans g2, .ret hv, hQ⟩, .refl _ _, rfl, rfl, rfl, rfl, fn, hf, hr⟩
theorem fin_panic {x : AV} (h : FinP P fn Q dc x σ) {K : Ctx} {a : Act} {cs : List Frame} {K0 : Ctx} {H0 : Heap} {dt : List Deferred} {todo : List Item} {v : Value} (hst : Step K0 H0 K σ.h) (hs : SR K fn.ntmps σ a) (hdt : DT P K dc dt) (hv : VR K x v) :
    EndsP P f Q K0 H0 (lone { (⟨f, .normal, none, dt⟩ : Fb).fr a todo with mode := .panicking [{ v, recovered := false }] } cs K.w) cs := by
  obtain ⟨w2, h1, h2, h3⟩ := unwinds (P := P) (cs := cs) dt σ.df K σ.h { (⟨f, .normal, none, dt⟩ : Fb).fr a todo with mode := .panicking [{ v, recovered := false }] } a.defers (fun h => by cases h) hs.rel rfl hs.dr h.1
  have hE := h3.ext hs.rel
  have htr : TR (K.at_ w2) fn.ntmps σ.tm a.tmps := hs.tr.mono hE
  have hn2 : (K.at_ w2).next = σ.n := hs.next
  refine .of_steps h1 ?_
  cases dc with
  | none =>
    have hdt0 : dt = [] := hdt
    subst hdt0
    exact ⟨.panicked _, w2, _, ⟨K.at_ w2, _, .panic x, rfl, h2, hst.trans h3, .panic (hv.mono hE), by rw [hn2]; exact h.2⟩, .refl _ _, rfl, rfl, rfl, fn, hf⟩
  | some p =>
    obtain ⟨g, cap⟩ := p
    obtain ⟨caps, rfl, hcap, hcal⟩ := hdt
    obtain ⟨_, hdc⟩ := h
    obtain ⟨K', H', g1, g2, ⟨y, hx, hQ⟩, g4⟩ := hdc (K.at_ w2) caps hn2 h2 (hcap.mono hE) { (⟨f, .normal, none, [{ target := .fn (.func g) caps, args := #[] }]⟩ : Fb).fr a todo with mode := .panicking [{ v, recovered := false }], defers := [] } cs ⟨v, rfl, hv.mono hE⟩
    have hE2 := g2.ext h2
    have hs2 : SR K' fn.ntmps ⟨σ.tm, H', K'.next, []⟩ { a with defers := [] } := ⟨rfl, g1, htr.mono hE2, rfl⟩
    obtain ⟨u, hr, hu⟩ := hx _ _ hs2
    refine .of_steps (.head (st_callDef (g := g) (caps := caps) (fun h => by cases h) rfl hcal) g4) ?_
    exact ⟨.returned u, K'.w, _, ⟨K', H', .ret y, rfl, g1, (hst.trans h3).trans g2, .ret hu, hQ⟩, .refl _ _, rfl, rfl, rfl, rfl, fn, hf, hr⟩
theorem ft_nil (h : FinR P fn Q dc σ) : FT P f fn.ntmps Q dc [] σ := by
  intro K a cs K0 H0 dt hst hs hdt
  exact .of_steps (.one (st_end rfl)) (fin_ret hf h hst hs hdt)
/-- One piece of code. -/
theorem ft_code {c : Code} (h : W P Plain fn.ntmps σ.n c (fun e σ' => match e with
    | .normal => FT P f fn.ntmps Q dc todo σ'
    | .ret => FinR P fn Q dc σ'
    | .panic x => FinP P fn Q dc x σ'
    | _ => False) σ) : FT P f fn.ntmps Q dc (.code c :: todo) σ := by
  intro K a cs K0 H0 dt hst hs hdt
  obtain ⟨e, a', w', ⟨K', σ', e', rfl, hs', hst2, he, hq⟩, harr⟩ := h K a (Nat.le_of_eq hs.next.symm) hs ⟨f, .normal, none, dt⟩ rfl todo cs
  have hst2 : Step K σ.h K' σ'.h := (hs.next ▸ hst2 : StM K.next K σ.h K' σ'.h).step
  have hE := hst2.ext hs.rel
  cases he with
  | normal => exact .of_steps harr (hq K' a' cs K0 H0 dt (hst.trans hst2) hs' (hdt.mono hE))
  | ret => obtain ⟨k1, harr⟩ := harr; exact .of_steps (Steps.trans harr (.one (st_ret rfl))) (fin_ret hf hq (hst.trans hst2) hs' (hdt.mono hE))
  | panic hv => obtain ⟨k1, _, harr⟩ := harr; exact .of_steps harr (fin_panic hf hq (hst.trans hst2) hs' (hdt.mono hE) hv)
  | exit i => exact hq.elim
  | goto i => exact hq.elim
omit hf in
theorem ft_seq {N : Nat} {x y : Code} (h : FT P f N Q dc (.code x :: .code y :: todo) σ) : FT P f N Q dc (.code (.seq x y) :: todo) σ :=
  fun K a cs K0 H0 dt hst hs hdt => .of_steps (.one st_seq) (h K a cs K0 H0 dt hst hs hdt)
omit hf in
theorem ft_region {N id : Nat} {ops : Array Oper} (h : FT P f N Q dc (.inRegion ops (List.range ops.size) :: todo) σ) : FT P f N Q dc (.code (.region id ops false) :: todo) σ :=
  fun K a cs K0 H0 dt hst hs hdt => .of_steps (.one st_region) (h K a cs K0 H0 dt hst hs hdt)
omit hf in
theorem ft_rnil {N : Nat} {ops : Array Oper} (h : FT P f N Q dc todo σ) : FT P f N Q dc (.inRegion ops [] :: todo) σ :=
  fun K a cs K0 H0 dt hst hs hdt => .of_steps (.one st_region_end) (h K a cs K0 H0 dt hst hs hdt)
omit hf in
theorem ft_op {N : Nat} {all : List Oper} {i : Nat} {l : List Nat} {o : Oper} {x : AV} {h' : Heap} {n' : Nat} (ho : all[i]? = some o) (hu : unguarded all o σ.tm true) (hd : ∀ t, o.dst = some t → t < N) (hdf : ∀ c, o.op ≠ .defer c) (hv : OpV P N o σ x h' n')
    (h : FT P f N Q dc (.inRegion all.toArray l :: todo) ⟨putT σ.tm o.dst x, h', n', σ.df⟩) : FT P f N Q dc (.inRegion all.toArray (i :: l) :: todo) σ := by
  intro K a cs K0 H0 dt hst hs hdt
  obtain ⟨v, K', hr, hn, hrel, hst2, hvr⟩ := hv K a hs
  have hE := hst2.ext hs.rel
  have hs' : SR K' N ⟨putT σ.tm o.dst x, h', n', σ.df⟩ (a.put o.dst v) := ⟨hn, hrel, (hs.tr.mono hE).put hd hvr, by rw [put_defers]; exact hs.dr.mono hE⟩
  have ho' : all.toArray[i]? = some o := by simpa using ho
  have hg := stG_op (P := P) (b := ⟨f, .normal, none, dt⟩) (a := a) (k := todo) (cs := cs) (w := K.w) (rest := l) ho' (wanted_of hs.tr hu) (.inl rfl)
  have hfin := fin_fr (l := l) (b := ⟨f, .normal, none, dt⟩) (a := a) (k := todo) ho'
  refine .of_steps (.one (step_lone_go ?_)) (h K' _ cs K0 H0 dt (hst.trans hst2) hs' (hdt.mono hE))
  rw [hg]
  rcases hr with hr | ⟨hr, rfl⟩
  · simp [stepG.apply, Sem.runT_eq, hr, hfin]
  · simp [stepG.apply, Sem.runT_eq, hr, hfin]
omit hf in
/-- The deferred call. -/
theorem ft_defer {N : Nat} {all : List Oper} {i : Nat} {l : List Nat} {o : Oper} {fo : Operand} {ats : Array TypeId} {g : FuncId} {cap : List AV} (ho : all[i]? = some o) (hop : o.op = .defer { callee := .value fo, args := #[], argTypes := ats }) (hu : unguarded all o σ.tm true) (hd : ∀ t, o.dst = some t → t < N)
    (hfo : evo σ.tm fo = some (.func (.func g) [] cap)) (hdf : σ.df = []) (hc : Callable P g) (h : FT P f N Q (some (g, cap)) (.inRegion all.toArray l :: todo) ⟨putT σ.tm o.dst (.tuple []), σ.h, σ.n, []⟩) : FT P f N Q none (.inRegion all.toArray (i :: l) :: todo) σ := by
  intro K a cs K0 H0 dt hst hs hdt
  have hdt0 : dt = [] := hdt
  subst hdt0
  have hdd : a.defers = [] := by have := hs.dr; rw [hdf] at this; exact this
  have hv := evo_sound hs.tr hfo
  generalize hh : a.eval fo = v at hv
  cases hv
  rename_i fs cs2 h1 h2 h3 h4 h5
  have hfs : fs = #[] := by
    have : fs.size = 0 := by simpa using h2
    exact Array.eq_empty_of_size_eq_zero this
  subst hfs
  have hcap : VRs K cap cs2.toList := ⟨by simpa using h4, fun i x v hx hv => by
    have := h5 i x hx; rw [Array.getD_eq_getD_getElem?] at this; rw [Array.getElem?_toList] at hv; simpa [hv] using this⟩
  have hs' : SR K N ⟨putT σ.tm o.dst (.tuple []), σ.h, σ.n, []⟩ (a.put o.dst undef) := ⟨hs.next, hs.rel, hs.tr.put hd (VR.undef_ K), by rw [put_defers]; exact hdd⟩
  have ho' : all.toArray[i]? = some o := by simpa using ho
  have hg := stG_op (P := P) (b := ⟨f, .normal, none, []⟩) (a := a) (k := todo) (cs := cs) (w := K.w) (rest := l) ho' (wanted_of hs.tr hu) (.inl rfl)
  have hfin := fin_fr (l := l) (b := ⟨f, .normal, none, [{ target := .fn (.func g) cs2, args := #[] }]⟩) (a := a) (k := todo) ho' undef
  have hrun : (execOp a.eval o).run P K.w = .ok (.defer { target := .fn (.func g) cs2, args := #[] }) K.w := by
    unfold execOp; rw [hop]
    have hres : (resolve a.eval { callee := .value fo, args := #[], argTypes := ats } o.type).run P K.w = .ok { target := .fn (.func g) cs2, args := #[] } K.w := by
      unfold resolve
      simp only [hh, Deferred.ofValue]
      simp [Sem.run_pure]
    rw [run_bindv hres]; rfl
  refine .of_steps (.one (step_lone_go ?_)) (h K _ cs K0 H0 [{ target := .fn (.func g) cs2, args := #[] }] hst hs' ⟨cs2, rfl, hcap, hc⟩)
  rw [hg]
  simp only [stepG.apply, if_true, Sem.runT_eq, hrun]
  have e1 : ({ (⟨f, .normal, none, []⟩ : Fb).fr a (.inRegion all.toArray (i :: l) :: todo) with defers := { target := .fn (.func g) cs2, args := #[] } :: ((⟨f, .normal, none, []⟩ : Fb).fr a (.inRegion all.toArray (i :: l) :: todo)).defers } : Frame) = (⟨f, .normal, none, [{ target := .fn (.func g) cs2, args := #[] }]⟩ : Fb).fr a (.inRegion all.toArray (i :: l) :: todo) := by
    simp [Fb.fr, hdd]
  rw [e1, hfin]
  rfl
end
theorem ac_of_ft {P : Program} {f : FuncId} {fn : Func} {c : Code} {args : List AV} {H : Heap} {n : Nat} {Q : AR → Heap → Nat → Prop} (hf : P.funcs[f]? = some fn) (hb : fn.body = some c) (hN : args.length ≤ fn.ntmps)
    (h : FT P f fn.ntmps Q none [.code c] ⟨args0 args, H, n, []⟩) : AC P f args H n Q := by
  intro K vs hn hrel hvs cs
  obtain ⟨a, had, henter, htr⟩ := enter_ok hf hb hN hvs
  have hs : SR K fn.ntmps ⟨args0 args, H, n, []⟩ a := ⟨hn, hrel, htr, had⟩
  rw [henter]
  exact h K a cs K H [] (Step.refl K H) hs rfl
end Go.Lg
