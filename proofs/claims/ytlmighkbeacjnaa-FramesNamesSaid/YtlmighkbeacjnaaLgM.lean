/- Ranges over functions: the rules for the loop and for yield's calls; contracts carried to a larger memory. -/
import Derived.Test.YtlmighkbeacjnaaLgL
set_option linter.unusedVariables false
set_option linter.unusedSimpArgs false
set_option linter.unusedSectionVars false
namespace Go.Lg
open Go

theorem mo_yield {P : Program} {B : Fb → Prop} {ops : Array Oper} {l : List Nat} {i : Nat} {o : Oper} {Q : Ex → Act → World → Prop} {a : Act} {w : World} {lp : Nat} {f : FuncId} {tmps : Array Value} {as bd : Code}
    (ho : ops[i]? = some o) (hw : Region.wanted o (yielded ops a.tmps) = true) (hd : ∀ c, o.op ≠ .defer c) (hr : (execOp a.eval o).run P w = .ok (.round lp f tmps as bd) w)
    (h : ∀ c cs, ∃ bb w2, Steps P (lone (Frame.round lp f tmps as bd .normal) (c :: cs) w) (lone (c.finish (.bool bb)) cs w2) ∧ MO P B ops l Q (a.put o.dst (.bool bb)) w2) : MO P B ops (i :: l) Q a w := by
  intro b hb k cs
  have hg := stG_op (P := P) (b := b) (k := k) (cs := cs) (w := w) (rest := l) ho hw (.inr hd)
  obtain ⟨bb, w2, hsteps, hm⟩ := h (b.fr a (.inRegion ops (i :: l) :: k)) cs
  obtain ⟨e, a', w3, hq, harr⟩ := hm b hb k cs
  have henter : step P (lone (b.fr a (.inRegion ops (i :: l) :: k)) cs w) = .next (lone (Frame.round lp f tmps as bd .normal) (b.fr a (.inRegion ops (i :: l) :: k) :: cs) w) :=
    step_lone_go (by rw [hg]; simp [stepG.apply, hr, Fb.fr])
  rw [fin_fr ho] at hsteps
  exact ⟨e, a', w3, hq, .of_steps (.head henter hsteps) harr⟩
section
variable {P : Program} {B : Fb → Prop} {N m : Nat} {all rest : List Oper} {Q : AEx → St → Prop} {tm : Nat → AV} {hp : Heap} {n : Nat} {df : List Nat} {d : Nat} {ty : TypeId} {pos : String} {af : Array Edge}
theorem run_yieldop {fo : Operand} {args : Array Operand} {ats : Array TypeId} {o : Oper} {id : Nat} {K : Ctx} {a : Act} (hop : o.op = .call { callee := .value fo, args := args, argTypes := ats }) (hr : TR K N tm a.tmps) (hf : evo tm fo = some (.yieldf id)) :
    (execOp a.eval o).run P K.w = (Instr.yield (K.base id) (args.map a.eval)).run P K.w := by
  have hv := evo_sound hr hf
  generalize hh : a.eval fo = v at hv
  cases hv
  unfold execOp; rw [hop]
  have hres : (resolve a.eval { callee := .value fo, args := args, argTypes := ats } o.type).run P K.w = .ok { target := .fn (.yield (K.base id)) #[], args := #[] ++ args.map a.eval } K.w := by
    unfold resolve
    simp only [hh, Deferred.ofValue]
    rfl
  rw [run_bindv hres]
  unfold invoke
  simp
theorem wl_yield {fo : Operand} {args : Array Operand} {ats : Array TypeId} {id : Nat} {xs : List AV} {R : Bool → Heap → Nat → Prop} (hf : evo tm fo = some (.yieldf id)) (hx : evs tm args.toList = some xs) (hy : YC P id xs hp n R) (hd : d < N)
    (h : ∀ b h' n', R b h' n' → WL P B N m all rest Q ⟨upd tm d (.bool b), h', n', df⟩) : WL P B N m all (⟨some d, .call { callee := .value fo, args := args, argTypes := ats }, ty, pos, af, none⟩ :: rest) Q ⟨tm, hp, n, df⟩ := by
  intro pre hpre K a hm hs
  rw [range'_cons]
  have hxs := evs_sound hs.tr hx
  obtain ⟨f, tmps, as, bd, hrun, hround⟩ := hy K (args.map a.eval) hs.next hs.rel (by simpa using hxs)
  refine mo_yield (at_pre hpre) (wanted_of hs.tr (ung_none rfl)) (fun c h => by cases h) ((run_yieldop rfl hs.tr hf).trans hrun) fun c cs => ?_
  obtain ⟨b, K', H', h1, h2, h3, h4⟩ := hround c cs
  refine ⟨b, K'.w, h4, ?_⟩
  have hE := h2.ext hs.rel
  have hs' : SR K' N ⟨upd tm d (.bool b), H', K'.next, df⟩ (a.put (some d) (.bool b)) := ⟨rfl, h1, (hs.tr.mono hE).put (d := some d) (fun t ht => by cases ht; exact hd) (.bool b), by rw [put_defers]; exact hs.dr.mono hE⟩
  exact (h b H' K'.next h3 (pre ++ [_]) (by simp [hpre]) K' _ (Nat.le_trans hm h2.next) hs').mono fun _ _ _ hq => hq.step (h2.stm hm)

/-- The loop. -/
theorem w_range {f : Operand} {ps : Array Tmp} {as bd : Code} {g : FuncId} {first cap : List AV} {R : AR → Heap → Nat → Prop} (hf : evo tm f = some (.func (.func g) first cap)) (hc : Callable P g)
    (hac : AC P g (first ++ [.yieldf (n + 1)] ++ cap) (upd (upd hp n (some .deferred)) (n + 1) (some (.loop ⟨tm, N, ps, as, bd, .ready, none⟩))) (n + 2) R)
    (h : ∀ r h' n', R r h' n' → ∃ x lb', r = .ret x ∧ h' (n + 1) = some (.loop lb') ∧ lb'.state ≠ .busy ∧
      match lb'.pending with
      | none => Q .normal ⟨tm, upd h' (n + 1) none, n', n :: df⟩
      | some c => W P Plain N m c Q ⟨tm, upd h' (n + 1) none, n', n :: df⟩) : W P Plain N m (.rangeFunc f ps as bd) Q ⟨tm, hp, n, df⟩ := by
  intro K a hm hs b hb k cs
  have hn : K.next = n := hs.next
  subst hn
  have hv := evo_sound hs.tr hf
  generalize hh : a.eval f = v at hv
  cases hv
  rename_i fs cp g1 g2 g3 g4 g5
  have hfs : VRs K first fs.toList := VR.agg_.1 (.agg g2 g3)
  have hcp : VRs K cap cp.toList := VR.agg_.1 (.agg g4 g5)
  let o1 : Obj := .deferred (some [])
  let K1 := K.newOwn o1 0
  have hb1 : BR K1 K.next .deferred := by
    show K1.w.heap[K1.base K.next]? = _
    have e1 : K1.base K.next = K.w.heap.size := upd_same _ _ _
    rw [e1]
    show (K.w.heap.push o1)[K.w.heap.size]? = _
    simp [o1]
  obtain ⟨q1, q2⟩ := newOwn_ok (sz := 0) hs.rel hb1
  have hE1 := newOwn_ext hs.rel o1 0
  let o2 : Obj := .loop { state := .ready, pending := none, fn := b.fn, tmps := a.tmps, params := ps, assign := as, body := bd, defers := K.w.heap.size }
  let K2 := K1.newOwn o2 0
  have hE2 := newOwn_ext q1 o2 0
  have hz1 : K1.w.heap.size = K.w.heap.size + 1 := by show (K.w.heap.push o1).size = _; simp
  have hb2 : BR K2 K1.next (.loop ⟨tm, N, ps, as, bd, .ready, none⟩) := by
    refine ⟨b.fn, a.tmps, K.w.heap.size, ?_, (hs.tr.mono hE1).mono hE2⟩
    have e1 : K2.base K1.next = K1.w.heap.size := upd_same _ _ _
    rw [e1]
    show (K1.w.heap.push o2)[K1.w.heap.size]? = _
    simp [o2]
  obtain ⟨q3, q4⟩ := newOwn_ok (sz := 0) q1 hb2
  have hbase : K2.base (K.next + 1) = K.w.heap.size + 1 := by
    have e1 : K2.base K1.next = K1.w.heap.size := upd_same _ _ _
    exact e1.trans hz1
  have hargs : VRs K2 (first ++ [.yieldf (K.next + 1)] ++ cap) (((fs ++ #[Value.func (.yield (K.w.heap.size + 1)) #[] #[]]) ++ cp).toList) := by
    have hy : VR K2 (.yieldf (K.next + 1)) (.func (.yield (K.w.heap.size + 1)) #[] #[]) := by
      rw [← hbase]; exact .yieldf (Nat.lt_succ_self _)
    simp only [Array.toList_append]
    exact (((hfs.mono hE1).mono hE2).append (.cons hy (.nil _))).append ((hcp.mono hE1).mono hE2)
  let a' : Act := { a with defers := { target := .collected K.w.heap.size, args := #[] } :: a.defers }
  obtain ⟨e, w3, fr, ⟨K3, H3, r, rfl, hrel3, hst3, hrr, hR⟩, hcomes, _, hleave⟩ := hac K2 _ rfl q3 hargs (b.fr a' (.inRangeFunc (K.w.heap.size + 1) :: k) :: cs)
  obtain ⟨x, lb', rfl, hl3, hbusy, hq⟩ := h r H3 K3.next hR
  cases hrr with
  | @ret _ v hvx =>
    obtain ⟨rr, p1, p2, p3, _, _, _, _, _⟩ := loop_put hrel3 hl3
    have hmu3 := hst3.mu (K.next + 1) (Nat.lt_succ_self _)
    have hb3 : K3.base (K.next + 1) = K.w.heap.size + 1 := hmu3.1.trans hbase
    have hne : H3 (K.next + 1) ≠ none := by rw [hl3]; simp
    have hw := wrote_put K3.w (K3.base (K.next + 1)) (.loop { rr with state := .exhausted })
    obtain ⟨d1, d2⟩ := wrote_drop hrel3 hne hw
    have hE3 := hst3.ext q3
    have hE4 := wrote_ext hrel3 hne hw
    have hsteps : Steps P (lone (b.fr a (.code (.rangeFunc f ps as bd) :: k)) cs K.w) (lone (b.fr a' ((lb'.pending.map Item.code).toList ++ k)) cs (K3.w.putObj (K3.base (K.next + 1)) (.loop { rr with state := .exhausted }))) := by
      refine .head (st_range hb hh hc) (Steps.trans hcomes (.head (step_leave_returned hleave) ?_))
      rw [fin_range]
      have := st_endRange (P := P) (b := b) (a := a') (k := k) (cs := cs) (w := K3.w) (l := K.w.heap.size + 1) (r := rr) (by rw [← hb3]; exact p1) (by rw [p2]; exact hbusy)
      rw [hb3, ← p3]
      exact .one this
    have hdr : DR (K3.at_ (K3.w.putObj (K3.base (K.next + 1)) (.loop { rr with state := .exhausted }))) (upd H3 (K.next + 1) none) (K.next :: df) a'.defers := by
      refine ⟨a.defers, ?_, ?_, (((hs.dr.mono (H' := hp) hE1).mono (H' := hp) hE2).mono (H' := hp) hE3).mono hE4⟩
      · have e1 : K3.base K.next = K2.base K.next := (hst3.mu K.next (show K.next < K2.next from Nat.lt_succ_of_lt (Nat.lt_succ_self _))).1
        have e2 : K2.base K.next = K1.base K.next := upd_ne _ _ (Nat.ne_of_lt (Nat.lt_succ_self _))
        have e3 : K1.base K.next = K.w.heap.size := upd_same _ _ _
        show a'.defers = { target := .collected (K3.base K.next), args := #[] } :: a.defers
        rw [e1, e2, e3]
      · exact Nat.lt_of_lt_of_le (show K.next < K2.next from Nat.lt_succ_of_lt (Nat.lt_succ_self _)) hst3.next
    have hs4 : SR (K3.at_ (K3.w.putObj (K3.base (K.next + 1)) (.loop { rr with state := .exhausted }))) N ⟨tm, upd H3 (K.next + 1) none, K3.next, K.next :: df⟩ a' := ⟨rfl, d1, (((hs.tr.mono hE1).mono hE2).mono hE3).mono hE4, hdr⟩
    have hst4 : StM m K hp (K3.at_ (K3.w.putObj (K3.base (K.next + 1)) (.loop { rr with state := .exhausted }))) (upd H3 (K.next + 1) none) := (((q2.trans q4).trans hst3).trans d2).stm hm
    cases hpe : lb'.pending with
    | none =>
      rw [hpe] at hq hsteps
      exact ⟨.normal, a', _, ⟨_, _, .normal, rfl, hs4, hst4, .normal, hq⟩, hsteps⟩
    | some c =>
      rw [hpe] at hq hsteps
      obtain ⟨e5, a5, w5, ⟨K5, σ5, e5', rfl, hs5, hst5, he5, hq5⟩, harr5⟩ := hq _ a' hst4.next' hs4 b hb k cs
      exact ⟨e5, a5, _, ⟨K5, σ5, e5', rfl, hs5, hst4.trans hst5, he5, hq5⟩, .of_steps hsteps harr5⟩
end

/-! a round's contract over the loop's own memory, carried to whatever more there is -/
def low (k : Nat) (H1 H2 : Heap) : Heap := fun i => if i < k then H1 i else H2 i
inductive LowB (k : Nat) : Blk → Prop
  | cells {xs : List AV} {e : TypeId} (h : ∀ x, x ∈ xs → Low k x) : LowB k (.cells xs e)
  | loop {l : LoopB} (h : ∀ t, Low k (l.tm t)) : LowB k (.loop l)
  | deferred : LowB k .deferred
theorem BR.cut {K : Ctx} {k id : Nat} {b : Blk} (h : BR K id b) (hb : LowB k b) : BR (K.cut k) id b := by
  cases hb with
  | cells hx =>
    obtain ⟨arr, fr, ha, ht, hz, hl, hv⟩ := h
    exact ⟨arr, fr, ha, ht, hz, hl, fun j x hj => let ⟨v, h1, h2⟩ := hv j x hj; ⟨v, h1, h2.cut (hx x (List.mem_of_getElem? hj))⟩⟩
  | loop hx =>
    obtain ⟨fn, tmps, defers, ha, ht⟩ := h
    exact ⟨fn, tmps, defers, ha, ht.1, fun t => (ht.2 t).cut (hx t)⟩
  | deferred => exact h
theorem yc_lift {P : Program} {id : Nat} {args : List AV} {hs : List (Option Blk)} {R : Bool → Heap → Nat → Prop} (h : YC P id args (hl hs) hs.length R) (ha : ∀ x, x ∈ args → Low hs.length x) (hlow : ∀ (i : Nat) b, hs[i]? = some (some b) → LowB hs.length b) (hR : ∀ b H n, R b H n → n = hs.length ∧ ∀ i, hs.length ≤ i → H i = none)
    {H : Heap} {n : Nat} (hn : hs.length ≤ n) (hH : ∀ i, i < hs.length → H i = hl hs i) : YC P id args H n (fun b H' n' => n' = n ∧ ∃ H1, R b H1 hs.length ∧ H' = low hs.length H1 H) := by
  intro K vs hk hr hvs
  subst hk
  have hsub : ∀ {i b}, hl hs i = some b → i < hs.length ∧ H i = some b := fun {i b} hb => by
    have hi : i < hs.length := (List.getElem?_eq_some_iff.1 (hl_ne.1 hb)).1
    exact ⟨hi, by rw [hH i hi]; exact hb⟩
  have hsubn : ∀ {i}, hl hs i ≠ none → i < hs.length ∧ H i ≠ none := fun {i} hb => by
    cases hc : hl hs i with
    | none => exact absurd hc hb
    | some b => obtain ⟨h1, h2⟩ := hsub hc; exact ⟨h1, by rw [h2]; simp⟩
  have hr0 : Rel (K.cut hs.length) (hl hs) := ⟨fun i hi => (hsubn hi).1, fun i hi => hr.nro i (hsubn hi).2, fun i b hb => (hr.br i b (hsub hb).2).cut (hlow i b (hl_ne.1 hb)), fun i j hi hj e => hr.inj i j (hsubn hi).2 (hsubn hj).2 e, hr.ros⟩
  obtain ⟨f, tmps, as, bd, hy, hround⟩ := h (K.cut hs.length) vs rfl hr0 ⟨hvs.1, fun i x v hx hv => (hvs.2 i x v hx hv).cut (ha x (List.mem_of_getElem? hx))⟩
  refine ⟨f, tmps, as, bd, hy, fun c cs => ?_⟩
  obtain ⟨bb, K', H', k1, k2, k3, k4⟩ := hround c cs
  obtain ⟨hn', hnone⟩ := hR bb H' K'.next k3
  have hmu : ∀ i, i < hs.length → K'.base i = K.base i ∧ K'.boff i = K.boff i ∧ K'.bsz i = K.bsz i := fun i hi => k2.mu i hi
  let K2 : Ctx := { base := K.base, boff := K.boff, bsz := K.bsz, next := K.next, ro := K'.ro, w := K'.w }
  have hE' : Ext K' K2 := ⟨by rw [hn']; exact hn, fun i hi => by rw [hn'] at hi; obtain ⟨a1, a2, a3⟩ := hmu i hi; exact ⟨a1.symm, a2.symm, a3.symm⟩, fun _ h => h, fun _ _ => rfl⟩
  have notOB : ∀ {i}, hs.length ≤ i → H i ≠ none → ¬ OB (K.cut hs.length) (hl hs) (K.base i) := fun {i} hi hne ⟨j, hj, e⟩ => by
    obtain ⟨j1, j2⟩ := hsubn hj
    have := hr.inj j i j2 hne e
    omega
  have hE : Ext K K2 := ⟨Nat.le_refl _, fun _ _ => ⟨rfl, rfl, rfl⟩, k2.ro, fun b hb => k2.same b (hr.ros b hb) (fun ⟨j, hj, e⟩ => hr.nro j (hsubn hj).2 (by
    have e : K.base j = b := e
    rw [e]; exact hb))⟩
  have hH1 : ∀ {i}, H' i ≠ none → i < hs.length := fun {i} hi => by
    by_cases hlt : i < hs.length
    · exact hlt
    · exact absurd (hnone i (by omega)) hi
  have lowlt : ∀ {i}, i < hs.length → low hs.length H' H i = H' i := fun hi => if_pos hi
  have lowge : ∀ {i}, ¬ i < hs.length → low hs.length H' H i = H i := fun hi => if_neg hi
  have own' : ∀ {i}, H' i ≠ none → (∃ j, hl hs j ≠ none ∧ K.base j = K.base i) ∨ K.w.heap.size ≤ K.base i := fun {i} hi => by
    have hb := (hmu i (hH1 hi)).1
    rcases k2.own (K'.base i) ⟨i, hi, rfl⟩ with ⟨j, hj, e⟩ | h1
    · exact .inl ⟨j, hj, e.trans hb⟩
    · exact .inr (by rw [← hb]; exact h1)
  have cross : ∀ {i j}, i < hs.length → ¬ j < hs.length → H' i ≠ none → H j ≠ none → K.base i ≠ K.base j := fun {i j} hi hj h1 h2 e => by
    rcases own' h1 with ⟨q, hq, e'⟩ | h3
    · exact notOB (by omega) h2 ⟨q, hq, e'.trans e⟩
    · have := hr.size_lt h2; omega
  refine ⟨bb, K2, low hs.length H' H, ?_, ?_, ⟨rfl, H', by rw [← hn']; exact k3, rfl⟩, k4⟩
  · refine ⟨fun i hi => ?_, fun i hi => ?_, fun i b hb => ?_, fun i j hi hj e => ?_, k1.ros⟩
    · by_cases hlt : i < hs.length
      · exact Nat.lt_of_lt_of_le hlt hn
      · rw [lowge hlt] at hi; exact hr.lt i hi
    · by_cases hlt : i < hs.length
      · rw [lowlt hlt] at hi
        have := k1.nro i hi
        rw [(hmu i hlt).1] at this; exact this
      · rw [lowge hlt] at hi
        intro hro
        rcases k2.ro' _ hro with h1 | h1 | h1
        · exact hr.nro i hi h1
        · exact notOB (by omega) hi h1
        · have h1 : K.w.heap.size ≤ K.base i := h1
          have := hr.size_lt hi; omega
    · by_cases hlt : i < hs.length
      · rw [lowlt hlt] at hb
        have hbr := k1.br i b hb
        have := hbr.mono hE' (by rw [hn']; exact hlt) (by rfl)
        exact this
      · rw [lowge hlt] at hb
        have hne : H i ≠ none := by rw [hb]; simp
        exact (hr.br i b hb).mono hE (hr.lt i hne) (k2.same _ (hr.size_lt hne) (notOB (by omega) hne))
    · have e : K.base i = K.base j := e
      by_cases hi' : i < hs.length <;> by_cases hj' : j < hs.length
      · rw [lowlt hi'] at hi; rw [lowlt hj'] at hj
        exact k1.inj i j hi hj (by rw [(hmu i hi').1, (hmu j hj').1]; exact e)
      · rw [lowlt hi'] at hi; rw [lowge hj'] at hj; exact absurd e (cross hi' hj' hi hj)
      · rw [lowge hi'] at hi; rw [lowlt hj'] at hj; exact absurd e.symm (cross hj' hi' hj hi)
      · rw [lowge hi'] at hi; rw [lowge hj'] at hj; exact hr.inj i j hi hj e
  · refine ⟨Nat.le_refl _, fun _ _ => ⟨rfl, rfl, rfl⟩, k2.ro, k2.size, fun b hb hnb => k2.same b hb (fun ⟨j, hj, e⟩ => hnb ⟨j, (hsubn hj).2, e⟩), ?_, fun b hb => ?_, k2.os, k2.tape, k2.output⟩
    · rintro b ⟨i, hi, rfl⟩
      by_cases hlt : i < hs.length
      · rw [lowlt hlt] at hi
        rcases own' hi with ⟨j, hj, e⟩ | h1
        · exact .inl ⟨j, (hsubn hj).2, e⟩
        · exact .inr h1
      · rw [lowge hlt] at hi; exact .inl ⟨i, hi, rfl⟩
    · rcases k2.ro' b hb with h1 | ⟨j, hj, e⟩ | h1
      · exact .inl h1
      · exact .inr (.inl ⟨j, (hsubn hj).2, e⟩)
      · exact .inr (.inr h1)
/-- A function that only computes and ranges over functions. -/
def DonePD (P : Program) (fn : Func) (X : AV → Prop) : AEx → St → Prop
  | .normal, σ | .ret, σ => Marks σ.h σ.df ∧ ∃ x, ResV P fn.ntmps fn ⟨σ.tm, killAll σ.h σ.df, σ.n, []⟩ x ∧ Pur x ∧ X x
  | _, _ => False
theorem pf_of_ac0 {P : Program} {f : FuncId} {args : List AV} {X : AV → Prop} (hc : Callable P f) (ha : ∀ x, x ∈ args → Pur x) (h0 : AC P f args (hl []) 0 fun r _ _ => ∃ x, r = .ret x ∧ Pur x ∧ X x) : PF P f args X := by
  refine ⟨hc, fun n => ?_⟩
  intro K vs hn hr hv
  have hv0 : VRs (K.cut 0) args vs.toList := ⟨hv.1, fun i x v hx hu => VR.pur (K := K) (K' := K.cut 0) (fun _ h => h) (fun _ _ => rfl) (hv.2 i x v hx hu) (ha x (List.mem_of_getElem? hx))⟩
  have hr0 : Rel (K.cut 0) (hl []) := ⟨fun _ h => absurd rfl h, fun _ h => absurd rfl h, fun _ _ h => by simp [hl] at h, fun _ _ h => absurd rfl h, hr.ros⟩
  refine (h0 (K.cut 0) vs rfl hr0 hv0).mono ?_
  rintro e w' ⟨K', H1, r, rfl, hr', hst, hrr, x, rfl, hp, hX⟩
  let K2 : Ctx := { base := K.base, boff := K.boff, bsz := K.bsz, next := K.next, ro := K'.ro, w := K'.w }
  have hsame : ∀ b, b < K.w.heap.size → K'.w.heap[b]? = K.w.heap[b]? := fun b hb => hst.same b hb (fun ⟨id, h1, _⟩ => h1 rfl)
  refine ⟨K2, noHeap, .ret x, rfl, ⟨fun _ h => absurd rfl h, fun _ h => absurd rfl h, fun _ _ h => by simp [noHeap] at h, fun _ _ h => absurd rfl h, hr'.ros⟩, ⟨Nat.le_refl _, fun _ _ => ⟨rfl, rfl, rfl⟩, hst.ro, hst.size, fun b hb _ => hsame b hb, fun b ⟨_, h, _⟩ => absurd rfl h, fun b hb => ?_, hst.os, hst.tape, hst.output⟩, ?_, x, rfl, hp, hX⟩
  · rcases hst.ro' b hb with h1 | ⟨id, h1, _⟩ | h1
    · exact .inl h1
    · exact absurd rfl h1
    · exact .inr (.inr h1)
  · cases hrr with
    | ret hv => exact .ret (VR.pur (K := K') (K' := K2) (fun _ h => h) (fun _ _ => rfl) hv hp)
theorem pf_of_wd0 {P : Program} {f : FuncId} {fn : Func} {c : Code} {args : List AV} {X : AV → Prop} (hf : P.funcs[f]? = some fn) (hb : fn.body = some c) (hn : (fn.name == "runtime.NumGoroutine") = false) (hN : args.length ≤ fn.ntmps) (ha : ∀ x, x ∈ args → Pur x)
    (h : W P Plain fn.ntmps 0 c (DonePD P fn X) ⟨args0 args, hl [], 0, []⟩) : PF P f args X := by
  refine pf_of_ac0 ⟨fn, hf, hn, by rw [hb]; rfl⟩ ha (ac_of_wd hf hb hN (h.mono ?_))
  rintro e σ hq
  cases e with
  | normal => obtain ⟨h1, x, h2, h3, h4⟩ := hq; exact ⟨h1, x, h2, x, rfl, h3, h4⟩
  | ret => obtain ⟨h1, x, h2, h3, h4⟩ := hq; exact ⟨h1, x, h2, x, rfl, h3, h4⟩
  | _ => exact hq.elim
end Go.Lg
