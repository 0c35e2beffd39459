/- Ranges over functions: the rules. -/
import Derived.Test.YtlmighkbeacjnaaLgK
set_option linter.unusedVariables false
set_option linter.unusedSimpArgs false
set_option linter.unusedSectionVars false
namespace Go.Lg
open Go

/-- A frame that is a round. -/
def Round : Fb → Prop := fun b => b.kind = .normal ∧ ∃ l, b.round = some l
/-- What a call of a loop's yield comes to. -/
def YC (P : Program) (id : Nat) (args : List AV) (H : Heap) (n : Nat) (R : Bool → Heap → Nat → Prop) : Prop :=
  ∀ K vs, K.next = n → Rel K H → VRs K args vs.toList → ∃ f tmps as bd, (Instr.yield (K.base id) vs).run P K.w = .ok (.round (K.base id) f tmps as bd) K.w ∧
    ∀ c cs, ∃ b K' H', Rel K' H' ∧ Step K H K' H' ∧ R b H' K'.next ∧ Steps P (lone (Frame.round (K.base id) f tmps as bd .normal) (c :: cs) K.w) (lone (c.finish (.bool b)) cs K'.w)
theorem YC.mono {P : Program} {id : Nat} {args : List AV} {H : Heap} {n : Nat} {R R' : Bool → Heap → Nat → Prop} (h : YC P id args H n R) (hr : ∀ b H n, R b H n → R' b H n) : YC P id args H n R' := by
  intro K vs h1 h2 h3
  obtain ⟨f, tmps, as, bd, hy, h⟩ := h K vs h1 h2 h3
  refine ⟨f, tmps, as, bd, hy, fun c cs => ?_⟩
  obtain ⟨b, K', H', g1, g2, g3, g4⟩ := h c cs
  exact ⟨b, K', H', g1, g2, hr _ _ _ g3, g4⟩

/-- Parameters into slots. -/
def setPs (tm : Nat → AV) : List (Tmp × AV) → (Nat → AV)
  | [] => tm
  | (t, x) :: r => setPs (upd tm t x) r
theorem TR.setPs {K : Ctx} {N : Nat} : ∀ (ps : List (Tmp × AV)) (qs : List (Tmp × Value)) (tm : Nat → AV) (tmps : Array Value), TR K N tm tmps → ps.map (·.1) = qs.map (·.1) → VRs K (ps.map (·.2)) (qs.map (·.2)) → (∀ p, p ∈ ps → p.1 < N) →
    TR K N (Lg.setPs tm ps) (qs.foldl (fun tmps p => tmps.setIfInBounds p.1 p.2) tmps)
  | [], [], tm, tmps, h, _, _, _ => h
  | [], _ :: _, _, _, _, e, _, _ => by cases e
  | _ :: _, [], _, _, _, e, _, _ => by cases e
  | (t, x) :: ps, (t', v) :: qs, tm, tmps, h, e, hv, hn => by
    simp only [List.map_cons, List.cons.injEq] at e hv
    obtain ⟨rfl, e⟩ := e
    unfold Lg.setPs
    rw [List.foldl_cons]
    refine TR.setPs ps qs _ _ ?_ e hv.tail (fun p hp => hn p (List.mem_cons_of_mem _ hp))
    have := (TR.put (a := ⟨tmps, []⟩) (d := some t) h (fun s hs => by cases hs; exact hn (t, x) (by simp)) hv.head)
    exact this

def LoopB.st (lb : LoopB) (s : LoopState) (p : Option Code) : LoopB := { lb with state := s, pending := p }
/-- How a round ends. -/
def RQ (id : Nat) (lb : LoopB) (R : Bool → Heap → Nat → Prop) (e : AEx) (σ : St) : Prop :=
  σ.df = [] ∧ σ.h id = some (.loop (lb.st .busy lb.pending)) ∧ match e with
    | .normal => R true (upd σ.h id (some (.loop (lb.st .ready none)))) σ.n
    | .ret => R false (upd σ.h id (some (.loop (lb.st .done (some .ret))))) σ.n
    | .exit i => R false (upd σ.h id (some (.loop (lb.st .done (some (.exit i)))))) σ.n
    | _ => False
theorem loop_put {K : Ctx} {H : Heap} (hr : Rel K H) {id : Nat} {lb : LoopB} (hH : H id = some (.loop lb)) :
    ∃ r : Loop, K.w.heap[K.base id]? = some (.loop r) ∧ r.state = lb.state ∧ r.pending = lb.pending ∧ r.params = lb.params ∧ r.assign = lb.assign ∧ r.body = lb.body ∧ TR K lb.N lb.tm r.tmps ∧
      ∀ s p, Rel (K.at_ (K.w.putObj (K.base id) (.loop { r with state := s, pending := p }))) (upd H id (some (.loop (lb.st s p)))) ∧ Step K H (K.at_ (K.w.putObj (K.base id) (.loop { r with state := s, pending := p }))) (upd H id (some (.loop (lb.st s p)))) ∧
        Ext K (K.at_ (K.w.putObj (K.base id) (.loop { r with state := s, pending := p }))) := by
  have hid : H id ≠ none := by rw [hH]; simp
  obtain ⟨fn, tmps, defers, ha, ht⟩ := hr.br id _ hH
  refine ⟨_, ha, rfl, rfl, rfl, rfl, rfl, ht, fun s p => ?_⟩
  have hw := wrote_put K.w (K.base id) (.loop { state := s, pending := p, fn, tmps, params := lb.params, assign := lb.assign, body := lb.body, defers })
  have hE := wrote_ext hr hid hw
  obtain ⟨k1, k2⟩ := wrote_ok (b := .loop (lb.st s p)) hr hid hw ⟨fn, tmps, defers, World.putObj_heap_same (Array.getElem?_eq_some_iff.1 ha).1, ht.mono hE⟩
  exact ⟨k1, k2, hE⟩
/-- A round, by its code. -/
theorem yc_of_w {P : Program} {id : Nat} {args : List AV} {H : Heap} {n : Nat} {R : Bool → Heap → Nat → Prop} {lb : LoopB} (hH : H id = some (.loop lb)) (hs : lb.state = .ready) (ha : args.length = lb.params.size) (hp : ∀ t, t ∈ lb.params.toList → t < lb.N)
    (h : W P Round lb.N n lb.assign (fun e σ => e = .normal ∧ σ.df = [] ∧ σ.h id = some (.loop lb) ∧ W P Round lb.N n lb.body (RQ id lb R) ⟨σ.tm, upd σ.h id (some (.loop (lb.st .busy lb.pending))), σ.n, []⟩) ⟨setPs lb.tm (lb.params.toList.zip args), H, n, []⟩) : YC P id args H n R := by
  intro K vs hn hr hvs
  subst hn
  obtain ⟨r, g1, g2, g3, g4, g5, g6, g7, _⟩ := loop_put hr hH
  have hvl : vs.size = r.params.size := by rw [g4, ← ha]; simpa using hvs.1
  refine ⟨r.fn, _, r.assign, r.body, run_yield g1 hvl, fun c cs => ?_⟩
  let b : Fb := ⟨r.fn, .normal, some (K.base id), []⟩
  let a : Act := ⟨(r.params.zip vs).foldl (fun tmps (x : Tmp × Value) => tmps.setIfInBounds x.1 x.2) r.tmps, []⟩
  have htr : TR K lb.N (setPs lb.tm (lb.params.toList.zip args)) a.tmps := by
    have hz : (r.params.zip vs).toList = lb.params.toList.zip vs.toList := by rw [← g4]; simp
    have := TR.setPs (lb.params.toList.zip args) (lb.params.toList.zip vs.toList) _ _ g7 (by
      rw [List.map_fst_zip (by simp [ha]), List.map_fst_zip (by rw [hvs.1, ha]; simp)]) (by
      rw [List.map_snd_zip (by rw [ha]; simp), List.map_snd_zip (by rw [hvs.1, ha]; simp)]; exact hvs) (fun p hp' => hp _ (List.of_mem_zip (a := p.1) (b := p.2) hp').1)
    show TR K lb.N _ ((r.params.zip vs).foldl _ r.tmps)
    rw [← Array.foldl_toList, hz]
    exact this
  have hsr : SR K lb.N ⟨setPs lb.tm (lb.params.toList.zip args), H, K.next, []⟩ a := ⟨rfl, hr, htr, rfl⟩
  obtain ⟨e, a1, w1, ⟨K1, σ1, e1, rfl, hs1, hst1, he1, rfl, hd1, hl1, hbody⟩, harr⟩ := h K a (Nat.le_refl _) hsr b ⟨rfl, _, rfl⟩ [.beginRound, .code r.body] (c :: cs)
  rw [g5] at *
  cases he1
  have hbase1 : K1.base id = K.base id := (hst1.mu id (hr.lt id (by rw [hH]; simp))).1
  obtain ⟨r1, k1, k2, k3, k4, k5, k6, k7, k8⟩ := loop_put hs1.rel hl1
  have hbegin : step P (lone (b.fr a1 [.beginRound, .code r.body]) (c :: cs) K1.w) = .next (lone (b.fr a1 [.code r.body]) (c :: cs) (K1.w.putObj (K1.base id) (.loop { r1 with state := .busy }))) := by
    have := st_beginRound (P := P) (b := b) (a := a1) (k := [.code r.body]) (cs := c :: cs) (w := K1.w) (l := K.base id) (r := r1) rfl (by rw [← hbase1]; exact k1) (k2.trans hs)
    rw [hbase1]; exact this
  obtain ⟨q1, q2, q3⟩ := k8 .busy lb.pending
  have hpend : ({ r1 with state := .busy, pending := lb.pending } : Loop) = { r1 with state := .busy } := by rw [← k3]
  rw [hpend] at q1 q2 q3
  have hdef : a1.defers = [] := by have := hs1.dr; rw [hd1] at this; exact this
  have hsr2 : SR (K1.at_ (K1.w.putObj (K1.base id) (.loop { r1 with state := .busy }))) lb.N ⟨σ1.tm, upd σ1.h id (some (.loop (lb.st .busy lb.pending))), σ1.n, []⟩ a1 := ⟨hs1.next, q1, hs1.tr.mono q3, hdef⟩
  obtain ⟨e2, a2, w2, ⟨K2, σ2, e2', rfl, hs2, hst2, he2, hd2, hl2, hR⟩, harr2⟩ := hbody (K1.at_ (K1.w.putObj (K1.base id) (.loop { r1 with state := .busy }))) a1 hst1.next' hsr2 b ⟨rfl, _, rfl⟩ [] (c :: cs)
  have hK12 : StM K.next K H K2 σ2.h := (hst1.trans (q2.stm hst1.next')).trans hst2
  have hbase2 : K2.base id = K.base id := (hK12.mu id (hr.lt id (by rw [hH]; simp))).1
  obtain ⟨r2, p1, p2, p3, p4, p5, p6, p7, p8⟩ := loop_put hs2.rel hl2
  have p1' : K2.w.heap[K.base id]? = some (.loop r2) := by rw [← hbase2]; exact p1
  have hpre : Steps P (lone (Frame.round (K.base id) r.fn a.tmps lb.assign r.body .normal) (c :: cs) K.w) (lone (b.fr a1 [.code r.body]) (c :: cs) (K1.w.putObj (K1.base id) (.loop { r1 with state := .busy }))) :=
    Steps.trans (show Steps P (lone (b.fr a [.code lb.assign, .beginRound, .code r.body]) (c :: cs) K.w) _ from harr) (.one hbegin)
  have fin : ∀ (bb : Bool) (s : LoopState) (p : Option Code), R bb (upd σ2.h id (some (.loop (lb.st s p)))) σ2.n → Steps P (lone (b.fr a1 [.code r.body]) (c :: cs) (K1.w.putObj (K1.base id) (.loop { r1 with state := .busy }))) (lone (c.finish (.bool bb)) cs (K2.w.putObj (K.base id) (.loop { r2 with state := s, pending := p }))) →
      ∃ bb K' H', Rel K' H' ∧ Step K H K' H' ∧ R bb H' K'.next ∧ Steps P (lone (Frame.round (K.base id) r.fn a.tmps lb.assign r.body .normal) (c :: cs) K.w) (lone (c.finish (.bool bb)) cs K'.w) := by
    intro bb s p hRb hsteps
    obtain ⟨z1, z2, _⟩ := p8 s p
    refine ⟨bb, _, _, z1, (hK12.trans (z2.stm hK12.next')).step, ?_, hpre.trans ?_⟩
    · have hn2 : K2.next = σ2.n := hs2.next
      show R bb _ K2.next
      rw [hn2]; exact hRb
    · rw [← hbase2] at hsteps; exact hsteps
  rw [g6] at *
  cases he2 with
  | normal => exact fin true _ _ hR (Steps.trans harr2 (.one (st_round_end (b := b) rfl rfl p1')))
  | ret => obtain ⟨k', harr2⟩ := harr2; exact fin false _ _ hR (Steps.trans harr2 (.one (st_round_ret (b := b) rfl rfl p1')))
  | exit i => obtain ⟨k', hx, harr2⟩ := harr2; exact fin false _ _ hR (Steps.trans harr2 (.one (st_round_exit (b := b) rfl rfl (by rw [hx]; rfl) p1')))
  | goto i => exact hR.elim
  | panic => exact hR.elim
end Go.Lg
