/- Canonical states: slots and own memory as lists, ids given anew; loops; functions that only compute, from id 0 on. -/
import Derived.Test.YtlmighkbeacjnaaLgD
set_option linter.unusedVariables false
set_option linter.unusedSimpArgs false
set_option linter.unusedSectionVars false
namespace Go.Lg
open Go

/-- The ids named anew: the new id 'i' is the old id 'r[i]'. -/
def Ctx.ren (K : Ctx) (r : List Nat) : Ctx :=
  { K with base := fun i => K.base (r.getD i i), boff := fun i => K.boff (r.getD i i), bsz := fun i => K.bsz (r.getD i i), next := r.length }
def SubR (r : List Nat) (x y : AV) : Prop := ∀ K v, VR K x v → VR (K.ren r) y v
inductive SubRs (r : List Nat) : List AV → List AV → Prop
  | nil : SubRs r [] []
  | cons {x y : AV} {xs ys : List AV} (h : SubR r x y) (hs : SubRs r xs ys) : SubRs r (x :: xs) (y :: ys)
section subr
variable {r : List Nat}
theorem SubR.any (x : AV) : SubR r x .any := fun _ v _ => .any v
theorem SubR.pur {x : AV} (h : Pur x) : SubR r x x := fun K _ hv => VR.pur (K := K) (K' := K.ren r) (fun _ h => h) (fun _ _ => rfl) hv h
theorem SubR.subs {x y z : AV} (h : Sub x y) (h' : SubR r y z) : SubR r x z := fun K v hv => h' K v (h K v hv)
theorem SubR.ptr {i j off : Nat} (h : r[i]? = some j) : SubR r (.ptr j off) (.ptr i off) := fun K v hv => by
  obtain ⟨rfl, _⟩ := hv.ptr_inv
  have hi := (List.getElem?_eq_some_iff.1 h).1
  have e : r.getD i i = j := by simp [h]
  have := VR.ptr (K := K.ren r) (id := i) (off := off) hi
  simpa [Ctx.ren, h] using this
theorem SubR.slice {i j off len : Nat} {cap cap' : Option Nat} {sz : Nat} (h : r[i]? = some j) (hc : cap' = cap ∨ cap' = none) : SubR r (.slice j off len cap sz) (.slice i off len cap' sz) := fun K v hv => by
  have hi := (List.getElem?_eq_some_iff.1 h).1
  have e : r.getD i i = j := by simp [h]
  cases hv with
  | @slice _ _ _ _ _ o c hid ho hcc hl hcap =>
    have h2 : VR (K.ren r) (.slice i off len cap' sz) (.slice (some ⟨(K.ren r).base i, o, none⟩) len c) := .slice (K := K.ren r) hi (by simpa [Ctx.ren, h] using ho) (by simpa [Ctx.ren, h] using hcc) hl (fun c0 h0 => by
      rcases hc with rfl | rfl
      · exact hcap c0 h0
      · cases h0)
    simpa [Ctx.ren, h] using h2
theorem SubR.mapv {i j : Nat} (h : r[i]? = some j) : SubR r (.map j) (.map i) := fun K v hv => by
  have hi := (List.getElem?_eq_some_iff.1 h).1
  have e : r.getD i i = j := by simp [h]
  cases hv with
  | map hid =>
    have := VR.map (K := K.ren r) (id := i) hi
    simpa [Ctx.ren, h] using this
theorem SubRs.VRs {xs ys : List AV} (h : SubRs r xs ys) {K : Ctx} : ∀ {vs : List Value}, Lg.VRs K xs vs → Lg.VRs (K.ren r) ys vs := by
  induction h with
  | nil => exact fun h => ⟨h.1, by simp⟩
  | cons h hs ih =>
    intro vs hv
    cases vs with
    | nil => have := hv.1; simp at this
    | cons v vs => exact .cons (h K v hv.head) (ih hv.tail)
theorem SubR.agg {xs ys : List AV} (h : SubRs r xs ys) : SubR r (.agg xs) (.agg ys) := fun K v hv => by
  obtain ⟨vs, rfl, hvs⟩ := hv.agg_inv
  exact VR.agg_.2 (h.VRs hvs)
theorem SubR.func {fn : Fn} {xs ys as bs : List AV} (h : SubRs r xs ys) (h' : SubRs r as bs) : SubR r (.func fn xs as) (.func fn ys bs) := fun K v hv => by
  cases hv with
  | @func _ _ _ fs cs hn h1 h2 hf hc =>
    have g1 : VRs K xs fs.toList := VR.agg_.1 (.agg h1 hf)
    have g2 : VRs K as cs.toList := VR.agg_.1 (.agg h2 hc)
    exact VRs.func hn (h.VRs g1) (h'.VRs g2)
end subr

/-- Own memory as a list. -/
def hl (l : List (Option Blk)) : Heap := fun i => l.getD i none
theorem hl_nil (i : Nat) : hl [] i = none := rfl
theorem hl_zero (b : Option Blk) (l : List (Option Blk)) : hl (b :: l) 0 = b := rfl
theorem hl_succ (b : Option Blk) (l : List (Option Blk)) (i : Nat) : hl (b :: l) (i + 1) = hl l i := rfl
inductive SubB (r : List Nat) : Blk → Blk → Prop
  | cells {xs ys : List AV} {e : TypeId} (h : SubRs r xs ys) : SubB r (.cells xs e) (.cells ys e)
  | deferred : SubB r .deferred .deferred
  | loop {l : LoopB} {tm : Nat → AV} (h : ∀ t, SubR r (l.tm t) (tm t)) : SubB r (.loop l) (.loop { l with tm })
theorem SubRs.get {r : List Nat} {xs ys : List AV} (h : SubRs r xs ys) : xs.length = ys.length ∧ ∀ (i : Nat) y, ys[i]? = some y → ∃ x, xs[i]? = some x ∧ SubR r x y := by
  induction h with
  | nil => exact ⟨rfl, by simp⟩
  | cons h hs ih =>
    refine ⟨by simp [ih.1], fun i y hy => ?_⟩
    cases i with
    | zero => simp at hy; subst hy; exact ⟨_, rfl, h⟩
    | succ i => simp at hy ⊢; exact ih.2 i y hy
def fitsR (r : List Nat) (tm : Nat → AV) : Nat → List AV → Prop
  | _, [] => True
  | k, x :: l => SubR r (tm k) x ∧ fitsR r tm (k + 1) l
def fitsH (r : List Nat) (H : Heap) : Nat → List (Option Blk) → Prop
  | _, [] => True
  | k, none :: l => fitsH r H (k + 1) l
  | k, some b :: l => (∃ j b0, r[k]? = some j ∧ H j = some b0 ∧ SubB r b0 b) ∧ fitsH r H (k + 1) l
theorem fitsR_get {r : List Nat} {tm : Nat → AV} : ∀ {l : List AV} {k : Nat}, fitsR r tm k l → ∀ (i : Nat) x, l[i]? = some x → SubR r (tm (k + i)) x
  | y :: l, k, h, 0, x, hx => by simp at hx; subst hx; exact h.1
  | y :: l, k, h, i + 1, x, hx => by have := fitsR_get h.2 i x (by simpa using hx); rwa [show k + 1 + i = k + (i + 1) from by omega] at this
theorem fitsH_get {r : List Nat} {H : Heap} : ∀ {l : List (Option Blk)} {k : Nat}, fitsH r H k l → ∀ (i : Nat) b, l[i]? = some (some b) → ∃ j b0, r[k + i]? = some j ∧ H j = some b0 ∧ SubB r b0 b
  | none :: l, k, h, 0, b, hx => by simp at hx
  | some c :: l, k, h, 0, b, hx => by simp at hx; subst hx; exact h.1
  | none :: l, k, h, i + 1, b, hx => by have := fitsH_get (k := k + 1) h i b (by simpa using hx); rwa [show k + 1 + i = k + (i + 1) from by omega] at this
  | some c :: l, k, h, i + 1, b, hx => by have := fitsH_get h.2 i b (by simpa using hx); rwa [show k + 1 + i = k + (i + 1) from by omega] at this

/-- The state can be told as these lists. -/
structure Canon (N m : Nat) (σ : St) (l : List AV) (hs : List (Option Blk)) (df : List Nat) : Prop where
  len : l.length = N
  fit : ∃ r : List Nat, r.length = hs.length ∧ r.Nodup ∧ m ≤ r.length ∧ (∀ i, i < m → r[i]? = some i) ∧ fitsR r σ.tm 0 l ∧ fitsH r σ.h 0 hs ∧ df.map (fun i => r[i]?) = σ.df.map some
def St.of (l : List AV) (hs : List (Option Blk)) (df : List Nat) : St := ⟨args0 l, hl hs, hs.length, df⟩
theorem DR.ren {K : Ctx} {H H' : Heap} {r : List Nat} : ∀ {df df0 : List Nat} {ds : List Deferred}, df.map (fun i => r[i]?) = df0.map some → DR K H df0 ds → DR (K.ren r) H' df ds
  | [], [], _, _, h => h
  | [], _ :: _, _, e, _ => by cases e
  | _ :: _, [], _, e, _ => by cases e
  | i :: df, j :: df0, ds, e, h => by
    simp only [List.map_cons, List.cons.injEq] at e
    obtain ⟨ds', h1, h2, h3⟩ := h
    refine ⟨ds', ?_, (List.getElem?_eq_some_iff.1 e.1).1, DR.ren e.2 h3⟩
    rw [h1]; simp [Ctx.ren, e.1]
theorem hl_ne {hs : List (Option Blk)} {i : Nat} {b : Blk} : hl hs i = some b ↔ hs[i]? = some (some b) := by
  unfold hl
  rw [List.getD_eq_getElem?_getD]
  cases hs[i]? with
  | none => simp
  | some c => simp
theorem Canon.ok {N m : Nat} {σ : St} {l : List AV} {hs : List (Option Blk)} {df : List Nat} (h : Canon N m σ l hs df) : ∀ K a, m ≤ K.next → SR K N σ a → ∃ K1, K1.w = K.w ∧ SR K1 N (St.of l hs df) a ∧ StM m K σ.h K1 (St.of l hs df).h := by
  intro K a hm hsr
  obtain ⟨r, hrl, hnd, hmr, hid, hf, hh, hdf⟩ := h.fit
  have key : ∀ i, hl hs i ≠ none → ∃ j b0 b, hl hs i = some b ∧ r[i]? = some j ∧ r.getD i i = j ∧ σ.h j = some b0 ∧ SubB r b0 b := by
    intro i hi
    cases hb : hl hs i with
    | none => exact absurd hb hi
    | some b =>
      obtain ⟨j, b0, h1, h2, h3⟩ := fitsH_get hh i b (hl_ne.1 hb)
      rw [Nat.zero_add] at h1
      exact ⟨j, b0, b, rfl, h1, by simp [h1], h2, h3⟩
  have hrel : Rel (K.ren r) (hl hs) := by
    refine ⟨fun i hi => ?_, fun i hi => ?_, fun i b hb => ?_, fun i j hi hj e => ?_, hsr.rel.ros⟩
    · obtain ⟨j, b0, b, _, h1, _⟩ := key i hi; exact (List.getElem?_eq_some_iff.1 h1).1
    · obtain ⟨j, b0, b, _, h1, h2, h3, _⟩ := key i hi
      show ¬ K.ro (K.base (r.getD i i))
      rw [h2]; exact hsr.rel.nro j (by rw [h3]; simp)
    · obtain ⟨j, b0, b', hb', h1, h2, h3, h4⟩ := key i (by rw [hb]; simp)
      rw [hb] at hb'; cases hb'
      cases h4 with
      | @cells xs ys e hxy =>
        obtain ⟨arr, fr, ha, ht, hz, hlen, hv⟩ := hsr.rel.br j _ h3
        obtain ⟨g1, g2⟩ := hxy.get
        refine ⟨arr, fr, ?_, ht, ?_, ?_, fun k y hy => ?_⟩
        · show K.w.heap[K.base (r.getD i i)]? = _; rw [h2]; exact ha
        · show arr.size = K.bsz (r.getD i i); rw [h2]; exact hz
        · show K.boff (r.getD i i) + ys.length ≤ arr.size; rw [h2, ← g1]; exact hlen
        · obtain ⟨x, hx, hxy'⟩ := g2 k y hy
          obtain ⟨v, hv1, hv2⟩ := hv k x hx
          exact ⟨v, by show arr[K.boff (r.getD i i) + k]? = _; rw [h2]; exact hv1, hxy' K v hv2⟩
      | deferred =>
        have := hsr.rel.br j _ h3
        show K.w.heap[K.base (r.getD i i)]? = _
        rw [h2]; exact this
      | @loop l tm hxy =>
        obtain ⟨fn, tmps, defers, ha, ht⟩ := hsr.rel.br j _ h3
        refine ⟨fn, tmps, defers, ?_, ht.1, fun t => hxy t K _ (ht.2 t)⟩
        show K.w.heap[K.base (r.getD i i)]? = _
        rw [h2]; exact ha
    · obtain ⟨i', b0, b, _, h1, h2, h3, _⟩ := key i hi
      obtain ⟨j', c0, c, _, g1, g2, g3, _⟩ := key j hj
      have e : K.base (r.getD i i) = K.base (r.getD j j) := e
      rw [h2, g2] at e
      have := hsr.rel.inj i' j' (by rw [h3]; simp) (by rw [g3]; simp) e
      subst this
      obtain ⟨hi', e1⟩ := List.getElem?_eq_some_iff.1 h1
      obtain ⟨hj', e2⟩ := List.getElem?_eq_some_iff.1 g1
      exact (List.getElem_inj hnd (h₀ := hi') (h₁ := hj')).1 (e1.trans e2.symm)
  refine ⟨K.ren r, rfl, ⟨hrl, hrel, ⟨hsr.tr.1, fun t => ?_⟩, ?_⟩, ⟨hm, hmr, fun i hi => ?_, fun _ h => h, Nat.le_refl _, fun _ _ _ => rfl, fun b hb => ?_, fun b hb => .inl hb, rfl, rfl, rfl⟩⟩
  · show VR _ (args0 l t) _
    by_cases ht : t < N
    · have hx : l[t]? = some (l[t]'(by rw [h.len]; exact ht)) := List.getElem?_eq_getElem _
      have h1 := fitsR_get hf t _ hx
      rw [Nat.zero_add] at h1
      have h2 := h1 K _ (hsr.tr.2 t)
      simpa [args0, hx] using h2
    · have hx : l[t]? = none := List.getElem?_eq_none (by rw [h.len]; omega)
      have h2 : a.tmps.getD t undef = undef := by
        rw [Array.getD_eq_getD_getElem?, Array.getElem?_eq_none (by rw [hsr.tr.1]; omega)]; rfl
      simp only [args0, List.getD_eq_getElem?_getD, hx, Option.getD_none, h2]
      exact VR.undef_ _
  · exact DR.ren hdf hsr.dr
  · have := hid i hi
    simp [Ctx.ren, this]
  · obtain ⟨i, hi, rfl⟩ := hb
    obtain ⟨j, b0, b, _, h1, h2, h3, _⟩ := key i hi
    exact .inl ⟨j, by rw [h3]; simp, by show K.base j = K.base (r.getD i i); rw [h2]⟩

section
variable {P : Program} {B : Fb → Prop} {N m : Nat} {Q : AEx → St → Prop} {σ : St}
/-- A point where the state is told anew. -/
theorem w_cut {c : Code} (l : List AV) (hs : List (Option Blk)) (df : List Nat) (hc : Canon N m σ l hs df) (h : W P B N m c Q (St.of l hs df)) : W P B N m c Q σ := W.ghostM hc.ok h
theorem wl_cut {all rest : List Oper} (l : List AV) (hs : List (Option Blk)) (df : List Nat) (hc : Canon N m σ l hs df) (h : WL P B N m all rest Q (St.of l hs df)) : WL P B N m all rest Q σ := wl_ghostM hc.ok h
/-- A loop over data 's', with a measure. -/
theorem w_loopA {S : Type} {c : Code} (L : S → List AV) (Hs : S → List (Option Blk)) (df : List Nat) (Inv : S → Prop) (meas : S → Nat) (s0 : S) (h0 : Canon N m σ (L s0) (Hs s0) df) (hi : Inv s0)
    (round : ∀ s, Inv s → W P B N m c (AEx.go (fun σ' => ∃ s', meas s' < meas s ∧ Inv s' ∧ Canon N m σ' (L s') (Hs s') df) Q) (St.of (L s) (Hs s) df)) : W P B N m (.loop c) Q σ := by
  refine w_loop (fun n σ => ∃ s, meas s = n ∧ Inv s ∧ Canon N m σ (L s) (Hs s) df) (meas s0) ⟨s0, rfl, hi, h0⟩ ?_
  rintro n σ' ⟨s, rfl, his, hc⟩
  refine W.ghostM hc.ok ((round s his).mono ?_)
  intro e σ2 hq
  cases e with
  | normal => obtain ⟨s', h1, h2, h3⟩ := hq; exact ⟨meas s', h1, s', rfl, h2, h3⟩
  | _ => exact hq
end

/-- A function that only computes, by its body, the ids from 0 on. -/
theorem pf_of_w0 {P : Program} {f : FuncId} {fn : Func} {c : Code} {args : List AV} {X : AV → Prop} (hf : P.funcs[f]? = some fn) (hb : fn.body = some c) (hn : (fn.name == "runtime.NumGoroutine") = false) (hN : args.length ≤ fn.ntmps) (ha : ∀ x, x ∈ args → Pur x)
    (h : W P Plain fn.ntmps 0 c (DoneP P fn X) ⟨args0 args, hl [], 0, []⟩) : PF P f args X := by
  refine ⟨⟨fn, hf, hn, by rw [hb]; rfl⟩, fun n => ?_⟩
  have h0 : AC P f args (hl []) 0 fun r _ _ => ∃ x, r = .ret x ∧ Pur x ∧ X x := ac_of_w hf hb hN (h.mono (by
    rintro e σ hq
    cases e with
    | normal => obtain ⟨h1, x, h2, h3, h4⟩ := hq; exact ⟨h1, x, h2, x, rfl, h3, h4⟩
    | ret => obtain ⟨h1, x, h2, h3, h4⟩ := hq; exact ⟨h1, x, h2, x, rfl, h3, h4⟩
    | _ => exact hq.elim))
  intro K vs hn hr hv
  have hv0 : VRs (K.cut 0) args vs.toList := ⟨hv.1, fun i x v hx hu => VR.pur (K := K) (K' := K.cut 0) (fun _ h => h) (fun _ _ => rfl) (hv.2 i x v hx hu) (ha x (List.mem_of_getElem? hx))⟩
  have hr0 : Rel (K.cut 0) (hl []) := ⟨fun _ h => absurd rfl h, fun _ h => absurd rfl h, fun _ _ h => by simp [hl] at h, fun _ _ h => absurd rfl h, hr.ros⟩
  refine (h0 (K.cut 0) vs rfl hr0 hv0).mono ?_
  rintro e w' ⟨K', H1, r, rfl, hr', hst, hrr, x, rfl, hp, hX⟩
  let K2 : Ctx := { base := K.base, boff := K.boff, bsz := K.bsz, next := K.next, ro := K'.ro, w := K'.w }
  have hsame : ∀ b, b < K.w.heap.size → K'.w.heap[b]? = K.w.heap[b]? := fun b hb => hst.same b hb (fun ⟨id, h1, _⟩ => h1 rfl)
  refine ⟨K2, noHeap, .ret x, rfl, ⟨fun _ h => absurd rfl h, fun _ h => absurd rfl h, fun _ _ h => by simp [noHeap] at h, fun _ _ h => absurd rfl h, hr'.ros⟩, ⟨Nat.le_refl _, fun _ _ => ⟨rfl, rfl, rfl⟩, hst.ro, hst.size, fun b hb _ => hsame b hb, fun b ⟨_, h, _⟩ => absurd rfl h, fun b hb => ?_, hst.os, hst.tape, hst.output⟩, ?_, x, rfl, hp, hX⟩
  · rcases hst.ro' b hb with h1 | ⟨id, h1, _⟩ | h1
    · exact .inl h1
    · exact absurd rfl h1
    · exact .inr (.inr h1)
  · cases hrr with
    | ret hv => exact .ret (VR.pur (K := K') (K' := K2) (fun _ h => h) (fun _ _ => rfl) hv hp)
end Go.Lg
