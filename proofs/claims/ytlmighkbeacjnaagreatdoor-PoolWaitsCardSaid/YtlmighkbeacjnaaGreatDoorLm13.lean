/- Calls whose answers are told frozen: what they leave of own memory is forgotten. States compared. -/
import Derived.Test.YtlmighkbeacjnaaGreatDoorLm12
import Derived.Test.YtlmighkbeacjnaaGreatDoorLm6
import Derived.Test.YtlmighkbeacjnaaGreatDoorLm5

set_option linter.unusedSimpArgs false
set_option linter.unusedSectionVars false
namespace Go.Lg
open Go
variable [GO]
set_option linter.unusedVariables false
/-! the ids of a value -/
inductive Lo (m : Nat) : AV → Prop
  | bool (b : Bool) : Lo m (.bool b)
  | int (k : IntKind) (n : Int) : Lo m (.int k n)
  | str (s : List UInt8) : Lo m (.str s)
  | view {rows : List (List AV)} (h : ∀ (i j : Nat) r x, rows[i]? = some r → r[j]? = some x → j < r.length → Lo m x) : Lo m (.view rows)
  | empty : Lo m .empty
  | vptr {cells : List AV} (h : ∀ (i : Nat) x, cells[i]? = some x → Lo m x) : Lo m (.vptr cells)
  | ptr {id off : Nat} (h : id < m) : Lo m (.ptr id off)
  | nilptr : Lo m .nilptr
  | slice {id off len : Nat} {cap : Option Nat} {sz : Nat} (h : id < m) : Lo m (.slice id off len cap sz)
  | map {id : Nat} (h : id < m) : Lo m (.map id)
  | func {fn : Fn} {a b : List AV} (h1 : ∀ (i : Nat) x, a[i]? = some x → Lo m x) (h2 : ∀ (i : Nat) x, b[i]? = some x → Lo m x) : Lo m (.func fn a b)
  | yieldf {id : Nat} (h : id < m) : Lo m (.yieldf id)
  | nilFunc : Lo m .nilFunc
  | iface {t : TypeId} {x : AV} (h : Lo m x) : Lo m (.iface t x)
  | nilIface : Lo m .nilIface
  | agg {cs : List AV} (h : ∀ (i : Nat) x, cs[i]? = some x → Lo m x) : Lo m (.agg cs)
  | tuple {cs : List AV} (h : ∀ (i : Nat) x, cs[i]? = some x → Lo m x) : Lo m (.tuple cs)
  | any : Lo m .any
theorem lo_of_VR {K : Ctx} {x : AV} {v : Value} (h : VR K x v) : Lo K.next x := by
  induction h with
  | bool b => exact .bool b
  | int k n => exact .int k n
  | str s => exact .str _
  | view f hc hl ha hv ih => exact .view fun i j r x h1 h2 _ => ih i j r x h1 h2
  | empty a => exact .empty
  | vptr f hr hc hv ih => exact .vptr fun i x h => ih i x h
  | ptr h => exact .ptr h
  | nilptr => exact .nilptr
  | slice h ho hc hl hcap => exact .slice h
  | map h => exact .map h
  | func hn h1 h2 hf hc ih1 ih2 => exact .func (fun i x h => ih1 i x h) (fun i x h => ih2 i x h)
  | yieldf h => exact .yieldf h
  | nilFunc => exact .nilFunc
  | iface h ih => exact .iface ih
  | nilIface => exact .nilIface
  | agg h1 h ih => exact .agg fun i x h => ih i x h
  | tuple h1 h ih => exact .tuple fun i x h => ih i x h
  | any v => exact .any
/-- The same world with fewer ids and more that is only read. -/
theorem VR.low {K K2 : Ctx} (hb : ∀ id, id < K2.next → K2.base id = K.base id ∧ K2.boff id = K.boff id ∧ K2.bsz id = K.bsz id) (hw : K2.w = K.w) (hro : ∀ b, K.ro b → K2.ro b) {x : AV} {v : Value} (h : VR K x v) (hx : Lo K2.next x) : VR K2 x v := by
  induction h with
  | bool b => exact .bool b
  | int k n => exact .int k n
  | str s => exact .str s
  | @view rows a c esz f hc hl ha hv ih =>
    cases hx with
    | view hlo =>
      refine .view f hc hl (fun hp => ?_) (fun i j r x h1 h2 => ih i j r x h1 h2 (hlo i j r x h1 h2 (List.getElem?_eq_some_iff.1 h2).1))
      obtain ⟨blk, off, rfl, hr, hcell⟩ := ha hp
      exact ⟨blk, off, rfl, hro _ hr, fun i j hi hj => by rw [hw]; exact hcell i j hi hj⟩
  | empty a => exact .empty a
  | @vptr cells blk off f hr hc hv ih =>
    cases hx with
    | vptr hlo => exact .vptr f (hro _ hr) (fun j hj => by rw [hw]; exact hc j hj) (fun j x h => ih j x h (hlo j x h))
  | @ptr id off h =>
    cases hx with
    | ptr hlo => obtain ⟨h1, h2, h3⟩ := hb id hlo; rw [← h1, ← h2]; exact .ptr hlo
  | nilptr => exact .nilptr
  | @slice id off len cap sz o c h ho hc hl hcap =>
    cases hx with
    | slice hlo =>
      obtain ⟨h1, h2, h3⟩ := hb id hlo
      rw [← h1]
      exact .slice hlo (by rw [h2]; exact ho) (by rw [h3]; exact hc) hl hcap
  | @map id h =>
    cases hx with
    | map hlo => obtain ⟨h1, _⟩ := hb id hlo; rw [← h1]; exact .map hlo
  | func hn h1 h2 _ _ ih1 ih2 =>
    cases hx with
    | func p1 p2 => exact .func hn h1 h2 (fun i x h => ih1 i x h (p1 i x h)) (fun i x h => ih2 i x h (p2 i x h))
  | @yieldf id h =>
    cases hx with
    | yieldf hlo => obtain ⟨h1, _⟩ := hb id hlo; rw [← h1]; exact .yieldf hlo
  | nilFunc => exact .nilFunc
  | iface _ ih =>
    cases hx with
    | iface p => exact .iface (ih p)
  | nilIface => exact .nilIface
  | agg h1 _ ih =>
    cases hx with
    | agg p => exact .agg h1 (fun i x h => ih i x h (p i x h))
  | tuple h1 _ ih =>
    cases hx with
    | tuple p => exact .tuple h1 (fun i x h => ih i x h (p i x h))
  | any v => exact .any v
theorem BR.low {K0 K K2 : Ctx} (hb : ∀ id, id < K2.next → K2.base id = K.base id ∧ K2.boff id = K.boff id ∧ K2.bsz id = K.bsz id) (hw : K2.w = K.w) (hro : ∀ b, K.ro b → K2.ro b) (hn : K0.next = K2.next) {id : Nat} (hid : id < K2.next) {b : Blk} (h0 : BR K0 id b) (h : BR K id b) : BR K2 id b := by
  obtain ⟨e1, e2, e3⟩ := hb id hid
  have key : ∀ {x : AV} {v0 v : Value}, VR K0 x v0 → VR K x v → VR K2 x v := fun p q => VR.low hb hw hro q (hn ▸ lo_of_VR p)
  cases b with
  | cells cs e =>
    obtain ⟨arr0, fr0, _, _, _, _, hv0⟩ := h0
    obtain ⟨arr, fr, ha, ht, hz, hl, hv⟩ := h
    refine ⟨arr, fr, by rw [e1, hw]; exact ha, ht, by rw [e3]; exact hz, by rw [e2]; exact hl, fun j x hx => ?_⟩
    obtain ⟨v, hv1, hv2⟩ := hv j x hx
    obtain ⟨v0, _, hv02⟩ := hv0 j x hx
    exact ⟨v, by rw [e2]; exact hv1, key hv02 hv2⟩
  | map es =>
    obtain ⟨arr0, clock0, _, _, hv0⟩ := h0
    obtain ⟨arr, clock, ha, hz, hv⟩ := h
    refine ⟨arr, clock, by rw [e1, hw]; exact ha, hz, fun j p hp => ?_⟩
    obtain ⟨m, hm, hk, hv2⟩ := hv j p hp
    obtain ⟨m0, _, hk0, hv02⟩ := hv0 j p hp
    exact ⟨m, hm, key hk0 hk, key hv02 hv2⟩
  | loop l =>
    obtain ⟨fn0, tmps0, defers0, _, ht0⟩ := h0
    obtain ⟨fn, tmps, defers, ha, ht⟩ := h
    exact ⟨fn, tmps, defers, by rw [e1, hw]; exact ha, ht.1, fun t => key (ht0.2 t) (ht.2 t)⟩
  | deferred => show _ = _; rw [e1, hw]; exact h
  | glob b o => exact ⟨e1.trans h.1, by rw [e1, hw]; exact h.2⟩
def cutH (n : Nat) (H : Heap) : Heap := fun id => if id < n then none else H id
theorem ac_norm {P : Program} {f : FuncId} {args : List AV} {H : Heap} {n : Nat} {y : AV} (hp : Pur y) (h : AC P f args H n fun r H' _ => ∃ x, r = .ret x ∧ Fz (cutH n H') x y ∧ ∀ id, id < n → H' id = H id) : AC P f args H n fun r H' n' => r = .ret y ∧ H' = H ∧ n' = n := by
  intro K vs hn hr hv
  refine (h K vs hn hr hv).mono ?_
  rintro e w' ⟨K', H', r, rfl, hr', hst, hrr, x, rfl, hf, hsame⟩
  have cne : ∀ {id}, cutH n H' id ≠ none → H' id ≠ none ∧ n ≤ id := fun {id} h => by
    unfold cutH at h
    split at h
    · exact absurd rfl h
    · exact ⟨h, by omega⟩
  have hrc : Rel K' (cutH n H') := ⟨fun id h => hr'.lt id (cne h).1, fun id h => hr'.nro id (cne h).1, fun id b h => hr'.br id b (by
    unfold cutH at h
    split at h
    · cases h
    · exact h), fun i j hi hj => hr'.inj i j (cne hi).1 (cne hj).1, hr'.ros⟩
  let K2 : Ctx := { K' with next := n, ro := fun b => K'.ro b ∨ OB K' (cutH n H') b }
  have hlt : ∀ id, H id ≠ none → id < n := fun id h => hn ▸ hr.lt id h
  have hne : ∀ id, H id ≠ none → H' id ≠ none := fun id h => by rw [hsame id (hlt id h)]; exact h
  have hbs : ∀ id, id < n → K'.base id = K.base id := fun id h => (hst.mu id (hn ▸ h)).1
  refine ⟨K2, H, .ret y, rfl, ⟨hlt, fun id h => ?_, fun id b h => ?_, fun i j hi hj e => hr'.inj i j (hne i hi) (hne j hj) e, fun b hb => ?_⟩, ⟨Nat.le_of_eq hn, fun id h => hst.mu id h, fun b h => .inl (hst.ro b h), hst.size, hst.same, fun b hb => ?_, fun b hb => ?_, hst.os, hst.tape, hst.output⟩, ?_, rfl, rfl, rfl⟩
  · rintro (h1 | ⟨j, h1, h2⟩)
    · exact hr'.nro id (hne id h) h1
    · obtain ⟨h3, h4⟩ := cne h1
      have := hr'.inj j id h3 (hne id h) h2
      have := hlt id h
      omega
  · have hid := hlt id (by rw [h]; simp)
    exact BR.low (K0 := K) (K := K') (K2 := K2) (fun _ _ => ⟨rfl, rfl, rfl⟩) rfl (fun _ h => .inl h) hn hid (hr.br id b h) (hr'.br id b (by rw [hsame id hid]; exact h))
  · rcases hb with h1 | ⟨j, h1, h2⟩
    · exact hr'.ros b h1
    · have := hrc.size_lt h1; rw [h2] at this; exact this
  · obtain ⟨id, h1, h2⟩ := hb
    exact .inl ⟨id, h1, by rw [← hbs id (hlt id h1)]; exact h2⟩
  · rcases hb with h1 | ⟨j, h1, h2⟩
    · exact hst.ro' b h1
    · rcases hst.own b ⟨j, (cne h1).1, h2⟩ with h3 | h3
      · exact .inr (.inl h3)
      · exact .inr (.inr h3)
  · cases hrr with
    | ret hv => exact .ret (VR.pur (K := K'.roAll (cutH n H')) (K' := K2) (fun _ h => h) (fun _ _ => rfl) (fz_VR hrc hf _ hv) hp)
/-! by functions -/
section
variable {P : Program} {g : FuncId} {args : List AV} {h : Trie EB} {n : Nat} {y : AV}
end
section
variable {P : Program} {g : FuncId} {args : List AV} {h : Trie EB} {n : Nat} {y : AV}
end
/-! states compared -/
end Go.Lg

/- A call that changes one own block to what tells of no own memory: all that it made is forgotten. -/
set_option linter.unusedVariables false
set_option linter.unusedSimpArgs false
set_option linter.unusedSectionVars false
namespace Go.Lg
open Go
theorem ac_normM [GO] {P : Program} {f : FuncId} {args : List AV} {H : Heap} {n L : Nat} {cs : List AV} {et : TypeId} {y : AV} (hp : Pur y) (hL : H L ≠ none) (hcs : ∀ x, x ∈ cs → Pur x)
    (h : AC P f args H n fun r H' _ => ∃ x, r = .ret x ∧ Fz (cutH n H') x y ∧ H' L = some (.cells cs et) ∧ ∀ id, id < n → id ≠ L → H' id = H id) : AC P f args H n fun r H' n' => r = .ret y ∧ H' = upd H L (some (.cells cs et)) ∧ n' = n := by
  intro K vs hn hr hv
  refine (h K vs hn hr hv).mono ?_
  rintro e w' ⟨K', H', r, rfl, hr', hst, hrr, x, rfl, hf, hnew, hsame⟩
  have cne : ∀ {id}, cutH n H' id ≠ none → H' id ≠ none ∧ n ≤ id := fun {id} h => by
    unfold cutH at h
    split at h
    · exact absurd rfl h
    · exact ⟨h, by omega⟩
  have hrc : Rel K' (cutH n H') := ⟨fun id h => hr'.lt id (cne h).1, fun id h => hr'.nro id (cne h).1, fun id b h => hr'.br id b (by
    unfold cutH at h
    split at h
    · cases h
    · exact h), fun i j hi hj => hr'.inj i j (cne hi).1 (cne hj).1, hr'.ros⟩
  let K2 : Ctx := { K' with next := n, ro := fun b => K'.ro b ∨ OB K' (cutH n H') b }
  have hlt0 : ∀ id, H id ≠ none → id < n := fun id h => hn ▸ hr.lt id h
  have hLn := hlt0 L hL
  have hold : ∀ id, upd H L (some (.cells cs et)) id ≠ none → H id ≠ none := fun id h => by
    by_cases e : id = L
    · subst e; exact hL
    · rwa [upd_ne _ _ e] at h
  have hlt : ∀ id, upd H L (some (.cells cs et)) id ≠ none → id < n := fun id h => hlt0 id (hold id h)
  have hne : ∀ id, upd H L (some (.cells cs et)) id ≠ none → H' id ≠ none := fun id h => by
    by_cases e : id = L
    · subst e; rw [hnew]; simp
    · rw [hsame id (hlt id h) e]; rwa [upd_ne _ _ e] at h
  have hbs : ∀ id, id < n → K'.base id = K.base id := fun id h => (hst.mu id (hn ▸ h)).1
  refine ⟨K2, _, .ret y, rfl, ⟨hlt, fun id h => ?_, fun id b h => ?_, fun i j hi hj e => hr'.inj i j (hne i hi) (hne j hj) e, fun b hb => ?_⟩, ⟨Nat.le_of_eq hn, fun id h => hst.mu id h, fun b h => .inl (hst.ro b h), hst.size, hst.same, fun b hb => ?_, fun b hb => ?_, hst.os, hst.tape, hst.output⟩, ?_, rfl, rfl, rfl⟩
  · rintro (h1 | ⟨j, h1, h2⟩)
    · exact hr'.nro id (hne id h) h1
    · obtain ⟨h3, h4⟩ := cne h1
      have := hr'.inj j id h3 (hne id h) h2
      have := hlt id h
      omega
  · have hid := hlt id (by rw [h]; simp)
    by_cases e : id = L
    · subst e
      rw [upd_same] at h; cases h
      obtain ⟨arr, fr, g1, g2, g3, g4, g5⟩ := hr'.br id _ hnew
      refine ⟨arr, fr, g1, g2, g3, g4, fun j x hx => ?_⟩
      obtain ⟨v, h1, h2⟩ := g5 j x hx
      exact ⟨v, h1, VR.pur (K := K') (K' := K2) (fun _ h => .inl h) (fun _ _ => rfl) h2 (hcs x (List.mem_of_getElem? hx))⟩
    · rw [upd_ne _ _ e] at h
      exact BR.low (K0 := K) (K := K') (K2 := K2) (fun _ _ => ⟨rfl, rfl, rfl⟩) rfl (fun _ h => .inl h) hn hid (hr.br id b h) (hr'.br id b (by rw [hsame id hid e]; exact h))
  · rcases hb with h1 | ⟨j, h1, h2⟩
    · exact hr'.ros b h1
    · have := hrc.size_lt h1; rw [h2] at this; exact this
  · obtain ⟨id, h1, h2⟩ := hb
    exact .inl ⟨id, hold id h1, by rw [← hbs id (hlt id h1)]; exact h2⟩
  · rcases hb with h1 | ⟨j, h1, h2⟩
    · exact hst.ro' b h1
    · rcases hst.own b ⟨j, (cne h1).1, h2⟩ with h3 | h3
      · exact .inr (.inl h3)
      · exact .inr (.inr h3)
  · cases hrr with
    | ret hv => exact .ret (VR.pur (K := K'.roAll (cutH n H')) (K' := K2) (fun _ h => h) (fun _ _ => rfl) (fz_VR hrc hf _ hv) hp)
/-- An own block that one slot tells of is frozen. -/
theorem g_frz1 {N : Nat} {σ : St} {d id : Nat} {x y : AV} {b : Blk} (hH : σ.h id = some b) (hx : σ.tm d = x) (hf : Fz (fun j => if j = id then some b else none) x y) :
    ∀ K a, SR K N σ a → ∃ K1, K1.w = K.w ∧ SR K1 N ⟨upd σ.tm d y, upd σ.h id none, σ.n, σ.df⟩ a ∧ Step K σ.h K1 (upd σ.h id none) := by
  intro K a h
  obtain ⟨g1, g2, g3⟩ := roSome_ok (HS := fun j => if j = id then some b else none) (HR := upd σ.h id none) h.rel (fun i c hc => by
    split at hc
    · rename_i e; rw [e, hH]; exact hc
    · cases hc) (fun i c hc => by
    by_cases e : i = id
    · subst e; rw [upd_same] at hc; cases hc
    · rw [upd_ne _ _ e] at hc; exact hc) (fun i hi => by
    by_cases e : i = id
    · subst e; rw [upd_same] at hi; exact absurd rfl hi
    · simp only [if_neg e])
  have hE : Ext K (K.roAll fun j => if j = id then some b else none) := ⟨Nat.le_refl _, fun _ _ => ⟨rfl, rfl, rfl⟩, fun _ h => .inl h, fun _ _ => rfl⟩
  refine ⟨K.roAll fun j => if j = id then some b else none, rfl, ⟨h.next, g2, ⟨h.tr.1, fun t => ?_⟩, h.dr.mono hE⟩, g3⟩
  show VR _ (upd σ.tm d y t) _
  have ht := h.tr.2 t
  by_cases e1 : t = d
  · subst e1; rw [upd_same]; rw [hx] at ht; exact fz_VR g1 hf _ ht
  · rw [upd_ne _ _ e1]; exact ht.mono hE
/-- The same, no package variable in sight. -/
theorem ac_normQ {P : Program} {f : FuncId} {args : List AV} {H : Heap} {n L : Nat} {cs : List AV} {et : TypeId} {y : AV} (hp : Pur y) (hL : H L ≠ none) (hcs : ∀ x, x ∈ cs → Pur x)
    (h : AC P f args H n fun r H' _ => ∃ x, r = .ret x ∧ Fz (cutH n H') x y ∧ H' L = some (.cells cs et) ∧ ∀ id, id < n → id ≠ L → H' id = H id) : AC P f args H n fun r H' n' => r = .ret y ∧ H' = upd H L (some (.cells cs et)) ∧ n' = n :=
  @ac_normM ⟨fun _ => .deferred none⟩ P f args H n L cs et y hp hL hcs h
theorem ac_normP {P : Program} {f : FuncId} {args : List AV} {H : Heap} {n : Nat} {y : AV} (hp : Pur y) (h : AC P f args H n fun r H' _ => ∃ x, r = .ret x ∧ Fz (cutH n H') x y ∧ ∀ id, id < n → H' id = H id) : AC P f args H n fun r H' n' => r = .ret y ∧ H' = H ∧ n' = n :=
  @ac_norm ⟨fun _ => .deferred none⟩ P f args H n y hp h
end Go.Lg

/- Calls that look at own memory and leave it alone: their answers frozen; in regions that draw their order. -/
set_option linter.unusedVariables false
set_option linter.unusedSimpArgs false
set_option linter.unusedSectionVars false
namespace Go.Lg
open Go
section
variable [GO]
end
section
variable {P : Program} {B : Fb → Prop} {N m : Nat} {Q : AEx → St → Prop} {all rest : List Oper} {df : List Nat} {bb : Bool} {k : Nat} {tm : Nat → AV} {hp : Heap} {n : Nat}
  {d : Nat} {ty : TypeId} {pos : String} {af : Array Edge} {j : Nat} {want b : Bool} {x y z : AV} {t : Nat}
end
section
variable {P : Program} {B : Fb → Prop} {N m : Nat} {Q : AEx → St → Prop} {all : List Oper} {E : List Nat} {df : List Nat} {s : Nat} {G : List (Heap × Nat)} {ob : List (Nat × (Heap → Prop))} {rest : List (Nat × Oper)} {tm : Nat → AV} {hp : Heap} {n : Nat}
  {i d : Nat} {ty : TypeId} {pos : String} {af : Array Edge} {j : Nat} {want b : Bool} {x y z : AV} {t : Nat}
end
end Go.Lg


