/- Abstract values and states: what is only read is its content ('view'); own memory goes by ids. How they lie in the model's memory ('VR', 'Rel'), and what a step may turn ('Step'). -/
import Derived.Test.YtlmighkbeacjnaaLg1
set_option linter.unusedVariables false
set_option linter.unusedSimpArgs false
set_option linter.unusedSectionVars false
namespace Go.Lg
open Go

inductive AV where
  | bool (b : Bool)
  | int (k : IntKind) (n : Int)
  | str (s : List UInt8)
  | view (rows : List (List AV))
  | empty
  | vptr (cells : List AV)
  | ptr (id off : Nat)
  | nilptr
  | slice (id off len : Nat) (cap : Option Nat) (sz : Nat)
  | map (id : Nat)
  | func (fn : Fn) (first captured : List AV)
  | yieldf (id : Nat)
  | nilFunc
  | iface (t : TypeId) (v : AV)
  | nilIface
  | agg (cs : List AV)
  | tuple (vs : List AV)
  | any

structure Ctx where
  base : Nat → Nat
  boff : Nat → Nat
  bsz : Nat → Nat
  next : Nat
  ro : Nat → Prop
  w : World

def Fn.noYield : Fn → Prop
  | .yield _ => False
  | _ => True

inductive VR (K : Ctx) : AV → Value → Prop
  | bool (b : Bool) : VR K (.bool b) (.bool b)
  | int (k : IntKind) (n : Int) : VR K (.int k n) (.int k n)
  | str (s : ByteArray) : VR K (.str s.data.toList) (.string s)
  | view {rows : List (List AV)} {a : Option Addr} {c esz : Nat} (f : Nat → Nat → Value) (hc : rows.length ≤ c) (hl : ∀ r, r ∈ rows → r.length = esz)
      (ha : 0 < rows.length → ∃ blk off, a = some ⟨blk, off, none⟩ ∧ K.ro blk ∧ ∀ i j, i < rows.length → j < esz → K.w.cell? ⟨blk, off + (i * esz + j), none⟩ = some (f i j))
      (hv : ∀ i j r x, rows[i]? = some r → r[j]? = some x → VR K x (f i j)) : VR K (.view rows) (.slice a rows.length c)
  | empty (a : Option Addr) : VR K .empty (.slice a 0 0)
  | vptr {cells : List AV} {blk off : Nat} (f : Nat → Value) (hr : K.ro blk) (hc : ∀ j, j < cells.length → K.w.cell? ⟨blk, off + j, none⟩ = some (f j))
      (hv : ∀ j x, cells[j]? = some x → VR K x (f j)) : VR K (.vptr cells) (.pointer (some ⟨blk, off, none⟩))
  | ptr {id off : Nat} (h : id < K.next) : VR K (.ptr id off) (.pointer (some ⟨K.base id, K.boff id + off, none⟩))
  | nilptr : VR K .nilptr (.pointer none)
  | slice {id off len : Nat} {cap : Option Nat} {sz o c : Nat} (h : id < K.next) (ho : 0 < c → o = K.boff id + off) (hc : 0 < c → o + c * sz ≤ K.bsz id) (hl : len ≤ c)
      (hcap : ∀ c0, cap = some c0 → c = c0) : VR K (.slice id off len cap sz) (.slice (some ⟨K.base id, o, none⟩) len c)
  | map {id : Nat} (h : id < K.next) : VR K (.map id) (.map (some (K.base id)))
  | func {fn : Fn} {first captured : List AV} {fs cs : Array Value} (hn : Fn.noYield fn) (h1 : fs.size = first.length) (h2 : cs.size = captured.length)
      (hf : ∀ (i : Nat) x, first[i]? = some x → VR K x (fs.getD i undef)) (hc : ∀ (i : Nat) x, captured[i]? = some x → VR K x (cs.getD i undef)) : VR K (.func fn first captured) (.func fn fs cs)
  | yieldf {id : Nat} (h : id < K.next) : VR K (.yieldf id) (.func (.yield (K.base id)) #[] #[])
  | nilFunc : VR K .nilFunc .nilFunc
  | iface {t : TypeId} {x : AV} {v : Value} (h : VR K x v) : VR K (.iface t x) (.iface t v)
  | nilIface : VR K .nilIface .nilIface
  | agg {cs : List AV} {vs : Array Value} (h1 : vs.size = cs.length) (h : ∀ (i : Nat) x, cs[i]? = some x → VR K x (vs.getD i undef)) : VR K (.agg cs) (.agg vs)
  | tuple {cs : List AV} {vs : Array Value} (h1 : vs.size = cs.length) (h : ∀ (i : Nat) x, cs[i]? = some x → VR K x (vs.getD i undef)) : VR K (.tuple cs) (.tuple vs)
  | any (v : Value) : VR K .any v

theorem VR.undef_ (K : Ctx) : VR K (.tuple []) undef := .tuple rfl (by simp)

/-- What keeps values as they read. -/
structure Ext (K K' : Ctx) : Prop where
  next : K.next ≤ K'.next
  mu : ∀ id, id < K.next → K'.base id = K.base id ∧ K'.boff id = K.boff id ∧ K'.bsz id = K.bsz id
  ro : ∀ b, K.ro b → K'.ro b
  same : ∀ b, K.ro b → K'.w.heap[b]? = K.w.heap[b]?

theorem Ext.refl (K : Ctx) : Ext K K := ⟨Nat.le_refl _, fun _ _ => ⟨rfl, rfl, rfl⟩, fun _ h => h, fun _ _ => rfl⟩

theorem cell_of_block {w w' : World} {b off : Nat} (h : w'.heap[b]? = w.heap[b]?) : w'.cell? ⟨b, off, none⟩ = w.cell? ⟨b, off, none⟩ := by
  simp only [World.cell?, h]
theorem VR.mono {K K' : Ctx} (hE : Ext K K') {x : AV} {v : Value} (h : VR K x v) : VR K' x v := by
  induction h with
  | bool b => exact .bool b
  | int k n => exact .int k n
  | str s => exact .str s
  | view f hc hl ha hv ih =>
    refine .view f hc hl (fun hp => ?_) ih
    obtain ⟨blk, off, rfl, hr, hcell⟩ := ha hp
    exact ⟨blk, off, rfl, hE.ro _ hr, fun i j hi hj => by rw [cell_of_block (hE.same _ hr)]; exact hcell i j hi hj⟩
  | empty a => exact .empty a
  | vptr f hr hc hv ih => exact .vptr f (hE.ro _ hr) (fun j hj => by rw [cell_of_block (hE.same _ hr)]; exact hc j hj) ih
  | @ptr id off h => obtain ⟨h1, h2, h3⟩ := hE.mu id h; rw [← h1, ← h2]; exact .ptr (Nat.lt_of_lt_of_le h hE.next)
  | nilptr => exact .nilptr
  | @slice id off len cap sz o c h ho hc hl hcap =>
    obtain ⟨h1, h2, h3⟩ := hE.mu id h
    rw [← h1]
    exact .slice (Nat.lt_of_lt_of_le h hE.next) (by rw [h2]; exact ho) (by rw [h3]; exact hc) hl hcap
  | @map id h => obtain ⟨h1, _⟩ := hE.mu id h; rw [← h1]; exact .map (Nat.lt_of_lt_of_le h hE.next)
  | func hn h1 h2 _ _ ih1 ih2 => exact .func hn h1 h2 ih1 ih2
  | @yieldf id h => obtain ⟨h1, _⟩ := hE.mu id h; rw [← h1]; exact .yieldf (Nat.lt_of_lt_of_le h hE.next)
  | nilFunc => exact .nilFunc
  | iface _ ih => exact .iface ih
  | nilIface => exact .nilIface
  | agg h1 _ ih => exact .agg h1 ih
  | tuple h1 _ ih => exact .tuple h1 ih
  | any v => exact .any v

/-- Lists of values. -/
def VRs (K : Ctx) (xs : List AV) (vs : List Value) : Prop := vs.length = xs.length ∧ ∀ (i : Nat) x v, xs[i]? = some x → vs[i]? = some v → VR K x v
theorem VRs.nil (K : Ctx) : VRs K [] [] := ⟨rfl, by simp⟩
theorem VRs.cons {K : Ctx} {x : AV} {v : Value} {xs : List AV} {vs : List Value} (h : VR K x v) (hs : VRs K xs vs) : VRs K (x :: xs) (v :: vs) :=
  ⟨by simp [hs.1], fun i y u hy hu => by
    cases i with
    | zero => simp at hy hu; subst hy hu; exact h
    | succ i => simp at hy hu; exact hs.2 i y u hy hu⟩
theorem VRs.head {K : Ctx} {x : AV} {v : Value} {xs : List AV} {vs : List Value} (h : VRs K (x :: xs) (v :: vs)) : VR K x v := h.2 0 x v rfl rfl
theorem VRs.tail {K : Ctx} {x : AV} {v : Value} {xs : List AV} {vs : List Value} (h : VRs K (x :: xs) (v :: vs)) : VRs K xs vs :=
  ⟨by have := h.1; simpa using this, fun i y u hy hu => h.2 (i + 1) y u (by simpa using hy) (by simpa using hu)⟩
theorem VRs.mono {K K' : Ctx} (hE : Ext K K') {xs : List AV} {vs : List Value} (h : VRs K xs vs) : VRs K' xs vs := ⟨h.1, fun i x v hx hv => (h.2 i x v hx hv).mono hE⟩
theorem VRs.append {K : Ctx} {xs ys : List AV} {vs us : List Value} (h : VRs K xs vs) (h' : VRs K ys us) : VRs K (xs ++ ys) (vs ++ us) :=
  ⟨by simp [h.1, h'.1], fun i x v hx hv => by
    rw [List.getElem?_append] at hx hv
    rw [h.1] at hv
    split at hx
    · rename_i hlt; rw [if_pos hlt] at hv; exact h.2 i x v hx hv
    · rename_i hlt; rw [if_neg hlt] at hv; exact h'.2 _ x v hx hv⟩
theorem VR.agg_ {K : Ctx} {xs : List AV} {vs : Array Value} : VR K (.agg xs) (.agg vs) ↔ VRs K xs vs.toList := by
  constructor
  · intro h
    cases h with
    | agg h1 h =>
      refine ⟨by simpa using h1, fun i x v hx hv => ?_⟩
      have := h i x hx
      rw [Array.getD_eq_getD_getElem?] at this
      rw [Array.getElem?_toList] at hv
      simpa [hv] using this
  · intro h
    refine .agg (by simpa using h.1) fun i x hx => ?_
    have hi : i < vs.toList.length := by rw [h.1]; exact (List.getElem?_eq_some_iff.1 hx).1
    have := h.2 i x vs.toList[i] hx (List.getElem?_eq_getElem hi)
    rw [Array.getD_eq_getD_getElem?]
    simpa [Array.getElem?_eq_getElem (show i < vs.size by simpa using hi)] using this
theorem VR.tuple_ {K : Ctx} {xs : List AV} {vs : Array Value} : VR K (.tuple xs) (.tuple vs) ↔ VRs K xs vs.toList := by
  constructor
  · intro h
    cases h with
    | tuple h1 h => exact VR.agg_.1 (.agg h1 h)
  · intro h
    have := VR.agg_.2 h
    cases this with
    | agg h1 h => exact .tuple h1 h

/-- Own memory. -/
structure LoopB where
  tm : Nat → AV
  N : Nat
  params : Array Tmp
  assign : Code
  body : Code
  state : LoopState
  pending : Option Code
inductive Blk where
  | cells (cs : List AV) (e : TypeId)
  | map (es : List (AV × AV))
  | loop (l : LoopB)
  | deferred

def TR (K : Ctx) (N : Nat) (tm : Nat → AV) (tmps : Array Value) : Prop := tmps.size = N ∧ ∀ t, VR K (tm t) (tmps.getD t undef)

def thawed (arr : Array Value) (fr : Nat × Nat) : Prop := ∀ j, j < arr.size → (decide (fr.1 ≤ j) && decide (j < fr.2)) = false

def BR (K : Ctx) (id : Nat) : Blk → Prop
  | .cells cs e => ∃ arr fr, K.w.heap[K.base id]? = some (.cells arr e fr) ∧ thawed arr fr ∧ arr.size = K.bsz id ∧ K.boff id + cs.length ≤ arr.size ∧
      ∀ (j : Nat) x, cs[j]? = some x → ∃ v, arr[K.boff id + j]? = some v ∧ VR K x v
  | .map es => ∃ arr clock, K.w.heap[K.base id]? = some (.map arr clock) ∧ arr.size = es.length ∧
      ∀ (j : Nat) p, es[j]? = some p → ∃ m, arr[j]? = some m ∧ VR K p.1 m.key ∧ VR K p.2 m.val
  | .loop l => ∃ fn tmps defers, K.w.heap[K.base id]? = some (.loop { state := l.state, pending := l.pending, fn, tmps, params := l.params, assign := l.assign, body := l.body, defers }) ∧ TR K l.N l.tm tmps
  | .deferred => K.w.heap[K.base id]? = some (.deferred (some []))

abbrev Heap := Nat → Option Blk
def OB (K : Ctx) (H : Heap) (b : Nat) : Prop := ∃ id, H id ≠ none ∧ K.base id = b

structure Rel (K : Ctx) (H : Heap) : Prop where
  lt : ∀ id, H id ≠ none → id < K.next
  nro : ∀ id, H id ≠ none → ¬ K.ro (K.base id)
  br : ∀ id b, H id = some b → BR K id b
  inj : ∀ i j, H i ≠ none → H j ≠ none → K.base i = K.base j → i = j
  ros : ∀ b, K.ro b → b < K.w.heap.size

structure Step (K : Ctx) (H : Heap) (K' : Ctx) (H' : Heap) : Prop where
  next : K.next ≤ K'.next
  mu : ∀ id, id < K.next → K'.base id = K.base id ∧ K'.boff id = K.boff id ∧ K'.bsz id = K.bsz id
  ro : ∀ b, K.ro b → K'.ro b
  size : K.w.heap.size ≤ K'.w.heap.size
  same : ∀ b, b < K.w.heap.size → ¬ OB K H b → K'.w.heap[b]? = K.w.heap[b]?
  own : ∀ b, OB K' H' b → OB K H b ∨ K.w.heap.size ≤ b
  ro' : ∀ b, K'.ro b → K.ro b ∨ OB K H b ∨ K.w.heap.size ≤ b
  os : K'.w.os = K.w.os
  tape : K'.w.tape = K.w.tape
  output : K'.w.output = K.w.output

theorem Step.refl (K : Ctx) (H : Heap) : Step K H K H :=
  ⟨Nat.le_refl _, fun _ _ => ⟨rfl, rfl, rfl⟩, fun _ h => h, Nat.le_refl _, fun _ _ _ => rfl, fun _ h => .inl h, fun _ h => .inl h, rfl, rfl, rfl⟩
theorem Step.trans {K K1 K2 : Ctx} {H H1 H2 : Heap} (h : Step K H K1 H1) (h' : Step K1 H1 K2 H2) : Step K H K2 H2 where
  next := Nat.le_trans h.next h'.next
  mu := fun id hid => by
    obtain ⟨a, b, c⟩ := h.mu id hid
    obtain ⟨a', b', c'⟩ := h'.mu id (Nat.lt_of_lt_of_le hid h.next)
    exact ⟨a'.trans a, b'.trans b, c'.trans c⟩
  ro := fun b hb => h'.ro b (h.ro b hb)
  size := Nat.le_trans h.size h'.size
  same := fun b hb hn => (h'.same b (Nat.lt_of_lt_of_le hb h.size) (fun ho => (h.own b ho).elim hn (fun hh => by omega))).trans (h.same b hb hn)
  own := fun b hb => by
    rcases h'.own b hb with h1 | h1
    · exact h.own b h1
    · exact .inr (Nat.le_trans h.size h1)
  ro' := fun b hb => by
    rcases h'.ro' b hb with h1 | h1 | h1
    · exact h.ro' b h1
    · exact (h.own b h1).elim (fun x => .inr (.inl x)) (fun x => .inr (.inr x))
    · exact .inr (.inr (Nat.le_trans h.size h1))
  os := h'.os.trans h.os
  tape := h'.tape.trans h.tape
  output := h'.output.trans h.output
theorem Step.ext {K K' : Ctx} {H H' : Heap} (h : Step K H K' H') (hr : Rel K H) : Ext K K' :=
  ⟨h.next, h.mu, h.ro, fun b hb => h.same b (hr.ros b hb) (fun ⟨id, h1, h2⟩ => hr.nro id h1 (h2 ▸ hb))⟩

theorem TR.mono {K K' : Ctx} (hE : Ext K K') {N : Nat} {tm : Nat → AV} {tmps : Array Value} (h : TR K N tm tmps) : TR K' N tm tmps := ⟨h.1, fun t => (h.2 t).mono hE⟩
/-- A block of own memory that a step leaves alone reads as it did. -/
theorem BR.mono {K K' : Ctx} (hE : Ext K K') {id : Nat} {b : Blk} (hid : id < K.next) (hs : K'.w.heap[K.base id]? = K.w.heap[K.base id]?) (h : BR K id b) : BR K' id b := by
  obtain ⟨h1, h2, h3⟩ := hE.mu id hid
  cases b with
  | cells cs e =>
    obtain ⟨arr, fr, ha, ht, hz, hl, hv⟩ := h
    refine ⟨arr, fr, by rw [h1, hs]; exact ha, ht, by rw [h3]; exact hz, by rw [h2]; exact hl, fun j x hx => ?_⟩
    obtain ⟨v, hv1, hv2⟩ := hv j x hx
    exact ⟨v, by rw [h2]; exact hv1, hv2.mono hE⟩
  | map es =>
    obtain ⟨arr, clock, ha, hz, hv⟩ := h
    refine ⟨arr, clock, by rw [h1, hs]; exact ha, hz, fun j p hp => ?_⟩
    obtain ⟨m, hm, hk, hw⟩ := hv j p hp
    exact ⟨m, hm, hk.mono hE, hw.mono hE⟩
  | loop l =>
    obtain ⟨fn, tmps, defers, ha, ht⟩ := h
    exact ⟨fn, tmps, defers, by rw [h1, hs]; exact ha, ht.mono hE⟩
  | deferred => show _ = _; rw [h1, hs]; exact h

/-- Abstract states. -/
structure St where
  tm : Nat → AV
  h : Heap
  n : Nat
  df : List Nat

def upd {α : Type} (f : Nat → α) (i : Nat) (x : α) : Nat → α := fun j => if j = i then x else f j
theorem upd_same {α : Type} (f : Nat → α) (i : Nat) (x : α) : upd f i x i = x := by simp [upd]
theorem upd_ne {α : Type} (f : Nat → α) {i j : Nat} (x : α) (h : j ≠ i) : upd f i x j = f j := by simp [upd, h]

def DR (K : Ctx) (H : Heap) : List Nat → List Deferred → Prop
  | [], ds => ds = []
  | id :: r, ds => ∃ ds', ds = { target := .collected (K.base id), args := #[] } :: ds' ∧ id < K.next ∧ DR K H r ds'

theorem DR.mono {K K' : Ctx} {H H' : Heap} (hE : Ext K K') : ∀ {l : List Nat} {ds : List Deferred}, DR K H l ds → DR K' H' l ds
  | [], _, h => h
  | id :: r, ds, ⟨ds', e, h1, h2⟩ => ⟨ds', by rw [e, (hE.mu id h1).1], Nat.lt_of_lt_of_le h1 hE.next, DR.mono hE h2⟩

structure SR (K : Ctx) (N : Nat) (σ : St) (a : Act) : Prop where
  next : K.next = σ.n
  rel : Rel K σ.h
  tr : TR K N σ.tm a.tmps
  dr : DR K σ.h σ.df a.defers

inductive AEx where
  | normal
  | exit (id : Nat)
  | goto (l : Nat)
  | ret
  | panic (v : AV)
inductive ER (K : Ctx) : AEx → Ex → Prop
  | normal : ER K .normal .normal
  | exit (i : Nat) : ER K (.exit i) (.exit i)
  | goto (i : Nat) : ER K (.goto i) (.goto i)
  | ret : ER K .ret .ret
  | panic {x : AV} {v : Value} (h : VR K x v) : ER K (.panic x) (.panic v)

/-- A step as a frame's own code sees it: the ids from 'm' on are the frame's, and may be given anew. -/
structure StM (m : Nat) (K : Ctx) (H : Heap) (K' : Ctx) (H' : Heap) : Prop where
  next : m ≤ K.next
  next' : m ≤ K'.next
  mu : ∀ id, id < m → K'.base id = K.base id ∧ K'.boff id = K.boff id ∧ K'.bsz id = K.bsz id
  ro : ∀ b, K.ro b → K'.ro b
  size : K.w.heap.size ≤ K'.w.heap.size
  same : ∀ b, b < K.w.heap.size → ¬ OB K H b → K'.w.heap[b]? = K.w.heap[b]?
  own : ∀ b, OB K' H' b → OB K H b ∨ K.w.heap.size ≤ b
  ro' : ∀ b, K'.ro b → K.ro b ∨ OB K H b ∨ K.w.heap.size ≤ b
  os : K'.w.os = K.w.os
  tape : K'.w.tape = K.w.tape
  output : K'.w.output = K.w.output
theorem Step.stm {m : Nat} {K K' : Ctx} {H H' : Heap} (h : Step K H K' H') (hm : m ≤ K.next) : StM m K H K' H' :=
  ⟨hm, Nat.le_trans hm h.next, fun id hid => h.mu id (Nat.lt_of_lt_of_le hid hm), h.ro, h.size, h.same, h.own, h.ro', h.os, h.tape, h.output⟩
theorem StM.refl {m : Nat} {K : Ctx} (hm : m ≤ K.next) (H : Heap) : StM m K H K H := (Step.refl K H).stm hm
theorem StM.step {K K' : Ctx} {H H' : Heap} (h : StM K.next K H K' H') : Step K H K' H' :=
  ⟨h.next', h.mu, h.ro, h.size, h.same, h.own, h.ro', h.os, h.tape, h.output⟩
theorem StM.trans {m : Nat} {K K1 K2 : Ctx} {H H1 H2 : Heap} (h : StM m K H K1 H1) (h' : StM m K1 H1 K2 H2) : StM m K H K2 H2 where
  next := h.next
  next' := h'.next'
  mu := fun id hid => by
    obtain ⟨a, b, c⟩ := h.mu id hid
    obtain ⟨a', b', c'⟩ := h'.mu id hid
    exact ⟨a'.trans a, b'.trans b, c'.trans c⟩
  ro := fun b hb => h'.ro b (h.ro b hb)
  size := Nat.le_trans h.size h'.size
  same := fun b hb hn => (h'.same b (Nat.lt_of_lt_of_le hb h.size) (fun ho => (h.own b ho).elim hn (fun hh => by omega))).trans (h.same b hb hn)
  own := fun b hb => by
    rcases h'.own b hb with h1 | h1
    · exact h.own b h1
    · exact .inr (Nat.le_trans h.size h1)
  ro' := fun b hb => by
    rcases h'.ro' b hb with h1 | h1 | h1
    · exact h.ro' b h1
    · exact (h.own b h1).elim (fun x => .inr (.inl x)) (fun x => .inr (.inr x))
    · exact .inr (.inr (Nat.le_trans h.size h1))
  os := h'.os.trans h.os
  tape := h'.tape.trans h.tape
  output := h'.output.trans h.output

/-- The logic's weakest precondition of code; the ids below 'm' are not the frame's own to give anew. -/
def W (P : Program) (B : Fb → Prop) (N m : Nat) (c : Code) (Q : AEx → St → Prop) (σ : St) : Prop :=
  ∀ K a, m ≤ K.next → SR K N σ a → MW P B c (fun e a' w' => ∃ K' σ' e', K'.w = w' ∧ SR K' N σ' a' ∧ StM m K σ.h K' σ'.h ∧ ER K' e' e ∧ Q e' σ') a K.w

theorem W.mono {P : Program} {B : Fb → Prop} {N m : Nat} {c : Code} {Q Q' : AEx → St → Prop} {σ : St} (h : W P B N m c Q σ) (hq : ∀ e σ, Q e σ → Q' e σ) : W P B N m c Q' σ :=
  fun K a hm hs => (h K a hm hs).mono fun _ _ _ ⟨K', σ', e', h1, h2, h3, h4, h5⟩ => ⟨K', σ', e', h1, h2, h3, h4, hq _ _ h5⟩

/-- Ghost steps: the same machine state, told otherwise. -/
theorem W.ghostM {P : Program} {B : Fb → Prop} {N m : Nat} {c : Code} {Q : AEx → St → Prop} {σ σ1 : St}
    (hg : ∀ K a, m ≤ K.next → SR K N σ a → ∃ K1, K1.w = K.w ∧ SR K1 N σ1 a ∧ StM m K σ.h K1 σ1.h) (h : W P B N m c Q σ1) : W P B N m c Q σ := by
  intro K a hm hs
  obtain ⟨K1, hw, hs1, hst⟩ := hg K a hm hs
  have := h K1 a hst.next' hs1
  rw [hw] at this
  exact this.mono fun _ _ _ ⟨K', σ', e', h1, h2, h3, h4, h5⟩ => ⟨K', σ', e', h1, h2, hst.trans h3, h4, h5⟩
theorem W.ghost {P : Program} {B : Fb → Prop} {N m : Nat} {c : Code} {Q : AEx → St → Prop} {σ σ1 : St}
    (hg : ∀ K a, SR K N σ a → ∃ K1, K1.w = K.w ∧ SR K1 N σ1 a ∧ Step K σ.h K1 σ1.h) (h : W P B N m c Q σ1) : W P B N m c Q σ :=
  W.ghostM (fun K a hm hs => let ⟨K1, h1, h2, h3⟩ := hg K a hs; ⟨K1, h1, h2, h3.stm hm⟩) h

section rules
variable {P : Program} {B : Fb → Prop} {N m : Nat} {Q : AEx → St → Prop} {σ : St}
theorem w_skip (h : Q .normal σ) : W P B N m .skip Q σ := fun K _ hm hs => mw_skip ⟨K, σ, .normal, rfl, hs, .refl hm _, .normal, h⟩
theorem w_label {l : Nat} (h : Q .normal σ) : W P B N m (.label l) Q σ := fun K _ hm hs => mw_label ⟨K, σ, .normal, rfl, hs, .refl hm _, .normal, h⟩
theorem w_exit {id : Nat} (h : Q (.exit id) σ) : W P B N m (.exit id) Q σ := fun K _ hm hs => mw_exit ⟨K, σ, .exit id, rfl, hs, .refl hm _, .exit _, h⟩
theorem w_goto {l : Nat} (h : Q (.goto l) σ) : W P B N m (.goto l) Q σ := fun K _ hm hs => mw_goto ⟨K, σ, .goto l, rfl, hs, .refl hm _, .goto _, h⟩
theorem w_ret (h : Q .ret σ) : W P B N m .ret Q σ := fun K _ hm hs => mw_ret ⟨K, σ, .ret, rfl, hs, .refl hm _, .ret, h⟩

def AEx.go (next : St → Prop) (Q : AEx → St → Prop) : AEx → St → Prop
  | .normal, σ => next σ
  | e, σ => Q e σ
def AEx.blk (id : Nat) (Q : AEx → St → Prop) : AEx → St → Prop
  | .exit i, σ => if i = id then Q .normal σ else Q (.exit i) σ
  | e, σ => Q e σ

theorem w_seq {x y : Code} (h : W P B N m x (AEx.go (W P B N m y Q) Q) σ) : W P B N m (.seq x y) Q σ := by
  intro K a hm hs
  refine mw_seq ((h K a hm hs).mono ?_)
  rintro e a' w' ⟨K', σ', e', rfl, hs', hst, he, hq⟩
  cases he with
  | normal => exact (hq K' a' hst.next' hs').mono fun _ _ _ ⟨K2, σ2, e2, h1, h2, h3, h4, h5⟩ => ⟨K2, σ2, e2, h1, h2, hst.trans h3, h4, h5⟩
  | exit i => exact ⟨K', σ', _, rfl, hs', hst, .exit i, hq⟩
  | goto i => exact ⟨K', σ', _, rfl, hs', hst, .goto i, hq⟩
  | ret => exact ⟨K', σ', _, rfl, hs', hst, .ret, hq⟩
  | panic h => exact ⟨K', σ', _, rfl, hs', hst, .panic h, hq⟩
theorem w_block {id : Nat} {c : Code} (h : W P B N m c (AEx.blk id Q) σ) : W P B N m (.block id c) Q σ := by
  intro K a hm hs
  refine mw_block ((h K a hm hs).mono ?_)
  rintro e a' w' ⟨K', σ', e', rfl, hs', hst, he, hq⟩
  cases he with
  | normal => exact ⟨K', σ', _, rfl, hs', hst, .normal, hq⟩
  | exit i =>
    simp only [AEx.blk] at hq
    simp only [Ex.blk]
    split
    · rename_i hi; rw [if_pos hi] at hq; exact ⟨K', σ', .normal, rfl, hs', hst, .normal, hq⟩
    · rename_i hi; rw [if_neg hi] at hq; exact ⟨K', σ', _, rfl, hs', hst, .exit i, hq⟩
  | goto i => exact ⟨K', σ', _, rfl, hs', hst, .goto i, hq⟩
  | ret => exact ⟨K', σ', _, rfl, hs', hst, .ret, hq⟩
  | panic h => exact ⟨K', σ', _, rfl, hs', hst, .panic h, hq⟩
theorem w_loop {c : Code} (I : Nat → St → Prop) (n : Nat) (h0 : I n σ)
    (round : ∀ n σ, I n σ → W P B N m c (AEx.go (fun σ' => ∃ k, k < n ∧ I k σ') Q) σ) : W P B N m (.loop c) Q σ := by
  intro K a hm hs
  refine mw_loop (fun n a' w' => ∃ K' σ', K'.w = w' ∧ SR K' N σ' a' ∧ StM m K σ.h K' σ'.h ∧ I n σ') n ⟨K, σ, rfl, hs, .refl hm _, h0⟩ ?_
  rintro n a' w' ⟨K', σ', rfl, hs', hst, hI⟩
  refine (round n σ' hI K' a' hst.next' hs').mono ?_
  rintro e a2 w2 ⟨K2, σ2, e2, rfl, hs2, hst2, he, hq⟩
  cases he with
  | normal => obtain ⟨k, hk, hI2⟩ := hq; exact ⟨k, hk, K2, σ2, rfl, hs2, hst.trans hst2, hI2⟩
  | exit i => exact ⟨K2, σ2, _, rfl, hs2, hst.trans hst2, .exit i, hq⟩
  | goto i => exact ⟨K2, σ2, _, rfl, hs2, hst.trans hst2, .goto i, hq⟩
  | ret => exact ⟨K2, σ2, _, rfl, hs2, hst.trans hst2, .ret, hq⟩
  | panic h => exact ⟨K2, σ2, _, rfl, hs2, hst.trans hst2, .panic h, hq⟩
end rules
end Go.Lg
