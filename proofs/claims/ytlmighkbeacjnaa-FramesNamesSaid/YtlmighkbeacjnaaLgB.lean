/- Calls: direct ones, of function values; functions that only compute; ghost steps on slots; results. -/
import Derived.Test.YtlmighkbeacjnaaLgA
set_option linter.unusedVariables false
set_option linter.unusedSimpArgs false
set_option linter.unusedSectionVars false
namespace Go.Lg
open Go

def Callable (P : Program) (f : FuncId) : Prop := ∃ fn, P.funcs[f]? = some fn ∧ (fn.name == "runtime.NumGoroutine") = false ∧ fn.body.isSome = true

/-- A value that tells of no own memory. -/
inductive Pur : AV → Prop
  | bool (b : Bool) : Pur (.bool b)
  | int (k : IntKind) (n : Int) : Pur (.int k n)
  | str (s : List UInt8) : Pur (.str s)
  | view {rows : List (List AV)} (h : ∀ r, r ∈ rows → ∀ x, x ∈ r → Pur x) : Pur (.view rows)
  | empty : Pur .empty
  | vptr {cells : List AV} (h : ∀ x, x ∈ cells → Pur x) : Pur (.vptr cells)
  | nilptr : Pur .nilptr
  | func {fn : Fn} {a b : List AV} (h1 : ∀ x, x ∈ a → Pur x) (h2 : ∀ x, x ∈ b → Pur x) : Pur (.func fn a b)
  | nilFunc : Pur .nilFunc
  | iface {t : TypeId} {x : AV} (h : Pur x) : Pur (.iface t x)
  | nilIface : Pur .nilIface
  | agg {cs : List AV} (h : ∀ x, x ∈ cs → Pur x) : Pur (.agg cs)
  | tuple {cs : List AV} (h : ∀ x, x ∈ cs → Pur x) : Pur (.tuple cs)
  | any : Pur .any

theorem VR.pur {K K' : Ctx} (hro : ∀ b, K.ro b → K'.ro b) (hs : ∀ b, K.ro b → K'.w.heap[b]? = K.w.heap[b]?) {x : AV} {v : Value} (h : VR K x v) (hp : Pur x) : VR K' x v := by
  induction h with
  | bool b => exact .bool b
  | int k n => exact .int k n
  | str s => exact .str s
  | @view rows a c esz f hc hl ha hv ih =>
    cases hp with
    | view hp =>
      refine .view f hc hl (fun hpos => ?_) (fun i j r x h1 h2 => ih i j r x h1 h2 (hp r (List.mem_of_getElem? h1) x (List.mem_of_getElem? h2)))
      obtain ⟨blk, off, rfl, hr, hcell⟩ := ha hpos
      exact ⟨blk, off, rfl, hro _ hr, fun i j hi hj => by rw [cell_of_block (hs _ hr)]; exact hcell i j hi hj⟩
  | empty a => exact .empty a
  | vptr f hr hc hv ih =>
    cases hp with
    | vptr hp => exact .vptr f (hro _ hr) (fun j hj => by rw [cell_of_block (hs _ hr)]; exact hc j hj) (fun j x h1 => ih j x h1 (hp x (List.mem_of_getElem? h1)))
  | ptr h => cases hp
  | nilptr => exact .nilptr
  | slice => cases hp
  | map => cases hp
  | func hn h1 h2 _ _ ih1 ih2 =>
    cases hp with
    | func p1 p2 => exact .func hn h1 h2 (fun i x hx => ih1 i x hx (p1 x (List.mem_of_getElem? hx))) (fun i x hx => ih2 i x hx (p2 x (List.mem_of_getElem? hx)))
  | yieldf => cases hp
  | nilFunc => exact .nilFunc
  | iface _ ih => cases hp with | iface p => exact .iface (ih p)
  | nilIface => exact .nilIface
  | agg h1 _ ih => cases hp with | agg p => exact .agg h1 (fun i x hx => ih i x hx (p x (List.mem_of_getElem? hx)))
  | tuple h1 _ ih => cases hp with | tuple p => exact .tuple h1 (fun i x hx => ih i x hx (p x (List.mem_of_getElem? hx)))
  | any v => exact .any v

def noHeap : Heap := fun _ => none
theorem rel_none {K : Ctx} {H : Heap} (hr : Rel K H) : Rel K noHeap where
  lt := fun _ h => absurd rfl h
  nro := fun _ h => absurd rfl h
  br := fun _ _ h => by simp [noHeap] at h
  inj := fun _ _ h => absurd rfl h
  ros := hr.ros

/-- A function that only computes: its answer tells of no own memory. -/
structure PF (P : Program) (f : FuncId) (args : List AV) (X : AV → Prop) : Prop where
  cal : Callable P f
  run : ∀ n, AC P f args noHeap n fun r _ _ => ∃ x, r = .ret x ∧ Pur x ∧ X x
theorem PF.mono {P : Program} {f : FuncId} {args : List AV} {X Y : AV → Prop} (h : PF P f args X) (hx : ∀ x, X x → Y x) : PF P f args Y :=
  ⟨h.cal, fun n => (h.run n).mono fun _ _ _ ⟨x, h1, h2, h3⟩ => ⟨x, h1, h2, hx x h3⟩⟩

theorem ac_pure {P : Program} {f : FuncId} {args : List AV} {X : AV → Prop} (h : PF P f args X) (H : Heap) (n : Nat) : AC P f args H n fun r H' n' => H' = H ∧ n' = n ∧ ∃ x, r = .ret x ∧ Pur x ∧ X x := by
  intro K vs hn hr hv
  refine ((h.run n) K vs hn (rel_none hr) hv).mono ?_
  rintro e w' ⟨K', H1, r, rfl, hr', hst, hrr, x, rfl, hp, hX⟩
  let K2 : Ctx := { base := K.base, boff := K.boff, bsz := K.bsz, next := K.next, ro := K'.ro, w := K'.w }
  have hsame : ∀ b, b < K.w.heap.size → K'.w.heap[b]? = K.w.heap[b]? := fun b hb => hst.same b hb (fun ⟨id, h1, _⟩ => h1 rfl)
  have hro' : ∀ b, K'.ro b → K.ro b ∨ K.w.heap.size ≤ b := fun b hb => by
    rcases hst.ro' b hb with h | ⟨id, h1, _⟩ | h
    · exact .inl h
    · exact absurd rfl h1
    · exact .inr h
  have hE : Ext K K2 := ⟨Nat.le_refl _, fun _ _ => ⟨rfl, rfl, rfl⟩, hst.ro, fun b hb => hsame b (hr.ros b hb)⟩
  refine ⟨K2, H, .ret x, rfl, ⟨hr.lt, fun id hid hb => ?_, fun id b hb => ?_, hr.inj, hr'.ros⟩, ⟨Nat.le_refl _, fun _ _ => ⟨rfl, rfl, rfl⟩, hst.ro, hst.size, fun b hb _ => hsame b hb, fun _ h => .inl h, fun b hb => ?_, hst.os, hst.tape, hst.output⟩, ?_, rfl, hn, x, rfl, hp, hX⟩
  · rcases hro' _ hb with h1 | h1
    · exact hr.nro id hid h1
    · have h1 : K.w.heap.size ≤ K.base id := h1
      have := hr.size_lt hid; omega
  · have hid : H id ≠ none := by rw [hb]; simp
    exact (hr.br id b hb).mono hE (hr.lt id hid) (hsame _ (hr.size_lt hid))
  · rcases hro' b hb with h1 | h1
    · exact .inl h1
    · exact .inr (.inr h1)
  · cases hrr with
    | ret hv => exact .ret (VR.pur (K := K') (K' := K2) (fun _ h => h) (fun _ _ => rfl) hv hp)

/-- Frame: what a call's contract doesn't name stays. -/
def Heap.or (H1 H2 : Heap) : Heap := fun id => match H1 id with
  | some b => some b
  | none => H2 id
theorem ac_frame {P : Program} {f : FuncId} {args : List AV} {H1 H2 : Heap} {n : Nat} {Q : AR → Heap → Nat → Prop} (hd : ∀ id, H1 id ≠ none → H2 id = none) (h : AC P f args H1 n Q) :
    AC P f args (H1.or H2) n fun r H' n' => ∃ H1', H' = H1'.or H2 ∧ (∀ id, H1' id ≠ none → H2 id = none) ∧ Q r H1' n' := by
  intro K vs hn hr hv
  have in1 : ∀ {id b}, H1 id = some b → (H1.or H2) id = some b := fun h => by simp [Heap.or, h]
  have in2 : ∀ {id b}, H2 id = some b → (H1.or H2) id = some b := fun {id b} h => by
    have : H1 id = none := by
      cases h1 : H1 id with
      | none => rfl
      | some c => have := hd id (by rw [h1]; simp); rw [this] at h; cases h
    simp [Heap.or, this, h]
  have ne1 : ∀ {id}, H1 id ≠ none → (H1.or H2) id ≠ none := fun {id} h => by
    cases h1 : H1 id with
    | none => exact absurd h1 h
    | some b => rw [in1 h1]; simp
  have ne2 : ∀ {id}, H2 id ≠ none → (H1.or H2) id ≠ none := fun {id} h => by
    cases h1 : H2 id with
    | none => exact absurd h1 h
    | some b => rw [in2 h1]; simp
  have hr1 : Rel K H1 := ⟨fun id h => hr.lt id (ne1 h), fun id h => hr.nro id (ne1 h), fun id b h => hr.br id b (in1 h), fun i j hi hj => hr.inj i j (ne1 hi) (ne1 hj), hr.ros⟩
  refine (h K vs hn hr1 hv).mono ?_
  rintro e w' ⟨K', H1', r, rfl, hr', hst, hrr, hQ⟩
  have hE := hst.ext hr1
  have notOB : ∀ {id}, H2 id ≠ none → ¬ OB K H1 (K.base id) := fun {id} h2 ⟨j, hj, e⟩ => by
    have := hr.inj j id (ne1 hj) (ne2 h2) e
    subst this
    exact h2 (hd j hj)
  have bse : ∀ {id}, H2 id ≠ none → K'.base id = K.base id := fun {id} h2 => (hst.mu id (hr.lt id (ne2 h2))).1
  have sz2 : ∀ {id}, H2 id ≠ none → K.base id < K.w.heap.size := fun {id} h2 => hr.size_lt (ne2 h2)
  have notOB' : ∀ {id}, H2 id ≠ none → ¬ OB K' H1' (K'.base id) := fun {id} h2 ho => by
    rw [bse h2] at ho
    rcases hst.own _ ho with h3 | h3
    · exact notOB h2 h3
    · have := sz2 h2; omega
  have hd' : ∀ id, H1' id ≠ none → H2 id = none := fun id h1 => by
    cases h2 : H2 id with
    | none => rfl
    | some b => exact absurd ⟨id, h1, rfl⟩ (notOB' (id := id) (by rw [h2]; simp))
  have split' : ∀ {id}, (H1'.or H2) id ≠ none → H1' id ≠ none ∨ (H1' id = none ∧ H2 id ≠ none) := fun {id} h => by
    cases h1 : H1' id with
    | none => refine .inr ⟨rfl, ?_⟩; simpa [Heap.or, h1] using h
    | some b => exact .inl (by simp)
  refine ⟨K', H1'.or H2, r, rfl, ⟨fun id h => ?_, fun id h => ?_, fun id b h => ?_, fun i j hi hj e => ?_, hr'.ros⟩, ?_, hrr, H1', rfl, hd', hQ⟩
  · rcases split' h with h1 | ⟨_, h2⟩
    · exact hr'.lt id h1
    · exact Nat.lt_of_lt_of_le (hr.lt id (ne2 h2)) hst.next
  · rcases split' h with h1 | ⟨_, h2⟩
    · exact hr'.nro id h1
    · rw [bse h2]
      intro hb
      rcases hst.ro' _ hb with h3 | h3 | h3
      · exact hr.nro id (ne2 h2) h3
      · exact notOB h2 h3
      · have := sz2 h2; omega
  · cases h1 : H1' id with
    | some c => simp only [Heap.or, h1] at h; cases h; exact hr'.br id _ h1
    | none =>
      simp only [Heap.or, h1] at h
      have h2 : H2 id ≠ none := by rw [h]; simp
      exact (hr.br id b (in2 h)).mono hE (hr.lt id (ne2 h2)) (hst.same _ (sz2 h2) (notOB h2))
  · rcases split' hi with h1 | ⟨_, h1⟩ <;> rcases split' hj with h2 | ⟨_, h2⟩
    · exact hr'.inj i j h1 h2 e
    · exact absurd ⟨i, h1, e⟩ (notOB' h2)
    · exact absurd ⟨j, h2, e.symm⟩ (notOB' h1)
    · rw [bse h1, bse h2] at e; exact hr.inj i j (ne2 h1) (ne2 h2) e
  · refine ⟨hst.next, hst.mu, hst.ro, hst.size, fun b hb hn => hst.same b hb (fun ⟨id, h1, e⟩ => hn ⟨id, ne1 h1, e⟩), ?_, fun b hb => ?_, hst.os, hst.tape, hst.output⟩
    · rintro b ⟨id, hid, rfl⟩
      rcases split' hid with h1 | ⟨_, h2⟩
      · rcases hst.own _ ⟨id, h1, rfl⟩ with ⟨j, hj, e⟩ | h3
        · exact .inl ⟨j, ne1 hj, e⟩
        · exact .inr h3
      · exact .inl ⟨id, ne2 h2, (bse h2).symm⟩
    · rcases hst.ro' b hb with h1 | ⟨j, hj, e⟩ | h1
      · exact .inl h1
      · exact .inr (.inl ⟨j, ne1 hj, e⟩)
      · exact .inr (.inr h1)

/-- The same value, told with less. -/
def Sub (x y : AV) : Prop := ∀ K v, VR K x v → VR K y v
theorem Sub.refl (x : AV) : Sub x x := fun _ _ h => h
theorem Sub.empty : Sub .empty (.view []) := fun _ _ h => empty_view h
inductive Subs : List AV → List AV → Prop
  | nil : Subs [] []
  | cons {x y : AV} {xs ys : List AV} (h : Sub x y) (hs : Subs xs ys) : Subs (x :: xs) (y :: ys)
theorem Subs.refl : ∀ xs, Subs xs xs
  | [] => .nil
  | x :: xs => .cons (.refl x) (Subs.refl xs)
theorem Subs.VRs {xs ys : List AV} (h : Subs xs ys) {K : Ctx} : ∀ {vs : List Value}, Lg.VRs K xs vs → Lg.VRs K ys vs := by
  induction h with
  | nil => exact fun h => h
  | cons h hs ih =>
    intro vs hv
    cases vs with
    | nil => have := hv.1; simp at this
    | cons v vs => exact .cons (h K v hv.head) (ih hv.tail)
theorem Sub.agg {xs ys : List AV} (h : Subs xs ys) : Sub (.agg xs) (.agg ys) := fun K v hv => by
  obtain ⟨vs, rfl, hvs⟩ := hv.agg_inv
  exact VR.agg_.2 (h.VRs hvs)
theorem Sub.tuple {xs ys : List AV} (h : Subs xs ys) : Sub (.tuple xs) (.tuple ys) := fun K v hv => by
  obtain ⟨vs, rfl, hvs⟩ := hv.tuple_inv
  exact VR.tuple_.2 (h.VRs hvs)

section
variable {P : Program} {B : Fb → Prop} {T : TT} (hT : TOK P T) {N m : Nat} {o : Oper} {σ : St} {all rest : List Oper} {Q : AEx → St → Prop}
theorem callFunc_run {f : FuncId} (h : Callable P f) (args : Array Value) (w : World) : (callFunc f args).run P w = .ok (.enter f args) w := by
  obtain ⟨fn, h1, h2, h3⟩ := h
  have h4 : fn.body.isNone = false := by cases hb : fn.body <;> simp_all
  unfold callFunc
  rw [run_bindv (a := P) (w' := w) rfl]
  simp only [h1, h2, h4, Bool.false_eq_true, if_false]
  rfl
theorem opc_call {fo : Operand} {args : Array Operand} {ats : Array TypeId} {g : FuncId} {first cap xs ys : List AV} (hop : o.op = .call { callee := .value fo, args := args, argTypes := ats }) (hf : evo σ.tm fo = some (.func (.func g) first cap))
    (hx : evs σ.tm args.toList = some xs) (hc : Callable P g) (hs : Subs (first ++ xs ++ cap) ys) : OpC P N o σ g ys := by
  intro K a hsr
  have hv := evo_sound hsr.tr hf
  have hxs := evs_sound hsr.tr hx
  generalize hh : a.eval fo = v at hv
  cases v <;> cases hv
  rename_i fs cs h1 h2 h3 h4 h5
  have g1 : VRs K first fs.toList := ⟨by simpa using h2, fun i x v hx hv => by
    have := h3 i x hx; rw [Array.getD_eq_getD_getElem?] at this; rw [Array.getElem?_toList] at hv; simpa [hv] using this⟩
  have g2 : VRs K cap cs.toList := ⟨by simpa using h4, fun i x v hx hv => by
    have := h5 i x hx; rw [Array.getD_eq_getD_getElem?] at this; rw [Array.getElem?_toList] at hv; simpa [hv] using this⟩
  refine ⟨(fs ++ args.map a.eval) ++ cs, ?_, hs.VRs ?_⟩
  · unfold execOp; rw [hop]
    have hres : (resolve a.eval { callee := .value fo, args := args, argTypes := ats } o.type).run P K.w = .ok { target := .fn (.func g) cs, args := fs ++ args.map a.eval } K.w := by
      unfold resolve
      simp only [hh, Deferred.ofValue]
      rfl
    rw [run_bindv hres]
    unfold invoke
    exact callFunc_run hc _ _
  · simp only [Array.toList_append, Array.toList_map]
    exact (g1.append hxs).append g2
/-- A call of a function that only computes. -/
theorem wl_pcall {fo : Operand} {args : Array Operand} {ats : Array TypeId} {g : FuncId} {first cap xs ys : List AV} {X : AV → Prop} (hop : o.op = .call { callee := .value fo, args := args, argTypes := ats }) (hu : unguarded all o σ.tm true) (hd : ∀ t, o.dst = some t → t < N)
    (hf : evo σ.tm fo = some (.func (.func g) first cap)) (hx : evs σ.tm args.toList = some xs) (hs : Subs (first ++ xs ++ cap) ys) (hp : PF P g ys X) (h : ∀ x, X x → Pur x → WL P B N m all rest Q ⟨putT σ.tm o.dst x, σ.h, σ.n, σ.df⟩) : WL P B N m all (o :: rest) Q σ := by
  refine wl_call hu hd (by rw [hop]; intro c; simp) (opc_call hop hf hx hp.cal hs) (ac_pure hp σ.h σ.n) ?_
  rintro r h' n' ⟨rfl, rfl, x, rfl, hpu, hX⟩
  exact h x hX hpu

/-! ghost steps on slots -/
theorem TR.set_ {K : Ctx} {tm : Nat → AV} {tmps : Array Value} {d : Nat} {y : AV} (h : TR K N tm tmps) (hs : ∀ v, VR K (tm d) v → VR K y v) : TR K N (upd tm d y) tmps :=
  ⟨h.1, fun t => by
    by_cases e : t = d
    · subst e; rw [upd_same]; exact hs _ (h.2 t)
    · rw [upd_ne _ _ e]; exact h.2 t⟩
theorem g_sub {d : Nat} {y : AV} (hs : Sub (σ.tm d) y) : ∀ K a, SR K N σ a → ∃ K1, K1.w = K.w ∧ SR K1 N ⟨upd σ.tm d y, σ.h, σ.n, σ.df⟩ a ∧ Step K σ.h K1 σ.h :=
  fun K _ h => ⟨K, rfl, ⟨h.next, h.rel, h.tr.set_ (hs K), h.dr⟩, .refl _ _⟩
theorem g_kill (id : Nat) : ∀ K a, SR K N σ a → ∃ K1, K1.w = K.w ∧ SR K1 N ⟨σ.tm, upd σ.h id none, σ.n, σ.df⟩ a ∧ Step K σ.h K1 (upd σ.h id none) :=
  fun K _ h => ⟨K, rfl, ⟨h.next, (kill_ok h.rel id).1, h.tr, by
    have hE : Ext K K := Ext.refl K
    exact h.dr.mono hE⟩, (kill_ok h.rel id).2⟩
theorem slice_frozen {K : Ctx} {H : Heap} (hr : Rel K H) {id off len : Nat} {cap : Option Nat} {sz : Nat} {cs : List AV} {e : TypeId} {v : Value} (hH : H id = some (.cells cs e)) (hl : off + len * sz ≤ cs.length) (hv : VR K (.slice id off len cap sz) v) :
    VR (K.roAlso (K.base id)) (.view (chunk sz len (cs.drop off))) v := by
  have hid : H id ≠ none := by rw [hH]; simp
  obtain ⟨_, _, hE⟩ := freeze_ok hr hid
  cases hv with
  | @slice _ _ _ _ _ o' c hid' ho hc hl' hcap =>
    by_cases hp : 0 < len
    · rw [ho (by omega)]
      obtain ⟨vs, h1, h2⟩ := own_cells (hr.br id _ hH) off
      exact view_of_cells (h1.mono hE) h2 (.inr rfl) (by rw [List.length_drop]; omega) hl'
    · have e0 : len = 0 := by omega
      subst e0
      exact view_mk (rows := []) (esz := 0) (Nat.zero_le _) (by simp) (by simp)
/-- A slice of own memory that is only read from now on. -/
theorem g_freeze {d id off len : Nat} {cap : Option Nat} {sz : Nat} {cs : List AV} {e : TypeId} (hd : σ.tm d = .slice id off len cap sz) (hH : σ.h id = some (.cells cs e)) (hl : off + len * sz ≤ cs.length) :
    ∀ K a, SR K N σ a → ∃ K1, K1.w = K.w ∧ SR K1 N ⟨upd σ.tm d (.view (chunk sz len (cs.drop off))), upd σ.h id none, σ.n, σ.df⟩ a ∧ Step K σ.h K1 (upd σ.h id none) := by
  intro K a h
  have hid : σ.h id ≠ none := by rw [hH]; simp
  obtain ⟨h1, h2, hE⟩ := freeze_ok h.rel hid
  refine ⟨K.roAlso (K.base id), rfl, ⟨h.next, h1, ⟨h.tr.1, fun t => ?_⟩, h.dr.mono hE⟩, h2⟩
  show VR _ (upd σ.tm d _ t) _
  by_cases et : t = d
  · subst et
    rw [upd_same]
    have := h.tr.2 t
    rw [hd] at this
    exact slice_frozen h.rel hH hl this
  · rw [upd_ne _ _ et]; exact (h.tr.2 t).mono hE
/-- A variable that is only read from now on. -/
theorem g_freeze_ptr {d id off : Nat} {cs : List AV} {e : TypeId} (hd : σ.tm d = .ptr id off) (hH : σ.h id = some (.cells cs e)) :
    ∀ K a, SR K N σ a → ∃ K1, K1.w = K.w ∧ SR K1 N ⟨upd σ.tm d (.vptr (cs.drop off)), upd σ.h id none, σ.n, σ.df⟩ a ∧ Step K σ.h K1 (upd σ.h id none) := by
  intro K a h
  have hid : σ.h id ≠ none := by rw [hH]; simp
  obtain ⟨h1, h2, hE⟩ := freeze_ok h.rel hid
  refine ⟨K.roAlso (K.base id), rfl, ⟨h.next, h1, ⟨h.tr.1, fun t => ?_⟩, h.dr.mono hE⟩, h2⟩
  show VR _ (upd σ.tm d _ t) _
  by_cases et : t = d
  · subst et
    rw [upd_same]
    have := h.tr.2 t
    rw [hd] at this
    obtain ⟨hv, hlt⟩ := this.ptr_inv
    rw [hv]
    obtain ⟨vs, g1, g2⟩ := own_cells (h.rel.br id _ hH) off
    exact vptr_mk (.inr rfl) (g1.mono hE) g2
  · rw [upd_ne _ _ et]; exact (h.tr.2 t).mono hE
/-- A slice that lies in a cell of own memory, only read from now on. -/
theorem g_freeze_cell {id j id2 off len : Nat} {cap : Option Nat} {sz : Nat} {cs cs2 : List AV} {e e2 : TypeId} (hne : id ≠ id2) (hH : σ.h id = some (.cells cs e)) (hj : cs[j]? = some (.slice id2 off len cap sz)) (hH2 : σ.h id2 = some (.cells cs2 e2)) (hl : off + len * sz ≤ cs2.length) :
    ∀ K a, SR K N σ a → ∃ K1, K1.w = K.w ∧ SR K1 N ⟨σ.tm, upd (upd σ.h id2 none) id (some (.cells (cs.set j (.view (chunk sz len (cs2.drop off)))) e)), σ.n, σ.df⟩ a ∧ Step K σ.h K1 (upd (upd σ.h id2 none) id (some (.cells (cs.set j (.view (chunk sz len (cs2.drop off)))) e))) := by
  intro K a h
  have hid2 : σ.h id2 ≠ none := by rw [hH2]; simp
  obtain ⟨h1, h2, hE⟩ := freeze_ok h.rel hid2
  have hidlt := h.rel.lt id (by rw [hH]; simp)
  have hnew : BR (K.roAlso (K.base id2)) id (.cells (cs.set j (.view (chunk sz len (cs2.drop off)))) e) := by
    obtain ⟨arr, fr, ha, ht, hz, hlen, hv⟩ := h.rel.br id _ hH
    refine ⟨arr, fr, ha, ht, hz, by rw [List.length_set]; exact hlen, fun i x hx => ?_⟩
    rw [List.getElem?_set] at hx
    by_cases ei : j = i
    · subst ei
      rw [if_pos rfl] at hx
      split at hx
      · cases hx
        obtain ⟨v, g1, g2⟩ := hv j _ hj
        exact ⟨v, g1, slice_frozen h.rel hH2 hl g2⟩
      · cases hx
    · rw [if_neg ei] at hx
      obtain ⟨v, g1, g2⟩ := hv i x hx
      exact ⟨v, g1, g2.mono hE⟩
  have hid' : upd σ.h id2 none id ≠ none := by rw [upd_ne _ _ hne, hH]; simp
  have hw : Wrote (K.roAlso (K.base id2)).w (K.roAlso (K.base id2)).w ((K.roAlso (K.base id2)).base id) := ⟨rfl, fun _ _ => rfl, rfl, rfl, rfl⟩
  obtain ⟨k1, k2⟩ := wrote_ok h1 hid' hw hnew
  exact ⟨K.roAlso (K.base id2), rfl, ⟨h.next, k1, ⟨h.tr.1, fun t => (h.tr.2 t).mono hE⟩, h.dr.mono hE⟩, h2.trans k2⟩
end

/-! results -/
def resOne (T : TT) (σ : St) : ResultVar → Option AV
  | .tmp t => some (σ.tm t)
  | .cell a t => match T t, σ.tm a with
    | some i, .vptr cells => loadA i cells
    | some i, .ptr id off => match σ.h id with
      | some (.cells cs _) => loadA i (cs.drop off)
      | _ => none
    | _, _ => none
def resA (T : TT) (σ : St) : List ResultVar → Option (List AV)
  | [] => some []
  | r :: rs => match resOne T σ r, resA T σ rs with
    | some x, some xs => some (x :: xs)
    | _, _ => none
def tup : List AV → AV
  | [x] => x
  | xs => .tuple xs
section
variable {P : Program} {B : Fb → Prop} {T : TT} (hT : TOK P T) {N : Nat} {σ : St}
include hT
theorem resOne_run {K : Ctx} {a : Act} (hs : SR K N σ a) {r : ResultVar} {x : AV} (h : resOne T σ r = some x) :
    ∃ v, ((match r with
      | .tmp t => pure (a.tmps.getD t undef)
      | .cell ad t => do loadVar t (← asAddr (a.tmps.getD ad undef)) : Sem Value)).run P K.w = .ok v K.w ∧ VR K x v := by
  cases r with
  | tmp t => cases h; exact ⟨_, rfl, hs.tr.2 t⟩
  | cell ad t =>
    simp only [resOne] at h
    have hv := hs.tr.2 ad
    split at h
    · rename_i i cells hi e
      rw [e] at hv
      obtain ⟨blk, off, vs, hv', _, hvs, hc⟩ := vptr_cells hv
      obtain ⟨v, h1, h2⟩ := r_loadVar hT hi hvs hc h
      refine ⟨v, ?_, h2⟩
      simp only
      rw [hv', run_bindv (a := ⟨blk, off, none⟩) (w' := K.w) rfl]
      exact h1
    · rename_i i id off hi e
      rw [e] at hv
      obtain ⟨hv', hlt⟩ := hv.ptr_inv
      split at h
      · rename_i cs e' hH
        obtain ⟨vs, hvs, hc⟩ := own_cells (hs.rel.br id _ hH) off
        obtain ⟨v, h1, h2⟩ := r_loadVar hT hi hvs hc h
        refine ⟨v, ?_, h2⟩
        simp only
        rw [hv', run_bindv (a := ⟨K.base id, K.boff id + off, none⟩) (w' := K.w) rfl]
        exact h1
      · cases h
    · cases h
theorem resv_of {fn : Func} {xs : List AV} (h : resA T σ fn.results.toList = some xs) : ResV P N fn σ (tup xs) := by
  intro K a hs
  have key : ∀ (rs : List ResultVar) (xs : List AV), resA T σ rs = some xs → ∃ vs, (rs.mapM (fun (r : ResultVar) => match r with
      | .tmp t => pure (a.tmps.getD t undef)
      | .cell ad t => do loadVar t (← asAddr (a.tmps.getD ad undef)) : ResultVar → Sem Value)).run P K.w = .ok vs K.w ∧ VRs K xs vs := by
    intro rs
    induction rs with
    | nil => intro xs h; cases h; exact ⟨[], by simp, VRs.nil K⟩
    | cons r rs ih =>
      intro xs h
      unfold resA at h
      split at h
      · rename_i x xs' h1 h2
        cases h
        obtain ⟨v, g1, g2⟩ := resOne_run hT hs h1
        obtain ⟨vs, k1, k2⟩ := ih xs' h2
        refine ⟨v :: vs, ?_, .cons g2 k2⟩
        rw [List.mapM_cons, run_bindv g1, run_bindv k1]; rfl
      · cases h
  obtain ⟨vs, h1, h2⟩ := key _ _ h
  have hm : (fn.results.mapM (fun (r : ResultVar) => match r with
      | .tmp t => pure (a.tmps.getD t undef)
      | .cell ad t => do loadVar t (← asAddr (a.tmps.getD ad undef)) : ResultVar → Sem Value)).run P K.w = .ok vs.toArray K.w := by
    rw [Array.mapM_eq_mapM_toList]
    simp only [Sem.run_map]
    rw [h1]; rfl
  refine ⟨if h : vs.toArray.size = 1 then vs.toArray[0] else .tuple vs.toArray, ?_, ?_⟩
  · unfold results
    exact (run_bindv hm).trans rfl
  · match xs, vs, h2 with
    | [], [], h2 => exact VR.tuple_.2 h2
    | [x], [v], h2 => exact h2.head
    | x :: y :: xs, [], h2 => have := h2.1; simp at this
    | x :: y :: xs, [v], h2 => have := h2.1; simp at this
    | x :: y :: xs, v :: u :: vs, h2 =>
      rw [dif_neg (by simp)]
      exact VR.tuple_.2 (by simpa using h2)
    | [], v :: vs, h2 => have := h2.1; simp at this
    | [x], [], h2 => have := h2.1; simp at this
    | [x], v :: u :: vs, h2 => have := h2.1; simp at this
end
theorem ResV.sub {P : Program} {N : Nat} {fn : Func} {σ : St} {x y : AV} (h : ResV P N fn σ x) (hs : Sub x y) : ResV P N fn σ y :=
  fun K a h' => let ⟨v, h1, h2⟩ := h K a h'; ⟨v, h1, hs K v h2⟩

/-- A function that only computes, by its body. -/
def DoneP (P : Program) (fn : Func) (X : AV → Prop) : AEx → St → Prop
  | .normal, σ | .ret, σ => σ.df = [] ∧ ∃ x, ResV P fn.ntmps fn σ x ∧ Pur x ∧ X x
  | _, _ => False
theorem pf_of_w {P : Program} {f : FuncId} {fn : Func} {c : Code} {args : List AV} {X : AV → Prop} (hf : P.funcs[f]? = some fn) (hb : fn.body = some c) (hn : (fn.name == "runtime.NumGoroutine") = false) (hN : args.length ≤ fn.ntmps)
    (h : ∀ n, W P Plain fn.ntmps n c (DoneP P fn X) ⟨args0 args, noHeap, n, []⟩) : PF P f args X := by
  refine ⟨⟨fn, hf, hn, by rw [hb]; rfl⟩, fun n => ac_of_w hf hb hN ((h n).mono ?_)⟩
  rintro e σ hq
  cases e with
  | normal => obtain ⟨h1, x, h2, h3, h4⟩ := hq; exact ⟨h1, x, h2, x, rfl, h3, h4⟩
  | ret => obtain ⟨h1, x, h2, h3, h4⟩ := hq; exact ⟨h1, x, h2, x, rfl, h3, h4⟩
  | _ => exact hq.elim
end Go.Lg
