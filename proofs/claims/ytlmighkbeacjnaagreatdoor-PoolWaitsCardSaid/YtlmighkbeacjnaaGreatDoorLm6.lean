/- Answers in new memory: what a function hands back that it made itself, told by its content; calls with such a contract; own memory as arguments. -/
import Derived.Test.YtlmighkbeacjnaaGreatDoorLm5

set_option linter.unusedVariables false
set_option linter.unusedSimpArgs false
set_option linter.unusedSectionVars false
namespace Go.Lg
open Go
/-- A value that is made of own memory alone, of ids in 'S', and what it reads as. -/
inductive Own (H : Heap) (S : Nat → Prop) : AV → AV → Prop
  | bool (b : Bool) : Own H S (.bool b) (.bool b)
  | int (k : IntKind) (n : Int) : Own H S (.int k n) (.int k n)
  | str (s : List UInt8) : Own H S (.str s) (.str s)
  | nothing : Own H S .empty (.view [])
  | slice {id off len : Nat} {cap : Option Nat} {sz : Nat} {cs : List AV} {e : TypeId} {ys : List AV} (hlo : S id) (hH : H id = some (.cells cs e)) (hl : off + len * sz ≤ cs.length) (hy : ys.length = len * sz)
      (h : ∀ (i : Nat) x y, cs[off + i]? = some x → ys[i]? = some y → Own H S x y) : Own H S (.slice id off len cap sz) (.view (chunk sz len ys))
  | agg {xs ys : List AV} (hy : ys.length = xs.length) (h : ∀ (i : Nat) x y, xs[i]? = some x → ys[i]? = some y → Own H S x y) : Own H S (.agg xs) (.agg ys)
  | tuple {xs ys : List AV} (hy : ys.length = xs.length) (h : ∀ (i : Nat) x y, xs[i]? = some x → ys[i]? = some y → Own H S x y) : Own H S (.tuple xs) (.tuple ys)
theorem chunk_mem {sz : Nat} : ∀ {n : Nat} {l r : List AV}, r ∈ chunk sz n l → ∀ x, x ∈ r → x ∈ l
  | 0, l, r, h, x, hx => by cases h
  | n + 1, l, r, h, x, hx => by
    rw [chunk] at h
    rcases List.mem_cons.1 h with rfl | h
    · exact List.mem_of_mem_take hx
    · exact List.mem_of_mem_drop (chunk_mem h x hx)
theorem chunk_flat {sz : Nat} : ∀ {n : Nat} {l : List AV}, n * sz ≤ l.length → (chunk sz n l).flatten = l.take (n * sz)
  | 0, l, _ => by simp [chunk]
  | n + 1, l, h => by
    rw [Nat.add_mul] at h
    rw [chunk, List.flatten_cons, chunk_flat (by rw [List.length_drop]; omega), Nat.add_mul, Nat.one_mul, Nat.add_comm (n * sz) sz, List.take_add]
theorem Own.fz {H : Heap} {S : Nat → Prop} {x y : AV} (h : Own H S x y) : Fz H x y := by
  induction h with
  | bool b => exact .pur (.bool b)
  | int k n => exact .pur (.int k n)
  | str s => exact .pur (.str s)
  | nothing => exact .nothing
  | slice _ hH hl hy _ ih => exact .slice hH hl hy ih
  | agg hy _ ih => exact .agg hy ih
  | tuple hy _ ih => exact .tuple hy ih
theorem list_pur {xs ys : List AV} {P : AV → Prop} (hl : ys.length ≤ xs.length) (h : ∀ (i : Nat) x y, xs[i]? = some x → ys[i]? = some y → P y) : ∀ y, y ∈ ys → P y := by
  intro y hy
  obtain ⟨i, hi, rfl⟩ := List.getElem_of_mem hy
  exact h i (xs[i]'(by omega)) _ (List.getElem?_eq_getElem _) (List.getElem?_eq_getElem _)
theorem Own.pur {H : Heap} {S : Nat → Prop} {x y : AV} (h : Own H S x y) : Pur y := by
  induction h with
  | bool b => exact .bool b
  | int k n => exact .int k n
  | str s => exact .str s
  | nothing => exact .view (fun r hr => by cases hr)
  | @slice id off len cap sz cs e ys _ hH hl hy h ih =>
    have hp : ∀ y, y ∈ ys → Pur y := list_pur (xs := cs.drop off) (by rw [List.length_drop]; omega) (fun i x y h1 h2 => ih i x y (by rw [List.getElem?_drop] at h1; exact h1) h2)
    exact .view (fun r hr x hx => hp x (chunk_mem hr x hx))
  | agg hy _ ih => exact .agg (list_pur (by omega) ih)
  | tuple hy _ ih => exact .tuple (list_pur (by omega) ih)
theorem Own.mono {H H' : Heap} {S S' : Nat → Prop} (hS : ∀ id, S id → S' id) (hs : ∀ id b, S id → H id = some b → H' id = some b) {x y : AV} (h : Own H S x y) : Own H' S' x y := by
  induction h with
  | bool b => exact .bool b
  | int k n => exact .int k n
  | str s => exact .str s
  | nothing => exact .nothing
  | slice h1 hH hl hy _ ih => exact .slice (hS _ h1) (hs _ _ h1 hH) hl hy ih
  | agg hy _ ih => exact .agg hy ih
  | tuple hy _ ih => exact .tuple hy ih
theorem Own.mv {H H' : Heap} {S S' : Nat → Prop} (hs : ∀ id b, S id → H id = some b → S' id ∧ H' id = some b) {x y : AV} (h : Own H S x y) : Own H' S' x y := by
  induction h with
  | bool b => exact .bool b
  | int k n => exact .int k n
  | str s => exact .str s
  | nothing => exact .nothing
  | slice h1 hH hl hy _ ih => exact .slice (hs _ _ h1 hH).1 (hs _ _ h1 hH).2 hl hy ih
  | agg hy _ ih => exact .agg hy ih
  | tuple hy _ ih => exact .tuple hy ih
/-- Lists of such. -/
def OwnL (H : Heap) (S : Nat → Prop) (xs ys : List AV) : Prop := ys.length = xs.length ∧ ∀ (i : Nat) x y, xs[i]? = some x → ys[i]? = some y → Own H S x y
theorem OwnL.nil {H : Heap} {S : Nat → Prop} : OwnL H S [] [] := ⟨rfl, by simp⟩
theorem OwnL.cons {H : Heap} {S : Nat → Prop} {x y : AV} {xs ys : List AV} (h : Own H S x y) (hs : OwnL H S xs ys) : OwnL H S (x :: xs) (y :: ys) :=
  ⟨by simp [hs.1], fun i u v hu hv => by
    cases i with
    | zero => simp at hu hv; subst hu hv; exact h
    | succ i => simp at hu hv; exact hs.2 i u v hu hv⟩
theorem OwnL.mono {H H' : Heap} {S S' : Nat → Prop} (hS : ∀ id, S id → S' id) (hs : ∀ id b, S id → H id = some b → H' id = some b) {xs ys : List AV} (h : OwnL H S xs ys) : OwnL H' S' xs ys :=
  ⟨h.1, fun i x y h1 h2 => (h.2 i x y h1 h2).mono hS hs⟩
theorem OwnL.append {H : Heap} {S : Nat → Prop} {xs ys us vs : List AV} (h : OwnL H S xs ys) (h' : OwnL H S us vs) : OwnL H S (xs ++ us) (ys ++ vs) :=
  ⟨by simp [h.1, h'.1], fun i x y hx hy => by
    rw [List.getElem?_append] at hx hy
    rw [h.1] at hy
    split at hx
    · rename_i hlt; rw [if_pos hlt] at hy; exact h.2 i x y hx hy
    · rename_i hlt; rw [if_neg hlt] at hy; exact h'.2 _ x y hx hy⟩
theorem OwnL.agg {H : Heap} {S : Nat → Prop} {xs ys : List AV} (h : OwnL H S xs ys) : Own H S (.agg xs) (.agg ys) := .agg h.1 h.2
theorem OwnL.tuple {H : Heap} {S : Nat → Prop} {xs ys : List AV} (h : OwnL H S xs ys) : Own H S (.tuple xs) (.tuple ys) := .tuple h.1 h.2
theorem own_rows {H : Heap} {S : Nat → Prop} {id : Nat} {cap : Option Nat} {sz len : Nat} {xs : List AV} {rows : List (List AV)} {e : TypeId} (hlo : S id) (hH : H id = some (.cells xs e)) (hlen : rows.length = len) (hr : ∀ r, r ∈ rows → r.length = sz) (h : OwnL H S xs rows.flatten) : Own H S (.slice id 0 len cap sz) (.view rows) := by
  subst hlen
  have h1 := flat_len hr
  have := Own.slice (off := 0) (len := rows.length) (cap := cap) (sz := sz) hlo hH (by rw [← h.1, h1]; omega) h1 (fun i x y hx hy => h.2 i x y (by simpa using hx) hy)
  rwa [chunk_flatten hr] at this
theorem Own.agg_inv {H : Heap} {S : Nat → Prop} {x : AV} {ys : List AV} (h : Own H S x (.agg ys)) : ∃ xs, x = .agg xs ∧ OwnL H S xs ys := by
  cases h with
  | agg hy h => exact ⟨_, rfl, hy, h⟩
theorem Own.tuple_inv {H : Heap} {S : Nat → Prop} {x : AV} {ys : List AV} (h : Own H S x (.tuple ys)) : ∃ xs, x = .tuple xs ∧ OwnL H S xs ys := by
  cases h with
  | tuple hy h => exact ⟨_, rfl, hy, h⟩
theorem Own.int_inv {H : Heap} {S : Nat → Prop} {x : AV} {k : IntKind} {n : Int} (h : Own H S x (.int k n)) : x = .int k n := by cases h; rfl
theorem Own.bool_inv {H : Heap} {S : Nat → Prop} {x : AV} {b : Bool} (h : Own H S x (.bool b)) : x = .bool b := by cases h; rfl
theorem OwnL.cons_inv {H : Heap} {S : Nat → Prop} {xs ys : List AV} {y : AV} (h : OwnL H S xs (y :: ys)) : ∃ x r, xs = x :: r ∧ Own H S x y ∧ OwnL H S r ys := by
  cases xs with
  | nil => have := h.1; simp at this
  | cons x r => exact ⟨x, r, rfl, h.2 0 x y rfl rfl, by have := h.1; simpa using this, fun i u v hu hv => h.2 (i + 1) u v (by simpa using hu) (by simpa using hv)⟩
theorem OwnL.nil_inv {H : Heap} {S : Nat → Prop} {xs : List AV} (h : OwnL H S xs []) : xs = [] := List.eq_nil_of_length_eq_zero h.1.symm
theorem own_scal {H : Heap} {S : Nat → Prop} {x : AV} {rows : List (List AV)} (h : Own H S x (.view rows)) : scalA x = true ∧ cellsA x = [x] := by
  generalize hv : AV.view rows = v at h
  cases h with
  | nothing => exact ⟨rfl, rfl⟩
  | slice => exact ⟨rfl, rfl⟩
  | _ => cases hv
/-- A slice that is told by rows of one length. -/
theorem Own.view_inv {H : Heap} {S : Nat → Prop} {sz : Nat} {x : AV} {rows : List (List AV)} (hsz : ∀ r, r ∈ rows → r.length = sz) (h0 : 0 < rows.length) (h : Own H S x (.view rows)) :
    ∃ id off cap cs e, x = .slice id off rows.length cap sz ∧ S id ∧ H id = some (.cells cs e) ∧ off + rows.length * sz ≤ cs.length ∧ ∀ (i : Nat) u v, cs[off + i]? = some u → rows.flatten[i]? = some v → Own H S u v := by
  generalize hv : AV.view rows = v at h
  cases h with
  | nothing => injection hv with hv; subst hv; cases h0
  | @slice id off len cap sz' cs e ys hlo hH hl hy h =>
    injection hv with hv
    have hlen : rows.length = len := by rw [hv, chunk_length]
    have hs : sz' = sz := by
      cases len with
      | zero => omega
      | succ n =>
        have := hsz (ys.take sz') (by rw [hv, chunk]; exact List.mem_cons_self)
        rw [List.length_take, hy] at this
        rw [Nat.add_mul] at this
        omega
    subst hs hlen
    have hf : rows.flatten = ys := by
      rw [hv, chunk_flat (by omega)]
      exact List.take_of_length_le (by omega)
    exact ⟨id, off, cap, cs, e, rfl, hlo, hH, hl, by rw [hf]; exact h⟩
  | _ => cases hv
theorem Own.nil_inv {H : Heap} {S : Nat → Prop} {x : AV} (h : Own H S x (.view [])) : x = .empty ∨ ∃ id off cap sz cs e, x = .slice id off 0 cap sz ∧ S id ∧ H id = some (.cells cs e) ∧ off ≤ cs.length := by
  generalize hv : AV.view [] = v at h
  cases h with
  | nothing => exact .inl rfl
  | @slice id off len cap sz' cs e ys hlo hH hl hy h =>
    injection hv with hv
    have : len = 0 := by have := congrArg List.length hv; rw [chunk_length] at this; simpa using this.symm
    subst this
    exact .inr ⟨id, off, cap, sz', cs, e, rfl, hlo, hH, by omega⟩
  | _ => cases hv
section
variable {P : Program}
/-- A function whose answer is made of new memory. -/
structure NF (P : Program) (f : FuncId) (args : List AV) (X : AV → Prop) : Prop where
  cal : Callable P f
  run : ∀ n, AC P f args noHeap n fun r H' _ => ∃ x y, r = .ret x ∧ Own H' (n ≤ ·) x y ∧ X y
theorem NF.mono {f : FuncId} {args : List AV} {X Y : AV → Prop} (h : NF P f args X) (hx : ∀ x, X x → Y x) : NF P f args Y :=
  ⟨h.cal, fun n => (h.run n).mono fun _ _ _ ⟨x, y, h1, h2, h3⟩ => ⟨x, y, h1, h2, hx y h3⟩⟩
theorem NF.pf {f : FuncId} {args : List AV} {X : AV → Prop} (h : NF P f args X) : PF P f args X :=
  ⟨h.cal, fun n => ac_fz ((h.run n).mono fun _ _ _ ⟨x, y, h1, h2, h3⟩ => ⟨x, y, h1, h2.fz, h2.pur, h3⟩)⟩
theorem ac_bound {f : FuncId} {args : List AV} {H : Heap} {n : Nat} {Q : AR → Heap → Nat → Prop} (h : AC P f args H n Q) :
    AC P f args H n fun r H' n' => Q r H' n' ∧ n ≤ n' ∧ (∀ id, n ≤ id → H id = none) ∧ ∀ id, n' ≤ id → H' id = none := by
  intro K vs hn hr hv
  refine (h K vs hn hr hv).mono ?_
  rintro e w' ⟨K', H', r, hw, hr', hst, hrr, hq⟩
  refine ⟨K', H', r, hw, hr', hst, hrr, hq, hn ▸ hst.next, fun id hid => ?_, fun id hid => ?_⟩
  · cases hh : H id with
    | none => rfl
    | some b => have := hr.lt id (by rw [hh]; simp); omega
  · cases hh : H' id with
    | none => rfl
    | some b => have := hr'.lt id (by rw [hh]; simp); omega
/-- Such a call from any memory: what there was stays. -/
theorem NF.ac {f : FuncId} {args : List AV} {X : AV → Prop} (h : NF P f args X) (H : Heap) (n : Nat) :
    AC P f args H n fun r H' n' => n ≤ n' ∧ (∀ id b, H id = some b → H' id = some b) ∧ (∀ id, n' ≤ id → H' id = none) ∧ ∃ x y, r = .ret x ∧ Own H' (n ≤ ·) x y ∧ X y := by
  have h1 := ac_bound (ac_frame (H1 := noHeap) (H2 := H) (fun id h => absurd rfl h) (h.run n))
  have e : noHeap.or H = H := by funext i; rfl
  rw [e] at h1
  refine h1.mono ?_
  rintro r H' n' ⟨⟨H1, rfl, hd, x, y, hr, ho, hx⟩, hn, h0, hb⟩
  refine ⟨hn, fun id b hid => ?_, hb, x, y, hr, ho.mono (fun _ h => h) (fun id b _ h => by simp [Heap.or, h]), hx⟩
  have : H1 id = none := by
    cases h1 : H1 id with
    | none => rfl
    | some c => have := hd id (by rw [h1]; simp); rw [this] at hid; cases hid
  simp [Heap.or, this, hid]
/-- An answer that tells of no memory. -/
inductive Flat : AV → Prop
  | bool (b : Bool) : Flat (.bool b)
  | int (k : IntKind) (n : Int) : Flat (.int k n)
  | str (s : List UInt8) : Flat (.str s)
  | agg {xs : List AV} (h : ∀ x, x ∈ xs → Flat x) : Flat (.agg xs)
  | tuple {xs : List AV} (h : ∀ x, x ∈ xs → Flat x) : Flat (.tuple xs)
theorem Flat.vr {K K' : Ctx} {x : AV} (hf : Flat x) : ∀ {v}, VR K x v → VR K' x v := by
  induction hf with
  | bool b => intro v h; cases h; exact .bool b
  | int k n => intro v h; cases h; exact .int k n
  | str s => intro v h; generalize hx : AV.str s = x at h; cases h with | str s' => exact .str s' | _ => cases hx
  | agg _ ih => intro v h; cases h with | agg h1 h => exact .agg h1 (fun i x hx => ih x (List.mem_of_getElem? hx) (h i x hx))
  | tuple _ ih => intro v h; cases h with | tuple h1 h => exact .tuple h1 (fun i x hx => ih x (List.mem_of_getElem? hx) (h i x hx))
theorem Flat.own {H : Heap} {S : Nat → Prop} {x : AV} (hf : Flat x) : Own H S x x := by
  induction hf with
  | bool b => exact .bool b
  | int k n => exact .int k n
  | str s => exact .str s
  | agg _ ih => exact .agg rfl (fun i x y h1 h2 => by rw [h1] at h2; cases h2; exact ih x (List.mem_of_getElem? h1))
  | tuple _ ih => exact .tuple rfl (fun i x y h1 h2 => by rw [h1] at h2; cases h2; exact ih x (List.mem_of_getElem? h1))
/-- A call that reads own memory. -/
theorem PF.look {f : FuncId} {args ys : List AV} {y : AV} (h : PF P f ys (fun r => r = y)) (hy : Flat y) (H : Heap) (n : Nat) (hF : FzL H args ys) : AC P f args H n fun r H' n' => r = .ret y ∧ H' = H ∧ n' = n :=
  (ac_look h H n hF.get.1 hF.get.2 (fun x hx K K' v hv => by subst hx; exact hy.vr hv)).mono (by rintro r H' n' ⟨rfl, rfl, x, rfl, _, rfl⟩; exact ⟨rfl, rfl, rfl⟩)
end
end Go.Lg

/- Maps of own memory, whose keys are whole numbers. -/
set_option linter.unusedSimpArgs false
set_option linter.unusedSectionVars false
namespace Go.Lg
open Go
set_option linter.unusedVariables false
/-- A type's zero as one value. -/
def zeroA (i : TI) : Option AV := if isAggD i.desc then some (.agg i.zero) else match i.zero with
  | [x] => some x
  | _ => none
theorem r_zeroA {P : Program} {T : TT} (hT : TOK P T) {t : TypeId} {i : TI} (ht : T t = some i) {x : AV} (hx : zeroA i = some x) (w : World) : ∃ z, (zeroValue t).run P w = .ok z w ∧ ∀ K, VR K x z := by
  obtain ⟨z, h1, h2, h3, h4⟩ := r_zero hT ht w
  refine ⟨z, h1, fun K => ?_⟩
  unfold zeroA at hx
  by_cases ha : isAggD i.desc = true
  · rw [if_pos ha] at hx
    cases hx
    rw [h3 ha]
    exact VR.agg_.2 (h4 K)
  · rw [if_neg ha] at hx
    have ha' : isAggD i.desc = false := by simpa using ha
    obtain ⟨ti, z', g1, g2, g3⟩ := hT.nagg t i ht ha'
    have hz : z' = z := by
      have : (zeroValue t).run P w = .ok z' w := by simp [zeroValue, typeInfo, program, Sem.run, g1, g2]
      rw [h1] at this; cases this; rfl
    subst hz
    split at hx
    · rename_i y hy
      cases hx
      have := h4 K
      rw [hy, g3] at this
      exact this.head
    · cases hx
def findM (k : Int) (kk : IntKind) : List (AV × AV) → Nat → Option (Option (Nat × AV))
  | [], _ => some none
  | (.int k' b, v) :: es, i => if kk = k' then (if k = b then some (some (i, v)) else findM k kk es (i + 1)) else none
  | _ :: _, _ => none
/-- Entries as they read. -/
def MR (K : Ctx) (es : List (AV × AV)) (l : List MapEntry) : Prop := l.length = es.length ∧ ∀ (j : Nat) p, es[j]? = some p → ∃ m, l[j]? = some m ∧ VR K p.1 m.key ∧ VR K p.2 m.val
theorem MR.tail {K : Ctx} {p : AV × AV} {es : List (AV × AV)} {m : MapEntry} {l : List MapEntry} (h : MR K (p :: es) (m :: l)) : MR K es l :=
  ⟨by simpa using h.1, fun j p hp => by simpa using h.2 (j + 1) p (by simpa using hp)⟩
theorem MR.head {K : Ctx} {p : AV × AV} {es : List (AV × AV)} {m : MapEntry} {l : List MapEntry} (h : MR K (p :: es) (m :: l)) : VR K p.1 m.key ∧ VR K p.2 m.val := by
  obtain ⟨m', h1, h2⟩ := h.2 0 p rfl
  simp at h1; subst h1; exact h2
theorem find_sound {K : Ctx} {k : Int} {kk kd : IntKind} : ∀ (es : List (AV × AV)) (l : List MapEntry) (i : Nat) (r : Option (Nat × AV)), MR K es l → findM k kk es i = some r →
    match r with
    | none => Instr.findNow (.int kd) (.int kk k) l i = some none
    | some (j, v) => ∃ u m, Instr.findNow (.int kd) (.int kk k) l i = some (some (j, u)) ∧ VR K v u ∧ i ≤ j ∧ j < i + es.length ∧ l[j - i]? = some m ∧ m.key = .int kk k ∧ m.val = u
  | [], l, i, r, h, e => by
    have : l = [] := List.eq_nil_of_length_eq_zero h.1
    subst this
    cases e; rfl
  | (p, v) :: es, [], i, r, h, e => by have := h.1; simp at this
  | (p, v) :: es, m :: l, i, r, h, e => by
    obtain ⟨h1, h2⟩ := h.head
    simp only at h1 h2
    cases p with
    | int k' b =>
      have hk := h1.int_inv
      simp only [findM] at e
      split at e
      · rename_i hkk
        subst hkk
        split at e
        · rename_i hb
          cases e
          subst hb
          refine ⟨m.val, m, ?_, h2, Nat.le_refl _, by simp, by simp, hk, rfl⟩
          simp [Instr.findNow, Instr.sameNow, hk]
        · rename_i hb
          have ih := find_sound (kd := kd) es l (i + 1) r h.tail e
          have hf : Instr.findNow (.int kd) (.int kk k) (m :: l) i = Instr.findNow (.int kd) (.int kk k) l (i + 1) := by
            have : (k == b) = false := by simpa using hb
            simp [Instr.findNow, Instr.sameNow, hk, this]
          cases r with
          | none => simp only at ih ⊢; rw [hf]; exact ih
          | some q =>
            obtain ⟨j, w⟩ := q
            obtain ⟨u, m', g1, g2, g3, g4, g5, g6, g7⟩ := ih
            refine ⟨u, m', by rw [hf]; exact g1, g2, by omega, by simp only [List.length_cons]; omega, ?_, g6, g7⟩
            rw [show j - i = (j - (i + 1)) + 1 by omega, List.getElem?_cons_succ]
            exact g5
      · cases e
    | _ => simp [findM] at e
theorem checkKey_int {P : Program} {T : TT} (hT : TOK P T) {t : TypeId} {i : TI} {kd : IntKind} (ht : T t = some i) (hd : i.desc = .int kd) (b : Bool) (k : IntKind) (n : Int) (f : Nat) (w : World) : (Instr.checkKey b (f + 1) t (.int k n)).run P w = .ok () w := by
  have hu := r_und hT ht w
  rw [hd] at hu
  unfold Instr.checkKey
  rw [run_bindv hu]
  rfl
theorem findKey_run {P : Program} {T : TT} (hT : TOK P T) {t : TypeId} {i : TI} {kd : IntKind} (ht : T t = some i) (hd : i.desc = .int kd) {k : Value} {l : List MapEntry} {r : Option (Nat × Value)} (h : Instr.findNow (.int kd) k l 0 = some r) (w : World) : (Instr.findKey t k l).run P w = .ok r w := by
  have hu := r_und hT ht w
  rw [hd] at hu
  unfold Instr.findKey
  rw [run_bindv hu, h]
  rfl
def valM (z : AV) (r : Option (Nat × AV)) : AV := match r with
  | some (_, v) => v
  | none => z
def gotM (z : AV) (ok : Bool) (r : Option (Nat × AV)) : AV := if ok then .tuple [valM z r, .bool r.isSome] else valM z r
section
variable {P : Program} {T : TT} (hT : TOK P T) {N : Nat} {o : Oper} {σ : St}
theorem opv_makeMap {t : TypeId} (hop : o.op = .makeMap t none) : OpV P N o σ (.map σ.n) (upd σ.h σ.n (some (.map []))) (σ.n + 1) := by
  intro K a hs
  have hb : BR (K.newOwn (.map #[] 0) 0) K.next (.map []) := by
    refine ⟨#[], 0, ?_, rfl, fun j p hp => by cases hp⟩
    show (K.w.heap.push _)[upd K.base K.next _ K.next]? = _
    rw [upd_same]; simp
  obtain ⟨h1, h2⟩ := newOwn_ok hs.rel hb
  have e1 : (K.newOwn (.map #[] 0) 0).base K.next = K.w.heap.size := upd_same _ _ _
  refine ⟨.map (some K.w.heap.size), K.newOwn (.map #[] 0) 0, .inl ?_, by rw [← hs.next]; rfl, by rw [← hs.next]; exact h1, by rw [← hs.next]; exact h2, ?_⟩
  · unfold execOp; rw [hop]; rfl
  · rw [← hs.next]
    have := VR.map (K := K.newOwn (.map #[] 0) 0) (id := K.next) (Nat.lt_succ_self _)
    rw [e1] at this; exact this
include hT
theorem opv_lookup {t kt et : TypeId} {x ix : Operand} {ok : Bool} {id : Nat} {es : List (AV × AV)} {kk kd : IntKind} {k : Int} {ti ki ei : TI} {z : AV} {r : Option (Nat × AV)} (hop : o.op = .lookup t x ix ok) (hx : evo σ.tm x = some (.map id)) (hi : evo σ.tm ix = some (.int kk k)) (hH : σ.h id = some (.map es))
    (ht : T t = some ti) (hd : ti.desc = .map kt et) (hk : T kt = some ki) (hkd : ki.desc = .int kd) (he : T et = some ei) (hz : zeroA ei = some z) (hf : findM k kk es 0 = some r) :
    OpV P N o σ (gotM z ok r) σ.h σ.n := by
  refine opv_of fun K a hs => ?_
  have hvx := evo_sound hs.tr hx
  have hvi := (evo_sound hs.tr hi).int_inv
  obtain ⟨arr, clock, hblk, hsz, hent⟩ := hs.rel.br id _ hH
  have hmr : MR K es arr.toList := ⟨by simpa using hsz, fun j p hp => by obtain ⟨m, h1, h2⟩ := hent j p hp; exact ⟨m, by rw [Array.getElem?_toList]; exact h1, h2⟩⟩
  have hu := r_und hT ht K.w
  rw [hd] at hu
  obtain ⟨zv, hz1, hz2⟩ := r_zeroA hT he hz K.w
  have hfs := find_sound (kd := kd) es arr.toList 0 r hmr hf
  generalize hh : a.eval x = v at hvx
  cases hvx
  have hget : (getObj (K.base id)).run P K.w = .ok (.map arr clock) K.w := by simp [getObj, Sem.run, hblk]
  have fin : ∀ (q : Option (Nat × Value)) (u : Value), Instr.findNow (.int kd) (.int kk k) arr.toList 0 = some q → VR K (valM z r) u → r.isSome = q.isSome → (q = none → u = zv) → (∀ p, q = some p → p.2 = u) →
      ∃ v, (execOp a.eval o).run P K.w = .ok (.value v) K.w ∧ VR K (gotM z ok r) v := by
    intro q u hq hu2 hsome hnone hsm
    refine ⟨if ok then .tuple #[u, .bool q.isSome] else u, ?_, ?_⟩
    · unfold execOp; rw [hop]
      refine run_v ?_
      unfold Instr.lookup
      rw [run_bindv hu]
      simp only [hh, hvi]
      rw [run_bindv hget]
      simp only
      rw [run_bindv (run_purev arr K.w)]
      rw [run_bindv (checkKey_int hT hk hkd _ _ _ _ _), run_bindv (findKey_run hT hk hkd hq _)]
      cases q with
      | none =>
        simp only
        rw [hnone rfl]
        rw [run_bindv hz1, run_bindv (run_purev (zv, false) K.w)]
        cases ok <;> rfl
      | some p =>
        obtain ⟨j, w⟩ := p
        have := hsm _ rfl
        simp only at this
        subst this
        rw [run_bindv (run_purev (w, true) K.w)]
        cases ok <;> rfl
    · cases ok with
      | false => exact hu2
      | true => exact VR.tuple_.2 (.cons hu2 (.cons (by rw [hsome]; exact .bool _) (.nil K)))
  cases r with
  | none => exact fin none zv hfs (hz2 K) rfl (fun _ => rfl) (fun p hp => by cases hp)
  | some p =>
    obtain ⟨j, v⟩ := p
    obtain ⟨u, m, g1, g2, _⟩ := hfs
    exact fin (some (j, u)) u g1 g2 rfl (fun h => by cases h) (fun p hp => by cases hp; rfl)
/-- The entries behind an update. -/
def putM (k : AV) (y : AV) (es : List (AV × AV)) : Option (Nat × AV) → List (AV × AV)
  | some (j, _) => es.set j (k, y)
  | none => es ++ [(k, y)]
theorem opv_mapUpdate {t kt et : TypeId} {x ix yo : Operand} {id : Nat} {es : List (AV × AV)} {kk kd : IntKind} {k : Int} {ti ki : TI} {y : AV} {r : Option (Nat × AV)} (hop : o.op = .mapUpdate t x ix yo ∨ o.op = .insert t x ix yo) (hx : evo σ.tm x = some (.map id)) (hi : evo σ.tm ix = some (.int kk k)) (hy : evo σ.tm yo = some y) (hH : σ.h id = some (.map es))
    (ht : T t = some ti) (hd : ti.desc = .map kt et) (hk : T kt = some ki) (hkd : ki.desc = .int kd) (hf : findM k kk es 0 = some r) :
    OpV P N o σ (.tuple []) (upd σ.h id (some (.map (putM (.int kk k) y es r)))) σ.n := by
  intro K a hs
  have hvx := evo_sound hs.tr hx
  have hvi := (evo_sound hs.tr hi).int_inv
  have hvy := evo_sound hs.tr hy
  have hid0 : σ.h id ≠ none := by rw [hH]; simp
  obtain ⟨arr, clock, hblk, hsz, hent⟩ := hs.rel.br id _ hH
  have hmr : MR K es arr.toList := ⟨by simpa using hsz, fun j p hp => by obtain ⟨m, h1, h2⟩ := hent j p hp; exact ⟨m, by rw [Array.getElem?_toList]; exact h1, h2⟩⟩
  have hu := r_und hT ht K.w
  rw [hd] at hu
  have hfs := find_sound (kd := kd) es arr.toList 0 r hmr hf
  generalize hh : a.eval x = v at hvx
  cases hvx
  have hget : (getObj (K.base id)).run P K.w = .ok (.map arr clock) K.w := by simp [getObj, Sem.run, hblk]
  have hset : ∀ o' : Obj, (setObj (K.base id) o').run P K.w = .ok () (K.w.putObj (K.base id) o') := fun o' => by simp only [setObj, Sem.run, hblk]; rfl
  have fin : ∀ (arr' : Array MapEntry) (clock' : Nat), (Instr.mapUpdate t (a.eval x) (a.eval ix) (a.eval yo)).run P K.w = .ok () (K.w.putObj (K.base id) (.map arr' clock')) → arr'.size = (putM (.int kk k) y es r).length →
      (∀ (j : Nat) p, (putM (.int kk k) y es r)[j]? = some p → ∃ m, arr'[j]? = some m ∧ VR K p.1 m.key ∧ VR K p.2 m.val) →
      ∃ v K', ((execOp a.eval o).run P K.w = .ok (.value v) K'.w ∨ ((execOp a.eval o).run P K.w = .ok .skip K'.w ∧ v = undef)) ∧ K'.next = σ.n ∧ Rel K' (upd σ.h id (some (.map (putM (.int kk k) y es r)))) ∧ Step K σ.h K' (upd σ.h id (some (.map (putM (.int kk k) y es r)))) ∧ VR K' (.tuple []) v := by
    intro arr' clock' hrun hsz' hent'
    have hw := wrote_put K.w (K.base id) (.map arr' clock')
    have hE := wrote_ext hs.rel hid0 hw
    obtain ⟨k1, k2⟩ := wrote_ok (b := .map (putM (.int kk k) y es r)) hs.rel hid0 hw ⟨arr', clock', World.putObj_heap_same (Array.getElem?_eq_some_iff.1 hblk).1, hsz', fun j p hp => by
      obtain ⟨m, h1, h2, h3⟩ := hent' j p hp
      exact ⟨m, h1, h2.mono hE, h3.mono hE⟩⟩
    refine ⟨undef, K.at_ (K.w.putObj (K.base id) (.map arr' clock')), .inr ⟨?_, rfl⟩, hs.next, k1, k2, VR.undef_ _⟩
    rcases hop with hop | hop
    · unfold execOp; rw [hop]; exact (run_bindv hrun).trans rfl
    · unfold execOp; rw [hop]; exact (run_bindv hrun).trans rfl
  cases r with
  | none =>
    refine fin (arr.push { key := .int kk k, val := a.eval yo, born := clock }) (clock + 1) ?_ (by simp [putM, hsz]) ?_
    · unfold Instr.mapUpdate
      rw [run_bindv hu, hh]
      simp only
      rw [run_bindv hget]
      simp only [hvi]
      rw [run_bindv (checkKey_int hT hk hkd _ _ _ _ _), run_bindv (findKey_run hT hk hkd hfs _)]
      exact hset _
    · intro j p hp
      simp only [putM] at hp
      rw [List.getElem?_append] at hp
      split at hp
      · obtain ⟨m, h1, h2⟩ := hent j p hp
        refine ⟨m, ?_, h2⟩
        rw [Array.getElem?_push]
        rw [if_neg (by omega)]; exact h1
      · rename_i hj
        have hj2 : j = es.length := by
          have := (List.getElem?_eq_some_iff.1 hp).1
          simp at this; omega
        subst hj2
        simp at hp
        subst hp
        exact ⟨_, by rw [Array.getElem?_push, if_pos hsz.symm], .int _ _, hvy⟩
  | some q =>
    obtain ⟨j0, v⟩ := q
    obtain ⟨u, m0, g1, g2, g3, g4, g5, g6, g7⟩ := hfs
    simp only [Nat.sub_zero, Nat.zero_add] at g4 g5
    rw [Array.getElem?_toList] at g5
    refine fin (arr.modify j0 fun e => { e with key := .int kk k, val := a.eval yo }) clock ?_ (by simp [putM, hsz]) ?_
    · unfold Instr.mapUpdate
      rw [run_bindv hu, hh]
      simp only
      rw [run_bindv hget]
      simp only [hvi]
      rw [run_bindv (checkKey_int hT hk hkd _ _ _ _ _), run_bindv (findKey_run hT hk hkd g1 _)]
      simp only
      have hks : (Instr.keyThatStays (((arr[j0]?).map (·.key)).getD (.int kk k)) (.int kk k)).run P K.w = .ok (.int kk k) K.w := by
        rw [g5]
        simp only [Option.map_some, Option.getD_some, g6]
        unfold Instr.keyThatStays
        rw [if_pos (by simp [Instr.sameBits])]
        rfl
      rw [run_bindv hks]
      exact hset _
    · intro j p hp
      simp only [putM] at hp
      rw [List.getElem?_set] at hp
      by_cases hj : j0 = j
      · subst hj
        rw [if_pos rfl, if_pos g4] at hp
        cases hp
        refine ⟨{ m0 with key := .int kk k, val := a.eval yo }, ?_, .int _ _, hvy⟩
        rw [Array.getElem?_modify]; simp [g5]
      · rw [if_neg hj] at hp
        obtain ⟨m, h1, h2⟩ := hent j p hp
        refine ⟨m, ?_, h2⟩
        rw [Array.getElem?_modify, if_neg hj]; exact h1
end
end Go.Lg

/- Maps whose keys are whole numbers, in a walk. -/
set_option linter.unusedVariables false
set_option linter.unusedSimpArgs false
set_option linter.unusedSectionVars false
namespace Go.Lg
open Go
section
variable {P : Program} {T : TT} {B : Fb → Prop} {N m : Nat} {Q : AEx → St → Prop} {all rest : List Oper} {tm : Nat → AV} {hp : Heap} {n d : Nat} {df : List Nat} {t ty : TypeId} {pos : String} {af : Array Edge}
theorem w_mkmap (hd : d < N) (h : WL P B N m all rest Q ⟨upd tm d (.map n), upd hp n (some (.map [])), n + 1, df⟩) : WL P B N m all (⟨some d, .makeMap t none, ty, pos, af, none⟩ :: rest) Q ⟨tm, hp, n, df⟩ :=
  wl_op (o := ⟨some d, .makeMap t none, ty, pos, af, none⟩) (ung_none rfl) (fun _ h => by cases h; exact hd) (fun c h => by cases h) (opv_makeMap (σ := ⟨tm, hp, n, df⟩) rfl) h
theorem w_mapget (hT : TOK P T) {kt et : TypeId} {x ix : Operand} {ok : Bool} {id : Nat} {es : List (AV × AV)} {kk kd : IntKind} {k : Int} {ti ki ei : TI} {z : AV} {r : Option (Nat × AV)} {y : AV} (hx : evo tm x = some (.map id)) (hi : evo tm ix = some (.int kk k)) (hH : hp id = some (.map es))
    (ht : T t = some ti) (hd0 : ti.desc = .map kt et) (hk : T kt = some ki) (hkd : ki.desc = .int kd) (he : T et = some ei) (hz : zeroA ei = some z) (hf : findM k kk es 0 = some r) (hy : gotM z ok r = y) (hd : d < N)
    (h : WL P B N m all rest Q ⟨upd tm d y, hp, n, df⟩) : WL P B N m all (⟨some d, .lookup t x ix ok, ty, pos, af, none⟩ :: rest) Q ⟨tm, hp, n, df⟩ := by
  subst hy
  exact wl_op (o := ⟨some d, .lookup t x ix ok, ty, pos, af, none⟩) (ung_none rfl) (fun _ h => by cases h; exact hd) (fun c h => by cases h) (opv_lookup hT (σ := ⟨tm, hp, n, df⟩) rfl hx hi hH ht hd0 hk hkd he hz hf) h
theorem w_mapput (hT : TOK P T) {kt et : TypeId} {x ix yo : Operand} {id : Nat} {es es' : List (AV × AV)} {kk kd : IntKind} {k : Int} {ti ki : TI} {y : AV} {r : Option (Nat × AV)} (hx : evo tm x = some (.map id)) (hi : evo tm ix = some (.int kk k)) (hy : evo tm yo = some y) (hH : hp id = some (.map es))
    (ht : T t = some ti) (hd0 : ti.desc = .map kt et) (hk : T kt = some ki) (hkd : ki.desc = .int kd) (hf : findM k kk es 0 = some r) (he : putM (.int kk k) y es r = es')
    (h : WL P B N m all rest Q ⟨tm, upd hp id (some (.map es')), n, df⟩) : WL P B N m all (⟨none, .mapUpdate t x ix yo, ty, pos, af, none⟩ :: rest) Q ⟨tm, hp, n, df⟩ := by
  subst he
  exact wl_op (o := ⟨none, .mapUpdate t x ix yo, ty, pos, af, none⟩) (ung_none rfl) (fun _ h => by cases h) (fun c h => by cases h) (opv_mapUpdate hT (σ := ⟨tm, hp, n, df⟩) (.inl rfl) hx hi hy hH ht hd0 hk hkd hf) h
end
/-- A map from whole numbers: keys, and what they have. -/
def entM (kk vk : IntKind) (l : List (Int × Int)) : List (AV × AV) := l.map fun p => (.int kk p.1, .int vk p.2)
theorem entM_pur (kk vk : IntKind) (l : List (Int × Int)) : ∀ p, p ∈ entM kk vk l → Pur p.1 ∧ Pur p.2 := by
  intro p hp
  simp only [entM, List.mem_map] at hp
  obtain ⟨q, _, rfl⟩ := hp
  exact ⟨.int _ _, .int _ _⟩
theorem findM_none {kk vk : IntKind} {k : Int} : ∀ {l : List (Int × Int)} {i : Nat}, (∀ p, p ∈ l → p.1 ≠ k) → findM k kk (entM kk vk l) i = some none
  | [], i, _ => rfl
  | p :: l, i, h => by
    show (if kk = kk then (if k = p.1 then some (some (i, _)) else findM k kk (entM kk vk l) (i + 1)) else none) = _
    rw [if_pos rfl, if_neg (fun e => h p (by simp) e.symm)]
    exact findM_none fun q hq => h q (by simp [hq])
theorem findM_some {kk vk : IntKind} {k v : Int} : ∀ {l : List (Int × Int)} {i j : Nat}, l[j]? = some (k, v) → (∀ (a : Nat) p, a < j → l[a]? = some p → p.1 ≠ k) → findM k kk (entM kk vk l) i = some (some (i + j, .int vk v))
  | [], i, j, h, _ => by simp at h
  | p :: l, i, 0, h, _ => by
    simp at h; subst h
    show (if kk = kk then (if k = k then some (some (i, _)) else _) else none) = _
    rw [if_pos rfl, if_pos rfl]; rfl
  | p :: l, i, j + 1, h, hn => by
    show (if kk = kk then (if k = p.1 then some (some (i, _)) else findM k kk (entM kk vk l) (i + 1)) else none) = _
    rw [if_pos rfl, if_neg (fun e => hn 0 p (by omega) rfl e.symm), findM_some (by simpa using h) (fun a q ha hq => hn (a + 1) q (by omega) (by simpa using hq))]
    rw [show i + 1 + j = i + (j + 1) by omega]
theorem findM_last {kk vk : IntKind} {k v : Int} {l : List (Int × Int)} (h : ∀ p, p ∈ l → p.1 ≠ k) : findM k kk (entM kk vk (l ++ [(k, v)])) 0 = some (some (l.length, .int vk v)) := by
  have := findM_some (kk := kk) (vk := vk) (k := k) (v := v) (l := l ++ [(k, v)]) (i := 0) (j := l.length) (by simp) (fun a p ha hp => by
    rw [List.getElem?_append_left ha] at hp
    exact h p (List.mem_of_getElem? hp))
  simpa using this
theorem putM_none {kk vk : IntKind} {k v : Int} {l : List (Int × Int)} : putM (.int kk k) (.int vk v) (entM kk vk l) none = entM kk vk (l ++ [(k, v)]) := by simp [putM, entM]
theorem putM_some {kk vk : IntKind} {k v : Int} {l : List (Int × Int)} {j : Nat} {u : AV} : putM (.int kk k) (.int vk v) (entM kk vk l) (some (j, u)) = entM kk vk (l.set j (k, v)) := by simp [putM, entM, List.map_set]
theorem getM_val {kk : IntKind} {j : Nat} {z v : AV} : gotM z false (some (j, v)) = v := rfl
theorem getM_zero {z : AV} : gotM z false none = z := rfl
theorem zG {p : Prop} (h : p := by simp only [getM_val, getM_zero, putM_none, putM_some, tE]; with_unfolding_all rfl) : p := h
end Go.Lg

/- New memory told from the first id on stands for new memory told from any id on. -/
set_option linter.unusedVariables false
set_option linter.unusedSimpArgs false
set_option linter.unusedSectionVars false
namespace Go.Lg
open Go
mutual
def sh (n : Nat) : AV → AV
  | .bool b => .bool b
  | .int k i => .int k i
  | .str s => .str s
  | .empty => .empty
  | .slice id off len cap sz => .slice (n + id) off len cap sz
  | .agg cs => .agg (shL n cs)
  | .tuple cs => .tuple (shL n cs)
  | _ => .any
def shL (n : Nat) : List AV → List AV
  | [] => []
  | x :: xs => sh n x :: shL n xs
end
theorem shL_map (n : Nat) : ∀ l, shL n l = l.map (sh n)
  | [] => by rw [shL]; rfl
  | x :: l => by rw [shL, shL_map n l]; rfl
def shH (n : Nat) (H : Heap) : Heap := fun id => if n ≤ id then match H (id - n) with
  | some (.cells cs e) => some (.cells (shL n cs) e)
  | _ => none else none
theorem shH_at {n id : Nat} {H : Heap} {cs : List AV} {e : TypeId} (h : H id = some (.cells cs e)) : shH n H (n + id) = some (.cells (shL n cs) e) := by
  simp only [shH, if_pos (Nat.le_add_right n id), Nat.add_sub_cancel_left, h]
theorem shH_inv {n id : Nat} {H : Heap} {b : Blk} (h : shH n H id = some b) : n ≤ id ∧ ∃ cs e, H (id - n) = some (.cells cs e) ∧ b = .cells (shL n cs) e := by
  unfold shH at h
  split at h
  · rename_i hn
    split at h
    · rename_i cs e hH
      cases h
      exact ⟨hn, cs, e, hH, rfl⟩
    · cases h
  · cases h
def shS (n : Nat) (S : Nat → Prop) : Nat → Prop := fun j => n ≤ j ∧ S (j - n)
theorem shS_at {n id : Nat} {S : Nat → Prop} (h : S id) : shS n S (n + id) := ⟨Nat.le_add_right _ _, by rw [Nat.add_sub_cancel_left]; exact h⟩
theorem own_sh {n : Nat} {S : Nat → Prop} {H : Heap} {x y : AV} (h : Own H S x y) : Own (shH n H) (shS n S) (sh n x) y := by
  induction h with
  | bool b => rw [sh]; exact .bool b
  | int k i => rw [sh]; exact .int k i
  | str s => rw [sh]; exact .str s
  | nothing => rw [sh]; exact .nothing
  | @slice id off len cap sz cs e ys hlo hH hl hy h ih =>
    rw [sh]
    refine .slice (shS_at hlo) (shH_at hH) (by rw [shL_map, List.length_map]; exact hl) hy (fun i x y h1 h2 => ?_)
    rw [shL_map, List.getElem?_map] at h1
    cases hc : cs[off + i]? with
    | none => rw [hc] at h1; cases h1
    | some z => rw [hc] at h1; cases h1; exact ih i z y hc h2
  | @agg xs ys hy h ih =>
    rw [sh]
    refine .agg (by rw [shL_map, List.length_map]; exact hy) (fun i x y h1 h2 => ?_)
    rw [shL_map, List.getElem?_map] at h1
    cases hc : xs[i]? with
    | none => rw [hc] at h1; cases h1
    | some z => rw [hc] at h1; cases h1; exact ih i z y hc h2
  | @tuple xs ys hy h ih =>
    rw [sh]
    refine .tuple (by rw [shL_map, List.length_map]; exact hy) (fun i x y h1 h2 => ?_)
    rw [shL_map, List.getElem?_map] at h1
    cases hc : xs[i]? with
    | none => rw [hc] at h1; cases h1
    | some z => rw [hc] at h1; cases h1; exact ih i z y hc h2
theorem vr_sh {K K' : Ctx} {n : Nat} (hb : ∀ id, id < K.next → n + id < K'.next ∧ K'.base (n + id) = K.base id ∧ K'.boff (n + id) = K.boff id ∧ K'.bsz (n + id) = K.bsz id) {x : AV} {v : Value} (h : VR K x v) : VR K' (sh n x) v := by
  induction h with
  | bool b => rw [sh]; exact .bool b
  | int k i => rw [sh]; exact .int k i
  | str s => rw [sh]; exact .str s
  | empty a => rw [sh]; exact .empty a
  | @slice id off len cap sz o c h ho hc hl hcap =>
    obtain ⟨h0, h1, h2, h3⟩ := hb id h
    rw [sh, ← h1]
    exact .slice h0 (by rw [h2]; exact ho) (by rw [h3]; exact hc) hl hcap
  | @agg cs vs h1 h ih =>
    rw [sh]
    refine .agg (by rw [shL_map, List.length_map]; exact h1) (fun i x hx => ?_)
    rw [shL_map, List.getElem?_map] at hx
    cases hc : cs[i]? with
    | none => rw [hc] at hx; cases hx
    | some z => rw [hc] at hx; cases hx; exact ih i z hc
  | @tuple cs vs h1 h ih =>
    rw [sh]
    refine .tuple (by rw [shL_map, List.length_map]; exact h1) (fun i x hx => ?_)
    rw [shL_map, List.getElem?_map] at hx
    cases hc : cs[i]? with
    | none => rw [hc] at hx; cases hx
    | some z => rw [hc] at hx; cases hx; exact ih i z hc
  | _ => simp only [sh]; exact .any _
section
variable {P : Program}
theorem ac_sh {f : FuncId} {args : List AV} {R : Heap → AV → Nat → Prop} (ha : ∀ x, x ∈ args → Pur x)
    (h0 : AC P f args (hl []) 0 fun r H' n' => ∃ x, r = .ret x ∧ R H' x n') (n : Nat) : AC P f args noHeap n fun r H' n' => ∃ x H0 n0, r = .ret (sh n x) ∧ H' = shH n H0 ∧ n' = n + n0 ∧ R H0 x n0 := by
  intro K vs hn hr hv
  let K0 : Ctx := { K with next := 0 }
  have hr0 : Rel K0 (hl []) := ⟨fun id h => absurd (hl_nil id) h, fun id h => absurd (hl_nil id) h, fun id b h => (by rw [hl_nil] at h; cases h), fun i _ h => absurd (hl_nil i) h, hr.ros⟩
  have hv0 : VRs K0 args vs.toList := ⟨hv.1, fun i x v hx hvv => VR.pur (K := K) (K' := K0) (fun _ h => h) (fun _ _ => rfl) (hv.2 i x v hx hvv) (ha x (List.mem_of_getElem? hx))⟩
  refine (h0 K0 vs rfl hr0 hv0).mono ?_
  rintro e w' ⟨K', H', r, hw, hr', hst, hrr, x, rfl, hx⟩
  subst hw
  have hnob : ∀ b, ¬ OB K0 (hl []) b := fun b ⟨i, h, _⟩ => absurd (hl_nil i) h
  have hsame : ∀ b, b < K.w.heap.size → K'.w.heap[b]? = K.w.heap[b]? := fun b hb => hst.same b hb (hnob b)
  let K1 : Ctx := { base := fun id => if id < n then K.base id else K'.base (id - n), boff := fun id => if id < n then K.boff id else K'.boff (id - n), bsz := fun id => if id < n then K.bsz id else K'.bsz (id - n), next := n + K'.next, ro := K'.ro, w := K'.w }
  have new : ∀ id, K1.base (n + id) = K'.base id ∧ K1.boff (n + id) = K'.boff id ∧ K1.bsz (n + id) = K'.bsz id := fun id => by
    have h1 : ¬ n + id < n := by omega
    refine ⟨?_, ?_, ?_⟩ <;> simp only [K1, if_neg h1, Nat.add_sub_cancel_left]
  have old : ∀ id, id < n → K1.base id = K.base id ∧ K1.boff id = K.boff id ∧ K1.bsz id = K.bsz id := fun id h => by
    refine ⟨?_, ?_, ?_⟩ <;> simp only [K1, if_pos h]
  have hsh : ∀ {x v}, VR K' x v → VR K1 (sh n x) v := fun h => vr_sh (fun id hid => ⟨by show n + id < n + K'.next; omega, new id⟩) h
  have hnew : ∀ id, H' id ≠ none → K.w.heap.size ≤ K'.base id := fun id h => by
    rcases hst.own _ ⟨id, h, rfl⟩ with ⟨i, h, _⟩ | h
    · exact absurd (hl_nil i) h
    · exact h
  have inv : ∀ id, shH n H' id ≠ none → n ≤ id ∧ K1.base id = K'.base (id - n) ∧ ∃ cs e, H' (id - n) = some (.cells cs e) ∧ shH n H' id = some (.cells (shL n cs) e) := fun id h => by
    cases hb : shH n H' id with
    | none => exact absurd hb h
    | some b =>
      obtain ⟨h1, cs, e, h2, rfl⟩ := shH_inv hb
      refine ⟨h1, ?_, cs, e, h2, rfl⟩
      have := (new (id - n)).1
      rwa [show n + (id - n) = id by omega] at this
  have hrel : Rel K1 (shH n H') := by
    refine ⟨fun id h => ?_, fun id h => ?_, fun id b hb => ?_, fun i j hi hj e => ?_, hr'.ros⟩
    · obtain ⟨h1, _, cs, e, h2, _⟩ := inv id h
      have := hr'.lt (id - n) (by rw [h2]; simp)
      show id < n + K'.next; omega
    · obtain ⟨h1, h3, cs, e, h2, _⟩ := inv id h
      rw [h3]; exact hr'.nro _ (by rw [h2]; simp)
    · obtain ⟨h1, h3, cs, e, h2, h4⟩ := inv id (by rw [hb]; simp)
      rw [hb] at h4; cases h4
      obtain ⟨arr, fr, g1, g2, g3, g4, g5⟩ := hr'.br _ _ h2
      have hn' := new (id - n)
      rw [show n + (id - n) = id by omega] at hn'
      refine ⟨arr, fr, by rw [hn'.1]; exact g1, g2, by rw [hn'.2.2]; exact g3, by rw [hn'.2.1, shL_map, List.length_map]; exact g4, fun j z hz => ?_⟩
      rw [shL_map, List.getElem?_map] at hz
      cases hc : cs[j]? with
      | none => rw [hc] at hz; cases hz
      | some u =>
        rw [hc] at hz; cases hz
        obtain ⟨v, hv1, hv2⟩ := g5 j u hc
        exact ⟨v, by rw [hn'.2.1]; exact hv1, hsh hv2⟩
    · obtain ⟨h1, h3, cs, e1, h2, _⟩ := inv i hi
      obtain ⟨g1, g3, cs', e2, g2, _⟩ := inv j hj
      rw [h3, g3] at e
      have := hr'.inj _ _ (by rw [h2]; simp) (by rw [g2]; simp) e
      omega
  have hstep : Step K noHeap K1 (shH n H') := by
    refine ⟨by show K.next ≤ n + K'.next; omega, fun id hid => old id (by omega), fun b hb => hst.ro b hb, hst.size, fun b hb _ => hsame b hb, fun b hb => ?_, fun b hb => ?_, hst.os, hst.tape, hst.output⟩
    · obtain ⟨i, hi, rfl⟩ := hb
      obtain ⟨h1, h3, cs, e1, h2, _⟩ := inv i hi
      rw [h3]; exact .inr (hnew _ (by rw [h2]; simp))
    · rcases hst.ro' b hb with h | h | h
      · exact .inl h
      · exact absurd h (hnob b)
      · exact .inr (.inr h)
  cases hrr with
  | ret hvr => exact ⟨K1, shH n H', .ret (sh n x), rfl, hrel, hstep, .ret (hsh hvr), x, H', _, rfl, rfl, rfl, hx⟩
theorem nf_of_0 {f : FuncId} {args : List AV} {X : AV → Prop} (cal : Callable P f) (ha : ∀ x, x ∈ args → Pur x)
    (h0 : AC P f args (hl []) 0 fun r H' _ => ∃ x y, r = .ret x ∧ Own H' (fun _ => True) x y ∧ X y) : NF P f args X := by
  refine ⟨cal, fun n => (ac_sh (R := fun H x _ => ∃ y, Own H (fun _ => True) x y ∧ X y) ha (h0.mono ?_) n).mono ?_⟩
  · rintro r H n ⟨x, y, h1, h2, h3⟩; exact ⟨x, h1, y, h2, h3⟩
  · rintro r H n' ⟨x, H0, n0, rfl, rfl, _, y, h1, h2⟩; exact ⟨_, y, rfl, (own_sh h1).mono (fun _ h => h.1) (fun _ _ _ h => h), h2⟩
/-- A contract from the first id on, at any memory. -/
theorem ac_any {f : FuncId} {args : List AV} {R : Heap → AV → Nat → Prop} (ha : ∀ x, x ∈ args → Pur x)
    (h0 : AC P f args (hl []) 0 fun r H' n' => ∃ x, r = .ret x ∧ R H' x n') (H : Heap) (n : Nat) :
    AC P f args H n fun r H' n' => n ≤ n' ∧ (∀ id b, H id = some b → H' id = some b) ∧ (∀ id, n' ≤ id → H' id = none) ∧ ∃ x H0 n0, r = .ret (sh n x) ∧ R H0 x n0 ∧ n' = n + n0 ∧ H' = (shH n H0).or H ∧ ∀ id b, shH n H0 id = some b → H' id = some b := by
  have h1 := ac_bound (ac_frame (H1 := noHeap) (H2 := H) (fun id h => absurd rfl h) (ac_sh ha h0 n))
  have e : noHeap.or H = H := by funext i; rfl
  rw [e] at h1
  refine h1.mono ?_
  rintro r H' n' ⟨⟨H1, rfl, hd, x, H0, n0, hr, rfl, hn0, hR⟩, hn, h0, hb⟩
  refine ⟨hn, fun id b hid => ?_, hb, x, H0, n0, hr, hR, hn0, rfl, fun id b h => by simp [Heap.or, h]⟩
  have : shH n H0 id = none := by
    cases h1 : shH n H0 id with
    | none => rfl
    | some c => have := hd id (by rw [h1]; simp); rw [this] at hid; cases hid
  simp [Heap.or, this, hid]
theorem nf_of_w0 {f : FuncId} {fn : Func} {c : Code} {args : List AV} {X : AV → Prop} (hf : P.funcs[f]? = some fn) (hb : fn.body = some c) (hn : (fn.name == "runtime.NumGoroutine") = false) (hN : args.length ≤ fn.ntmps) (ha : ∀ x, x ∈ args → Pur x)
    (h : W P Plain fn.ntmps 0 c (Done P fn (fun r H' _ => ∃ x y, r = .ret x ∧ Own H' (fun _ => True) x y ∧ X y)) ⟨args0 args, hl [], 0, []⟩) : NF P f args X :=
  nf_of_0 ⟨fn, hf, hn, by rw [hb]; rfl⟩ ha (ac_of_w hf hb hN h)
end
end Go.Lg

/- Loops over memory that is told by a predicate; slots told by lists. -/
set_option linter.unusedVariables false
set_option linter.unusedSimpArgs false
set_option linter.unusedSectionVars false
namespace Go.Lg
open Go
def fitsT (tm : Nat → AV) : List (Nat × AV) → Prop
  | [] => True
  | (k, x) :: l => Sub (tm k) x ∧ fitsT tm l
theorem fitsT_get {tm : Nat → AV} : ∀ {l : List (Nat × AV)}, fitsT tm l → ∀ t, Sub (tm t) (sp l t)
  | [], _, t => fun K v _ => .any v
  | (k, x) :: l, h, t => by
    rw [sp_cons]
    cases hb : t == k with
    | true => rw [show t = k by simpa using hb]; exact h.1
    | false => exact fitsT_get h.2 t
theorem g_fits {N : Nat} {σ : St} {l : List (Nat × AV)} (h : fitsT σ.tm l) : ∀ K a, SR K N σ a → ∃ K1, K1.w = K.w ∧ SR K1 N ⟨sp l, σ.h, σ.n, σ.df⟩ a ∧ Step K σ.h K1 σ.h :=
  fun K a hs => ⟨K, rfl, ⟨hs.next, hs.rel, ⟨hs.tr.1, fun t => fitsT_get h t K _ (hs.tr.2 t)⟩, hs.dr⟩, .refl K _⟩
theorem Sub.cap {id off len sz : Nat} {cap : Option Nat} : Sub (.slice id off len cap sz) (.slice id off len none sz) := fun K v hv => by
  cases hv with
  | slice h ho hc hl hcap => exact .slice h ho hc hl (fun c0 h0 => by cases h0)
section
variable {P : Program} {B : Fb → Prop} {N m : Nat} {Q : AEx → St → Prop} {σ : St}
theorem w_cutT {c : Code} (l : List (Nat × AV)) (h : fitsT σ.tm l) (hw : W P B N m c Q ⟨sp l, σ.h, σ.n, σ.df⟩) : W P B N m c Q σ := W.ghost (g_fits h) hw
/-- A loop over data 's' and memory of which an invariant holds, with a measure. -/
theorem w_loopP {S : Type} {c : Code} (L : S → List (Nat × AV)) (df : List Nat) (Inv : S → Heap → Nat → Prop) (meas : S → Nat) (s0 : S) (h0 : fitsT σ.tm (L s0)) (hdf : σ.df = df) (hi : Inv s0 σ.h σ.n)
    (round : ∀ s H k, Inv s H k → W P B N m c (AEx.go (fun σ' => ∃ s', meas s' < meas s ∧ Inv s' σ'.h σ'.n ∧ σ'.df = df ∧ fitsT σ'.tm (L s')) Q) ⟨sp (L s), H, k, df⟩) : W P B N m (.loop c) Q σ := by
  refine w_loop (fun n σ => ∃ s, meas s = n ∧ Inv s σ.h σ.n ∧ σ.df = df ∧ fitsT σ.tm (L s)) (meas s0) ⟨s0, rfl, hi, hdf, h0⟩ ?_
  rintro n σ' ⟨s, rfl, his, hd, hf⟩
  refine W.ghost (g_fits hf) ?_
  rw [hd]
  refine (round s σ'.h σ'.n his).mono ?_
  intro e σ2 hq
  cases e with
  | normal => obtain ⟨s', h1, h2, h3, h4⟩ := hq; exact ⟨meas s', h1, s', rfl, h2, h3, h4⟩
  | _ => exact hq
end
theorem wacallg' {P : Program} {B : Fb → Prop} {N m : Nat} {Q : AEx → St → Prop} {all rest : List Oper} {tm : Nat → AV} {hp hp' : Heap} {n n' d : Nat} {df : List Nat} {ty : TypeId} {pos : String} {af : Array Edge} {j : Nat} {want : Bool} {t : Tmp} {y z : AV}
    {fo : Operand} {args : Array Operand} {ats : Array TypeId} {g : FuncId} {first cap xs as : List AV} (hg : gslot all j = some t) (ht : tm t = z) (hy : z = .bool want) (hf : evo tm fo = some (.func (.func g) first cap)) (hx : evs tm args.toList = some xs) (ha : first ++ xs ++ cap = as) (hc : Callable P g) (hac : AC P g as hp n (fun r h' n'' => r = .ret y ∧ h' = hp' ∧ n'' = n')) (hd : d < N)
    (h : WL P B N m all rest Q ⟨upd tm d y, hp', n', df⟩) : WL P B N m all (⟨some d, .call { callee := .value fo, args := args, argTypes := ats }, ty, pos, af, some (j, want)⟩ :: rest) Q ⟨tm, hp, n, df⟩ :=
  wl_callR (o := ⟨some d, .call { callee := .value fo, args := args, argTypes := ats }, ty, pos, af, some (j, want)⟩) rfl (by have := ung_some (o := ⟨some d, .call { callee := .value fo, args := args, argTypes := ats }, ty, pos, af, some (j, want)⟩) (tm := tm) rfl hg (ht.trans hy); simpa using this) (fun _ h => by cases h; exact hd) hf hx ha hc hac
    (by rintro r h' n'' ⟨rfl, rfl, rfl⟩; exact h)
/-- A scope nobody jumps out of. -/
def noGoto' (Q : AEx → St → Prop) : AEx → St → Prop
  | .goto _, _ => False
  | e, σ => Q e σ
theorem noGoto_ret {Q : AEx → St → Prop} {σ : St} (h : Q .ret σ) : noGoto' Q .ret σ := h
theorem w_scope' {P : Program} {B : Fb → Prop} {N m : Nat} {c : Code} {Q : AEx → St → Prop} {σ : St} (h : W P B N m c (noGoto' Q) σ) : W P B N m (.scope c) Q σ := by
  intro K a hm hs
  refine mw_scope (fun _ _ _ _ => False) 0 ((h K a hm hs).mono ?_) (fun _ _ _ _ _ _ h => h.elim)
  rintro e a' w' ⟨K', σ', e', h1, h2, h3, h4, h5⟩
  cases h4 with
  | goto l => exact h5.elim
  | normal => exact ⟨K', σ', _, h1, h2, h3, .normal, h5⟩
  | exit i => exact ⟨K', σ', _, h1, h2, h3, .exit i, h5⟩
  | ret => exact ⟨K', σ', _, h1, h2, h3, .ret, h5⟩
  | panic hv => exact ⟨K', σ', _, h1, h2, h3, .panic hv, h5⟩
theorem w_rangeT {P : Program} {N m : Nat} {Q : AEx → St → Prop} {tm : Nat → AV} {hp : Heap} {n : Nat} {df : List Nat} {f : Operand} {ps : Array Tmp} {as bd : Code} {g : FuncId} {first cap : List AV} {R : AR → Heap → Nat → Prop} (hf : evo tm f = some (.func (.func g) first cap)) (hc : Callable P g)
    (hac : ∀ lb, lb = LoopB.mk tm N ps as bd .ready none → AC P g (first ++ [.yieldf (n + 1)] ++ cap) (upd (upd hp n (some .deferred)) (n + 1) (some (.loop lb))) (n + 2) R)
    (h : ∀ r h' n', R r h' n' → ∃ x lb', r = .ret x ∧ h' (n + 1) = some (.loop lb') ∧ lb'.state ≠ .busy ∧
      match lb'.pending with
      | none => Q .normal ⟨tm, upd h' (n + 1) none, n', n :: df⟩
      | some c => W P Plain N m c Q ⟨tm, upd h' (n + 1) none, n', n :: df⟩) : W P Plain N m (.rangeFunc f ps as bd) Q ⟨tm, hp, n, df⟩ :=
  w_range hf hc (hac _ rfl) h
theorem flat_row {sz : Nat} : ∀ {rows : List (List AV)}, (∀ r, r ∈ rows → r.length = sz) → ∀ {i : Nat} {r : List AV}, rows[i]? = some r → (rows.flatten.drop (i * sz)).take sz = r
  | [], _, i, r, h => by simp at h
  | q :: rows, hl, 0, r, h => by
    simp at h; subst h
    rw [Nat.zero_mul, List.drop_zero, List.flatten_cons, List.take_left' (hl q (by simp))]
  | q :: rows, hl, i + 1, r, h => by
    have hq := hl q (by simp)
    rw [List.flatten_cons, Nat.add_mul, Nat.one_mul, Nat.add_comm, ← hq, ← List.drop_drop, List.drop_left, hq]
    exact flat_row (fun r hr => hl r (by simp [hr])) (by simpa using h)
theorem doneDA_ret {P : Program} {T : TT} (hT : TOK P T) {fn : Func} {Q : AR → Heap → Nat → Prop} {rs : Array ResultVar} {xs : List AV} {tm : Nat → AV} {h : Heap} {n : Nat} {df : List Nat} (hr : fn.results = rs) (hm : Marks h df) (hres : resA T ⟨tm, killAll h df, n, []⟩ rs.toList = some xs) (hx : Q (.ret (tup xs)) (killAll h df) n) : DoneD P fn Q .ret ⟨tm, h, n, df⟩ :=
  ⟨hm, tup xs, resv_of hT (by rw [hr]; exact hres), hx⟩
theorem own_shape {H : Heap} {S : Nat → Prop} {x : AV} {rows : List (List AV)} (h : Own H S x (.view rows)) : x = .empty ∨ ∃ id off len cap sz, x = .slice id off len cap sz := by
  generalize hv : AV.view rows = v at h
  cases h with
  | nothing => exact .inl rfl
  | slice => exact .inr ⟨_, _, _, _, _, rfl⟩
  | _ => cases hv
theorem cellsA_own (n sz : Nat) (rows : List (List AV)) : cellsA (ownR n sz rows) = [ownR n sz rows] := by cases rows <;> rfl
theorem scalA_own (n sz : Nat) (rows : List (List AV)) : scalA (ownR n sz rows) = true := by cases rows <;> rfl
theorem set_len (l : List AV) (i : Nat) (x : AV) : (l.set i x).length = l.length := List.length_set
/-- A store of one cell whose value is not known in its form. -/
theorem hv1 {T : TT} {h h' : Heap} {t : TypeId} {id off : Nat} {v : AV} {i : TI} {cs : List AV} {e : TypeId} (hc : cellsA v = [v]) (hs : scalA v = true) (ht : T t = some i) (hz : i.size = 1) (hH : h id = some (.cells cs e)) (hl : (off + 1 ≤ cs.length) = True)
    (he : upd h id (some (.cells (cs.set off v) e)) = h') : hvStore T h t (.ptr id off) v = some h' := by
  subst he
  simp only [hvStore, ht, hH, hc, hz, List.length_cons, List.length_nil, Nat.zero_add, if_true, hl, List.all_cons, List.all_nil, hs, Bool.and_self]
  rfl
theorem zC1 {p : Prop} (h : p := by first | exact cellsA_own _ _ _ | assumption) : p := h
theorem zC2 {p : Prop} (h : p := by first | exact scalA_own _ _ _ | assumption) : p := h
theorem flat_set {sz : Nat} : ∀ {rows : List (List AV)}, (∀ r, r ∈ rows → r.length = sz) → ∀ {i j : Nat} {r : List AV} (x : AV), rows[i]? = some r → j < sz → rows.flatten.set (i * sz + j) x = (rows.set i (r.set j x)).flatten
  | [], _, i, j, r, x, h, _ => by simp at h
  | q :: rows, hl, 0, j, r, x, h, hj => by
    simp at h; subst h
    rw [Nat.zero_mul, Nat.zero_add, List.flatten_cons, List.set_append_left _ _ (by rw [hl q (by simp)]; exact hj), List.set_cons_zero, List.flatten_cons]
  | q :: rows, hl, i + 1, j, r, x, h, hj => by
    have hq := hl q (by simp)
    rw [List.flatten_cons, List.set_append_right _ _ (by rw [hq, Nat.add_mul]; omega), show (i + 1) * sz + j - q.length = i * sz + j by rw [hq, Nat.add_mul]; omega]
    rw [flat_set (fun r hr => hl r (by simp [hr])) x (by simpa using h) hj, List.set_cons_succ, List.flatten_cons]
theorem drop_head {l : List AV} {k : Nat} {x : AV} (h : l[k]? = some x) : (l.drop k)[0]? = some x := by rw [List.getElem?_drop, Nat.add_zero]; exact h
theorem drop_set {l : List AV} {k j : Nat} {x : AV} (h : l[k]? = some x) (hj : j ≠ k) (y : AV) : ((l.set j y).drop k)[0]? = some x := by rw [List.getElem?_drop, Nat.add_zero, List.getElem?_set_ne hj]; exact h
end Go.Lg

/- make of slices; bytes told as a text, wherever they lie; min; typeAssert. -/
set_option linter.unusedSimpArgs false
set_option linter.unusedSectionVars false
namespace Go.Lg
open Go
set_option linter.unusedVariables false
section
variable {P : Program} {T : TT} (hT : TOK P T) {N : Nat} {o : Oper} {σ : St}
include hT
theorem opv_makeSlice {t e : TypeId} {x y : Operand} {k1 k2 : IntKind} {l c : Nat} {ti ei : TI} (hop : o.op = .makeSlice t x y) (hx : evo σ.tm x = some (.int k1 (l : Int))) (hy : evo σ.tm y = some (.int k2 (c : Int))) (ht : T t = some ti) (hd : ti.desc = .slice e) (he : T e = some ei)
    (hlc : l ≤ c) (hb : ei.bytes * c ≤ 281474976710656) (hc : c ≤ 4611686018427387904) :
    OpV P N o σ (.slice σ.n 0 l (some c) ei.size) (upd σ.h σ.n (some (.cells (repA c ei.zero) e))) (σ.n + 1) := by
  intro K a hs
  have hvx := (evo_sound hs.tr hx).int_inv
  have hvy := (evo_sound hs.tr hy).int_inv
  have hu := r_und hT ht K.w
  rw [hd] at hu
  obtain ⟨tj, z, g1, g2, g3, g4, g5, g6, g7⟩ := hT.info e ei he
  have hz := repA_VRs (n := c) (g7 K)
  have hzl : ei.zero.length = ei.size := by have := (g7 K).1; rw [← this]; simpa using g5
  have hti : (typeInfo e).run P K.w = .ok tj K.w := by simp [typeInfo, program, Sem.run, g1]
  have hzv : (zeroValue e).run P K.w = .ok z K.w := by simp [zeroValue, typeInfo, program, Sem.run, g1, g4]
  let cells : Array Value := (Array.range (c * z.cells.size)).map (fun i => z.cells[i % z.cells.size]!)
  obtain ⟨k3, k4⟩ := newOwn_ok hs.rel (new_cells hs.rel (arr := cells) (t := e) hz)
  have hsz : cells.size = c * ei.size := by simp [cells, g5]
  have hw1 : IntKind.i64.wrap (l : Int) = l := wrap64 (by omega) (by omega)
  have hw2 : IntKind.i64.wrap (c : Int) = c := wrap64 (by omega) (by omega)
  refine ⟨.slice (some ⟨K.w.heap.size, 0, none⟩) l c, K.newOwn (.cells cells e) cells.size, .inl ?_, by rw [← hs.next]; rfl, by rw [← hs.next]; exact k3, by rw [← hs.next]; exact k4, by
    rw [← hs.next]; exact slice_new (some c) (by rw [hsz]; exact Nat.le_refl _) hlc (by simp)⟩
  unfold execOp; rw [hop]
  refine run_v ?_
  unfold Instr.makeSlice
  rw [run_bindv hu]
  simp only [hvx, hvy]
  have ha1 : (asInt (.int k1 (l : Int))).run P K.w = .ok (l : Int) K.w := rfl
  have ha2 : (asInt (.int k2 (c : Int))).run P K.w = .ok (c : Int) K.w := rfl
  rw [run_bindv ha1, run_bindv ha2, run_bindv hti]
  simp only [hw1, hw2]
  have hbound : (tj.bytes : Int) * (c : Int) ≤ 281474976710656 := by rw [g3]; have : ((ei.bytes * c : Nat) : Int) ≤ ((281474976710656 : Nat) : Int) := Int.ofNat_le.2 hb; rw [Int.natCast_mul] at this; omega
  have htl : (decide ((c : Int) < 0) || decide ((tj.bytes : Int) * (c : Int) > 2 ^ 48)) = false := by
    rw [Bool.or_eq_false_iff]
    exact ⟨decide_eq_false (by omega), decide_eq_false (by omega)⟩
  have hl0 : ¬ ((l : Int) < 0) := by omega
  have hl1 : ¬ ((l : Int) > (c : Int)) := by omega
  simp only [htl, hl0, hl1, decide_false, Bool.or_self, Bool.or_false, Bool.false_eq_true, if_false]
  rw [run_bindv (run_askRoom P _ K.w), run_bindv (r_size hT he K.w)]
  simp only [Int.toNat_natCast]
  by_cases h0 : c * ei.size = 0
  · rw [if_pos h0]
    rw [run_bindv (run_purev (#[] : Array Value) K.w)]
    have e1 : (Array.range (c * ei.size)).map (fun i => (#[] : Array Value)[i % (#[] : Array Value).size]!) = cells := by
      have : cells = #[] := Array.eq_empty_of_size_eq_zero (by rw [hsz]; exact h0)
      rw [this, h0]; simp
    rw [e1]
    rfl
  · rw [if_neg h0]
    rw [run_bindv hzv, run_bindv (run_purev z.cells K.w)]
    have e1 : (Array.range (c * ei.size)).map (fun i => z.cells[i % z.cells.size]!) = cells := by
      simp only [cells, g5]
    rw [e1]
    rfl
end
end Go.Lg

/- make of slices in a walk. -/
set_option linter.unusedVariables false
set_option linter.unusedSimpArgs false
set_option linter.unusedSectionVars false
namespace Go.Lg
open Go
section
variable {P : Program} {T : TT} {B : Fb → Prop} {N m : Nat} {Q : AEx → St → Prop} {all rest : List Oper} {tm : Nat → AV} {hp : Heap} {n d : Nat} {df : List Nat} {t e ty : TypeId} {pos : String} {af : Array Edge}
theorem c_mks (hT : TOK P T) {x y : Operand} {k1 k2 : IntKind} {l c : Nat} {ti ei : TI} {cs : List AV} {v : AV} (hx : evo tm x = some (.int k1 (l : Int))) (hy : evo tm y = some (.int k2 (c : Int))) (ht : T t = some ti) (hd0 : ti.desc = .slice e) (he : T e = some ei) (hlc : l ≤ c) (hb : ei.bytes * c ≤ 281474976710656) (hc : c ≤ 4611686018427387904)
    (hcs : repA c ei.zero = cs) (hv : AV.slice n 0 l (some c) ei.size = v) : Chg P N tm (.makeSlice t x y) hp n v (upd hp n (some (.cells cs e))) (n + 1) := by
  subst hcs hv
  refine ⟨fun c h => (by cases h), fun o tm' df ho hr => ?_⟩
  refine opv_makeSlice (k1 := k1) (k2 := k2) hT (σ := ⟨tm', hp, n, df⟩) ho ?_ ?_ ht hd0 he hlc hb hc
  · rw [← hx]; exact evo_congr fun t e => hr t (by simp [Op.operands, e])
  · rw [← hy]; exact evo_congr fun t e => hr t (by simp [Op.operands, e])
end
end Go.Lg

/- Memory that is written over: ints stay ints, all else stays. -/
set_option linter.unusedVariables false
set_option linter.unusedSimpArgs false
set_option linter.unusedSectionVars false
namespace Go.Lg
open Go
end Go.Lg

/- A call whose arguments are own memory, frozen for good. -/
set_option linter.unusedVariables false
set_option linter.unusedSimpArgs false
set_option linter.unusedSectionVars false
namespace Go.Lg
open Go
/-! own memory as arguments, frozen for good -/
theorem roSome_ok {K : Ctx} {H HS HR : Heap} (hr : Rel K H) (h1 : ∀ id b, HS id = some b → H id = some b) (h2 : ∀ id b, HR id = some b → H id = some b) (hd : ∀ id, HR id ≠ none → HS id = none) : Rel K HS ∧ Rel (K.roAll HS) HR ∧ Step K H (K.roAll HS) HR := by
  have n1 : ∀ {id}, HS id ≠ none → H id ≠ none := fun {id} h => by
    cases e : HS id with
    | none => exact absurd e h
    | some b => rw [h1 id b e]; simp
  have n2 : ∀ {id}, HR id ≠ none → H id ≠ none := fun {id} h => by
    cases e : HR id with
    | none => exact absurd e h
    | some b => rw [h2 id b e]; simp
  have hS : Rel K HS := ⟨fun id h => hr.lt id (n1 h), fun id h => hr.nro id (n1 h), fun id b h => hr.br id b (h1 id b h), fun i j hi hj => hr.inj i j (n1 hi) (n1 hj), hr.ros⟩
  have hE : Ext K (K.roAll HS) := ⟨Nat.le_refl _, fun _ _ => ⟨rfl, rfl, rfl⟩, fun _ h => .inl h, fun _ _ => rfl⟩
  refine ⟨hS, ⟨fun id h => hr.lt id (n2 h), fun id h hb => ?_, fun id b h => (hr.br id b (h2 id b h)).mono hE (hr.lt id (n2 (by rw [h]; simp))) rfl, fun i j hi hj => hr.inj i j (n2 hi) (n2 hj), fun b hb => ?_⟩, ⟨Nat.le_refl _, fun _ _ => ⟨rfl, rfl, rfl⟩, fun _ h => .inl h, Nat.le_refl _, fun _ _ _ => rfl, ?_, ?_, rfl, rfl, rfl⟩⟩
  · rcases hb with h3 | ⟨j, h3, h4⟩
    · exact hr.nro id (n2 h) h3
    · have := hr.inj j id (n1 h3) (n2 h) h4
      subst this
      exact h3 (hd j h)
  · rcases hb with h3 | ⟨j, h3, h4⟩
    · exact hr.ros b h3
    · have := hS.size_lt h3; rw [h4] at this; exact this
  · rintro b ⟨id, h3, h4⟩; exact .inl ⟨id, n2 h3, h4⟩
  · rintro b (h3 | ⟨id, h3, h4⟩)
    · exact .inl h3
    · exact .inr (.inl ⟨id, n1 h3, h4⟩)
end Go.Lg

/- A guarded look into a map; maps that count. -/
set_option linter.unusedVariables false
set_option linter.unusedSimpArgs false
set_option linter.unusedSectionVars false
namespace Go.Lg
open Go
section
variable {P : Program} {T : TT} {B : Fb → Prop} {N m : Nat} {Q : AEx → St → Prop} {all rest : List Oper} {tm : Nat → AV} {hp : Heap} {n d : Nat} {df : List Nat} {t ty : TypeId} {pos : String} {af : Array Edge}
theorem w_mapgetg (hT : TOK P T) {j : Nat} {want : Bool} {t0 : Tmp} {y0 : AV} {kt et : TypeId} {x ix : Operand} {ok : Bool} {id : Nat} {es : List (AV × AV)} {kk kd : IntKind} {k : Int} {ti ki ei : TI} {z : AV} {r : Option (Nat × AV)} {y : AV} (hg : gslot all j = some t0) (ht0 : tm t0 = y0) (hy0 : y0 = .bool want) (hx : evo tm x = some (.map id)) (hi : evo tm ix = some (.int kk k)) (hH : hp id = some (.map es))
    (ht : T t = some ti) (hd0 : ti.desc = .map kt et) (hk : T kt = some ki) (hkd : ki.desc = .int kd) (he : T et = some ei) (hz : zeroA ei = some z) (hf : findM k kk es 0 = some r) (hy : gotM z ok r = y) (hd : d < N)
    (h : WL P B N m all rest Q ⟨upd tm d y, hp, n, df⟩) : WL P B N m all (⟨some d, .lookup t x ix ok, ty, pos, af, some (j, want)⟩ :: rest) Q ⟨tm, hp, n, df⟩ := by
  subst hy
  exact wl_op (o := ⟨some d, .lookup t x ix ok, ty, pos, af, some (j, want)⟩) (by have := ung_some (o := ⟨some d, .lookup t x ix ok, ty, pos, af, some (j, want)⟩) (tm := tm) rfl hg (ht0.trans hy0); simpa using this) (fun _ h => by cases h; exact hd) (fun c h => by cases h) (opv_lookup hT (σ := ⟨tm, hp, n, df⟩) rfl hx hi hH ht hd0 hk hkd he hz hf) h
end
/-- What a key has, in a list of keys. -/
def getC (l : List (Int × Int)) (k : Int) : Int := match l.find? (fun p => decide (p.1 = k)) with
  | some p => p.2
  | none => 0
def NodK (l : List (Int × Int)) : Prop := ∀ (a b : Nat) p q, a < b → l[a]? = some p → l[b]? = some q → p.1 ≠ q.1
/-- One look, and what a write behind it makes. -/
theorem look_cnt {l : List (Int × Int)} (hl : NodK l) (k : Int) : ∃ r, findM k .i64 (entM .i64 .i64 l) 0 = some r ∧ gotM (.int .i64 (Int.ofNat 0)) false r = .int .i64 (getC l k) ∧
    ∀ v, ∃ l', putM (.int .i64 k) (.int .i64 v) (entM .i64 .i64 l) r = entM .i64 .i64 l' ∧ NodK l' ∧ getC l' k = v ∧ ∀ k', k' ≠ k → getC l' k' = getC l k' := by
  cases hf : l.find? (fun p => decide (p.1 = k)) with
  | none =>
    have hn : ∀ p, p ∈ l → p.1 ≠ k := fun p hp e => by rw [List.find?_eq_none] at hf; exact hf p hp (by simp [e])
    refine ⟨none, findM_none hn, by simp [gotM, valM, getC, hf], fun v => ⟨l ++ [(k, v)], putM_none, fun a b p q hab hp hq => ?_, ?_, fun k' hk' => ?_⟩⟩
    · rw [List.getElem?_append] at hp hq
      by_cases hb : b < l.length
      · rw [if_pos hb] at hq
        rw [if_pos (by omega)] at hp
        exact hl a b p q hab hp hq
      · rw [if_neg hb] at hq
        have h1 := (List.getElem?_eq_some_iff.1 hq).1
        simp at h1
        have hb0 : b - l.length = 0 := by omega
        rw [hb0] at hq
        simp at hq; subst hq
        rw [if_pos (by omega)] at hp
        exact hn p (List.mem_of_getElem? hp)
    · rw [getC, List.find?_append, hf]; simp
    · simp only [getC, List.find?_append]
      cases l.find? (fun p => decide (p.1 = k')) with
      | some p => rfl
      | none => simp [Ne.symm hk']
  | some p =>
    obtain ⟨h1, as, bs, rfl, h2⟩ := List.find?_eq_some_iff_append.1 hf
    have hpk : p.1 = k := by simpa using h1
    obtain ⟨pk, pv⟩ := p
    simp only at hpk
    subst hpk
    have hat : (as ++ (pk, pv) :: bs)[as.length]? = some (pk, pv) := by rw [List.getElem?_append_right (Nat.le_refl _), Nat.sub_self]; rfl
    have hbef : ∀ (a : Nat) q, a < as.length → (as ++ (pk, pv) :: bs)[a]? = some q → q.1 ≠ pk := fun a q ha hq e => by
      rw [List.getElem?_append_left ha] at hq
      have := h2 q (List.mem_of_getElem? hq)
      simp [e] at this
    have hfm := findM_some (kk := .i64) (vk := .i64) (i := 0) hat hbef
    rw [Nat.zero_add] at hfm
    refine ⟨_, hfm, by simp [gotM, valM, getC, hf], fun v => ⟨(as ++ (pk, pv) :: bs).set as.length (pk, v), putM_some, fun a b p q hab hp hq => ?_, ?_, fun k' hk' => ?_⟩⟩
    · rw [List.getElem?_set] at hp hq
      have hlen : as.length < (as ++ (pk, pv) :: bs).length := by simp
      by_cases ha : as.length = a
      · rw [if_pos ha, if_pos hlen] at hp
        rw [if_neg (by omega)] at hq
        cases hp
        subst ha
        exact hl as.length b (pk, pv) q hab hat hq
      · rw [if_neg ha] at hp
        by_cases hb : as.length = b
        · rw [if_pos hb, if_pos hlen] at hq
          cases hq
          subst hb
          exact hl a as.length p (pk, pv) hab hp hat
        · rw [if_neg hb] at hq
          exact hl a b p q hab hp hq
    · have : (as ++ (pk, pv) :: bs).set as.length (pk, v) = as ++ (pk, v) :: bs := by simp
      rw [this, getC, List.find?_append]
      have h0 : as.find? (fun p => decide (p.1 = pk)) = none := by
        rw [List.find?_eq_none]; intro q hq; have := h2 q hq; simpa using this
      rw [h0]; simp
    · have : (as ++ (pk, pv) :: bs).set as.length (pk, v) = as ++ (pk, v) :: bs := by simp
      rw [this]
      simp only [getC, List.find?_append, List.find?_cons]
      have h3 : decide (pk = k') = false := by simp [Ne.symm hk']
      rw [h3]
end Go.Lg

/- A function whose answer is new memory, called with own memory as arguments: it reads it frozen for the time of the call. -/
set_option linter.unusedVariables false
set_option linter.unusedSimpArgs false
set_option linter.unusedSectionVars false
namespace Go.Lg
open Go
theorem NF.look {P : Program} {f : FuncId} {args ys : List AV} {X : AV → Prop} (h : NF P f ys X) (H : Heap) (n : Nat) (hF : FzL H args ys) :
    AC P f args H n fun r H' n' => n ≤ n' ∧ (∀ id b, H id = some b → H' id = some b) ∧ (∀ id, n' ≤ id → H' id = none) ∧ ∃ x y, r = .ret x ∧ Own H' (n ≤ ·) x y ∧ X y := by
  intro K vs hn hr hv
  obtain ⟨hR, hS⟩ := roAll_ok hr
  have hy := hF.get.1
  have hv' : VRs (K.roAll H) ys vs.toList := by
    have := fz_list (K' := K.roAll H) (cs := args) (ys := ys) (by omega) hv (fun i x y h1 h2 v hv => fz_VR hr (hF.get.2 i x y h1 h2) v hv)
    rwa [List.take_of_length_le (by rw [hv.1, hy]; exact Nat.le_refl _)] at this
  refine ((h.run n) (K.roAll H) vs hn hR hv').mono ?_
  rintro e w' ⟨K', H1, r, rfl, hr', hst, hrr, x, y, rfl, ho, hx⟩
  have hnob : ∀ b, ¬ OB (K.roAll H) noHeap b := fun b ⟨i, h, _⟩ => h rfl
  have hsame : ∀ b, b < K.w.heap.size → K'.w.heap[b]? = K.w.heap[b]? := fun b hb => hst.same b hb (hnob b)
  have hnew : ∀ id, H1 id ≠ none → K.w.heap.size ≤ K'.base id := fun id h => by
    rcases hst.own _ ⟨id, h, rfl⟩ with h | h
    · exact absurd h (hnob _)
    · exact h
  let K2 : Ctx := { base := K'.base, boff := K'.boff, bsz := K'.bsz, next := K'.next, ro := K.ro, w := K'.w }
  have hmu : ∀ id, id < K.next → K2.base id = K.base id ∧ K2.boff id = K.boff id ∧ K2.bsz id = K.bsz id := fun id hid => hst.mu id hid
  have hE : Ext K K2 := ⟨hst.next, hmu, fun _ h => h, fun b hb => hsame b (hr.ros b hb)⟩
  have hsh : ∀ {x v}, VR K' x v → VR K2 (sh 0 x) v := fun h => vr_sh (n := 0) (fun id hid => by rw [Nat.zero_add]; exact ⟨hid, rfl, rfl, rfl⟩) h
  have hold : ∀ id, H id ≠ none → id < n := fun id h => by have := hr.lt id h; omega
  have inv : ∀ id, shH 0 H1 id ≠ none → H1 id ≠ none ∧ ∃ cs e, H1 id = some (.cells cs e) ∧ shH 0 H1 id = some (.cells (shL 0 cs) e) := fun id h => by
    cases hb : shH 0 H1 id with
    | none => exact absurd hb h
    | some b =>
      obtain ⟨_, cs, e, h2, rfl⟩ := shH_inv hb
      rw [Nat.sub_zero] at h2
      exact ⟨by rw [h2]; simp, cs, e, h2, rfl⟩
  have hdis : ∀ id, H id ≠ none → shH 0 H1 id = none := fun id h => by
    cases hb : shH 0 H1 id with
    | none => rfl
    | some b =>
      obtain ⟨h1, _⟩ := inv id (by rw [hb]; simp)
      have h2 := hnew id h1
      have h3 := hr.size_lt h
      rw [← (hmu id (hr.lt id h)).1] at h3
      have : K2.base id = K'.base id := rfl
      omega
  let H2 : Heap := (shH 0 H1).or H
  have new : ∀ {id b}, shH 0 H1 id = some b → H2 id = some b := fun h => by simp only [H2, Heap.or, h]
  have old : ∀ {id b}, H id = some b → H2 id = some b := fun {id b} h => by simp only [H2, Heap.or, hdis id (by rw [h]; simp), h]
  have cs2 : ∀ id, H2 id ≠ none → (shH 0 H1 id ≠ none) ∨ (shH 0 H1 id = none ∧ H id ≠ none ∧ H2 id = H id) := fun id h => by
    cases hb : shH 0 H1 id with
    | some b => left; simp
    | none => right; have e : H2 id = H id := by simp only [H2, Heap.or, hb]
              exact ⟨rfl, by rw [← e]; exact h, e⟩
  have hrel : Rel K2 H2 := by
    refine ⟨fun id h => ?_, fun id h => ?_, fun id b hb => ?_, fun i j hi hj e => ?_, fun b hb => Nat.lt_of_lt_of_le (hr.ros b hb) hst.size⟩
    · rcases cs2 id h with h | ⟨_, h, _⟩
      · exact hr'.lt id (inv id h).1
      · exact Nat.lt_of_lt_of_le (hr.lt id h) hst.next
    · rcases cs2 id h with h | ⟨_, h, _⟩
      · intro hro
        have h1 := hnew id (inv id h).1
        have h2 := hr.ros _ hro
        have : K2.base id = K'.base id := rfl
        omega
      · rw [(hmu id (hr.lt id h)).1]; exact hr.nro id h
    · rcases cs2 id (by rw [hb]; simp) with h | ⟨_, h, e⟩
      · obtain ⟨h1, cs, e, h2, h3⟩ := inv id h
        have hb' := new h3
        rw [hb] at hb'; cases hb'
        obtain ⟨arr, fr, g1, g2, g3, g4, g5⟩ := hr'.br _ _ h2
        refine ⟨arr, fr, g1, g2, g3, by rw [shL_map, List.length_map]; exact g4, fun j z hz => ?_⟩
        rw [shL_map, List.getElem?_map] at hz
        cases hc : cs[j]? with
        | none => rw [hc] at hz; cases hz
        | some u =>
          rw [hc] at hz; cases hz
          obtain ⟨v, hv1, hv2⟩ := g5 j u hc
          exact ⟨v, hv1, hsh hv2⟩
      · rw [e] at hb
        exact (hr.br id b hb).mono hE (hr.lt id h) (hsame _ (hr.size_lt h))
    · rcases cs2 i hi with hi | ⟨_, hi, _⟩ <;> rcases cs2 j hj with hj | ⟨_, hj, _⟩
      · exact hr'.inj _ _ (inv i hi).1 (inv j hj).1 e
      · have h1 := hnew i (inv i hi).1
        have h2 := hr.size_lt hj
        rw [(hmu j (hr.lt j hj)).1] at e
        have : K2.base i = K'.base i := rfl
        omega
      · have h1 := hnew j (inv j hj).1
        have h2 := hr.size_lt hi
        rw [(hmu i (hr.lt i hi)).1] at e
        have : K2.base j = K'.base j := rfl
        omega
      · rw [(hmu i (hr.lt i hi)).1, (hmu j (hr.lt j hj)).1] at e
        exact hr.inj i j hi hj e
  have hstep : Step K H K2 H2 := by
    refine ⟨hst.next, hmu, fun _ h => h, hst.size, fun b hb _ => hsame b hb, fun b hb => ?_, fun b hb => .inl hb, hst.os, hst.tape, hst.output⟩
    obtain ⟨i, hi, rfl⟩ := hb
    rcases cs2 i hi with hi | ⟨_, hi, _⟩
    · exact .inr (hnew i (inv i hi).1)
    · exact .inl ⟨i, hi, ((hmu i (hr.lt i hi)).1).symm⟩
  have ho2 : Own H2 (n ≤ ·) (sh 0 x) y := (own_sh (n := 0) ho).mono (fun id h => by have := h.2; rwa [Nat.sub_zero] at this) (fun _ _ _ h => new h)
  cases hrr with
  | ret hvr =>
    refine ⟨K2, H2, .ret (sh 0 x), rfl, hrel, hstep, .ret (hsh hvr), by rw [← hn]; exact hst.next, fun id b h => old h, fun id hid => ?_, sh 0 x, y, rfl, ho2, hx⟩
    cases h : H2 id with
    | none => rfl
    | some b =>
      have := hrel.lt id (by rw [h]; simp)
      have : K2.next = K'.next := rfl
      omega
end Go.Lg

/- An interface's nil compared with nil. -/
set_option linter.unusedVariables false
set_option linter.unusedSimpArgs false
set_option linter.unusedSectionVars false
namespace Go.Lg
open Go
section
variable {P : Program} {T : TT} {tm : Nat → AV} {t ty : TypeId}
theorem inil_run (hT : TOK P T) {ti : TI} (ht : T t = some ti) {ms : Array (String × TypeId)} (hd : ti.desc = .interface ms) (w : World) (x : Operand) (op : BinOp) :
    (∀ d, (Op.equalIn (d + 1) t .nilIface .nilIface).run P w = .ok true w) ∧ (eqGuard op t x (.const .nilIface) .nilIface .nilIface).run P w = .ok () w := by
  have hu := r_und hT ht w
  rw [hd] at hu
  refine ⟨fun d => by unfold Op.equalIn; rw [run_bindv hu]; rfl, ?_⟩
  unfold eqGuard
  cases op <;> cases x <;> rfl
theorem p_inil (hT : TOK P T) {x : Operand} {ti : TI} {ms : Array (String × TypeId)} (ht : T t = some ti) (hd : ti.desc = .interface ms) {a : AV} (hx : evo tm x = some a) (ha : a = .nilIface) : Pure P tm (.binOp .eql t x (.const .nilIface) ty) (.bool true) := by
  subst ha
  refine ⟨fun c h => (by cases h), fun N o tm' h n df hop hr => opv_of fun K ac hs => ?_⟩
  have hx' : evo tm' x = some .nilIface := by rw [← hx]; exact evo_congr fun t e => hr t (by simp [Op.operands, e])
  have hv := evo_sound hs.tr hx'
  refine ⟨.bool true, ?_, .bool _⟩
  obtain ⟨h1, h2⟩ := inil_run hT ht hd K.w x .eql
  unfold execOp; rw [hop]
  refine run_v ?_
  cases he : ac.eval x <;> rw [he] at hv <;> cases hv
  rw [show ac.eval (Operand.const Value.nilIface) = Value.nilIface from rfl]
  rw [run_bindv h2]
  exact run_eqbin h1 rfl
theorem p_innil (hT : TOK P T) {x : Operand} {ti : TI} {ms : Array (String × TypeId)} (ht : T t = some ti) (hd : ti.desc = .interface ms) {a : AV} (hx : evo tm x = some a) (ha : a = .nilIface) : Pure P tm (.binOp .neq t x (.const .nilIface) ty) (.bool false) := by
  subst ha
  refine ⟨fun c h => (by cases h), fun N o tm' h n df hop hr => opv_of fun K ac hs => ?_⟩
  have hx' : evo tm' x = some .nilIface := by rw [← hx]; exact evo_congr fun t e => hr t (by simp [Op.operands, e])
  have hv := evo_sound hs.tr hx'
  refine ⟨.bool false, ?_, .bool _⟩
  obtain ⟨h1, h2⟩ := inil_run hT ht hd K.w x .neq
  unfold execOp; rw [hop]
  refine run_v ?_
  cases he : ac.eval x <;> rw [he] at hv <;> cases hv
  rw [show ac.eval (Operand.const Value.nilIface) = Value.nilIface from rfl]
  rw [run_bindv h2]
  exact run_nebin (b := true) h1 rfl
end
end Go.Lg


