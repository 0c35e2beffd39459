/- More operations by value: indexing, parts, building, memory of the frame's own. -/
import Derived.Test.YtlmighkbeacjnaaLgC
set_option linter.unusedVariables false
set_option linter.unusedSimpArgs false
set_option linter.unusedSectionVars false
namespace Go.Lg
open Go

def pvIndexAddr (T : TT) (t : TypeId) (x i : AV) : Option AV :=
  match T t, i with
  | some ti, .int _ i => match ti.desc with
    | .slice e => match T e with
      | some ei => if 0 ≤ i then match x with
        | .view rows => match rows[i.toNat]? with
          | some r => if r.length = ei.size then some (.vptr r) else none
          | none => none
        | .slice id off len _ sz => if i < len then if sz = ei.size then some (.ptr id (off + i.toNat * sz)) else none else none
        | _ => none
        else none
      | none => none
    | .array n e => match T e with
      | some ei => if 0 ≤ i then if i < n then match x with
        | .ptr id off => some (.ptr id (off + i.toNat * ei.size))
        | .vptr cells => some (.vptr (cells.drop (i.toNat * ei.size)))
        | _ => none
        else none else none
      | none => none
    | _ => none
  | _, _ => none
def pvIndex (T : TT) (t : TypeId) (x i : AV) : Option AV :=
  match T t, i, x with
  | some ti, .int _ i, .agg cs => match ti.desc with
    | .array n e => match T e with
      | some ei => if 0 ≤ i then if i < n then partA ei cs (i.toNat * ei.size) else none else none
      | none => none
    | _ => none
  | _, _, _ => none
def pvOwn (T : TT) (h : Heap) (t : TypeId) (x : AV) : Option AV :=
  match T t, x with
  | some i, .ptr id off => match h id with
    | some (.cells cs _) => loadA i (cs.drop off)
    | _ => none
  | _, _ => none
def pvx (T : TT) (tm : Nat → AV) (h : Heap) (op : Op) : Option AV :=
  match op with
  | .indexAddr t x i => (evo tm x).bind fun a => (evo tm i).bind fun b => pvIndexAddr T t a b
  | .index t x i => (evo tm x).bind fun a => (evo tm i).bind fun b => pvIndex T t a b
  | .load t x => (evo tm x).bind (pvOwn T h t)
  | .build t parts => (evp tm parts.toList).bind fun ps => (buildA T t ps).map .agg
  | .box _ x => (evo tm x).bind fun y => if known y = true then some (.vptr (cellsA y)) else none
  | _ => none

section
variable {P : Program} {B : Fb → Prop} {T : TT} (hT : TOK P T) {N m : Nat} {o : Oper} {σ : St}
theorem bind_some_ {α β : Type} {x : Option α} {f : α → Option β} {b : β} (h : x.bind f = some b) : ∃ a, x = some a ∧ f a = some b := by
  cases x with
  | none => cases h
  | some a => exact ⟨a, rfl, h⟩
include hT
theorem pvx_sound {x : AV} (h : pvx T σ.tm σ.h o.op = some x) : OpV P N o σ x σ.h σ.n := by
  unfold pvx at h
  split at h
  · rename_i t a b hop
    obtain ⟨u, hu, h⟩ := bind_some_ h
    obtain ⟨v, hv, h⟩ := bind_some_ h
    unfold pvIndexAddr at h
    split at h
    · rename_i ti k i ht
      split at h
      · rename_i e hd
        split at h
        · rename_i ei he
          split at h
          · rename_i h0
            split at h
            · rename_i rows
              split at h
              · rename_i r hr
                split at h
                · rename_i hz
                  cases h
                  exact opv_indexAddr_view hT hop hu hv ht hd he h0 hr hz
                · cases h
              · cases h
            · rename_i id off len cap sz
              split at h
              · rename_i hlt
                split at h
                · rename_i hz
                  cases h
                  exact opv_indexAddr_own hT hop hu hv ht hd he h0 hlt hz
                · cases h
              · cases h
            · cases h
          · cases h
        · cases h
      · rename_i n e hd
        split at h
        · rename_i ei he
          split at h
          · rename_i h0
            split at h
            · rename_i hlt
              split at h
              · rename_i id off
                cases h
                exact opv_indexAddr_arr hT hop hu hv ht hd he h0 hlt (.inl ⟨_, _, rfl, rfl⟩)
              · rename_i cells
                cases h
                exact opv_indexAddr_arr hT hop hu hv ht hd he h0 hlt (.inr ⟨_, rfl, rfl⟩)
              · cases h
            · cases h
          · cases h
        · cases h
      · cases h
    · cases h
  · rename_i t a b hop
    obtain ⟨u, hu, h⟩ := bind_some_ h
    obtain ⟨v, hv, h⟩ := bind_some_ h
    unfold pvIndex at h
    split at h
    · rename_i ti k i cs ht _
      split at h
      · rename_i n e hd
        split at h
        · rename_i ei he
          split at h
          · rename_i h0
            split at h
            · rename_i hlt
              exact opv_index hT hop hu hv ht hd he h0 hlt h
            · cases h
          · cases h
        · cases h
      · cases h
    · cases h
  · rename_i t a hop
    obtain ⟨u, hu, h⟩ := bind_some_ h
    unfold pvOwn at h
    split at h
    · rename_i i id off ht
      split at h
      · rename_i cs e hH
        exact opv_load hT hop hu hH ht h
      · cases h
    · cases h
  · rename_i t parts hop
    obtain ⟨ps, hp, h⟩ := bind_some_ h
    cases hb : buildA T t ps with
    | none => rw [hb] at h; cases h
    | some ys => rw [hb] at h; cases h; exact opv_build hT hop hp hb
  · rename_i t a hop
    obtain ⟨u, hu, h⟩ := bind_some_ h
    split at h
    · rename_i hk
      cases h
      exact opv_box_ro hop hu hk
    · cases h
  · cases h

variable {all rest : List Oper} {Q : AEx → St → Prop} {tm : Nat → AV} {hp hp' : Heap} {n n' : Nat} {df : List Nat}
  {d : Nat} {op : Op} {ty : TypeId} {pos : String} {af : Array Edge} {j : Nat} {want : Bool} {x y : AV} {t : Nat}
theorem wx (hx : pvx T tm hp op = some x) (hd : d < N) (h : WL P B N m all rest Q ⟨upd tm d x, hp, n, df⟩) : WL P B N m all (⟨some d, op, ty, pos, af, none⟩ :: rest) Q ⟨tm, hp, n, df⟩ :=
  wl_op (o := ⟨some d, op, ty, pos, af, none⟩) (ung_none rfl) (fun _ h => by cases h; exact hd) (fun c h => by
    have h : op = .defer c := h
    rw [h] at hx; cases hx) (pvx_sound hT hx) h
theorem wxg (hg : gslot all j = some t) (ht : tm t = y) (hy : y = .bool want) (hx : pvx T tm hp op = some x) (hd : d < N) (h : WL P B N m all rest Q ⟨upd tm d x, hp, n, df⟩) : WL P B N m all (⟨some d, op, ty, pos, af, some (j, want)⟩ :: rest) Q ⟨tm, hp, n, df⟩ :=
  wl_op (o := ⟨some d, op, ty, pos, af, some (j, want)⟩) (by have := ung_some (o := ⟨some d, op, ty, pos, af, some (j, want)⟩) (tm := tm) rfl hg (ht.trans hy); simpa using this) (fun _ h => by cases h; exact hd) (fun c h => by
    have h : op = .defer c := h
    rw [h] at hx; cases hx) (pvx_sound hT hx) h

/-- What changes own memory. -/
def hvStore (T : TT) (h : Heap) (t : TypeId) (x y : AV) : Option Heap :=
  match T t, x with
  | some i, .ptr id off => match h id with
    | some (.cells cs e) => if (cellsA y).length = i.size then if off + i.size ≤ cs.length then if (cellsA y).all scalA = true then some (upd h id (some (.cells (wr cs off (cellsA y)) e))) else none else none else none
    | _ => none
  | _, _ => none
theorem w_store {a b : Operand} {u v : AV} {af : Array Edge} (hu : evo tm a = some u) (hv : evo tm b = some v) (hs : hvStore T hp t u v = some hp') (h : WL P B N m all rest Q ⟨tm, hp', n, df⟩) : WL P B N m all (⟨none, .store t a b, ty, pos, af, none⟩ :: rest) Q ⟨tm, hp, n, df⟩ := by
  unfold hvStore at hs
  split at hs
  · rename_i i id off ht
    split at hs
    · rename_i cs e hH
      split at hs
      · rename_i h1
        split at hs
        · rename_i h2
          split at hs
          · rename_i h3
            cases hs
            exact wl_op (o := ⟨none, .store t a b, ty, pos, af, none⟩) (ung_none rfl) (fun _ h => by cases h) (fun c h => by cases h) (opv_store hT rfl hu hv hH ht h1 h2 (by simpa [List.all_eq_true] using h3)) h
          · cases hs
        · cases hs
      · cases hs
    · cases hs
  · cases hs
theorem w_alloc {i : TI} (ht : T t = some i) (hd : d < N) (h : WL P B N m all rest Q ⟨upd tm d (.ptr n 0), upd hp n (some (.cells i.zero t)), n + 1, df⟩) : WL P B N m all (⟨some d, .alloc t, ty, pos, af, none⟩ :: rest) Q ⟨tm, hp, n, df⟩ :=
  wl_op (o := ⟨some d, .alloc t, ty, pos, af, none⟩) (ung_none rfl) (fun _ h => by cases h; exact hd) (fun c h => by cases h) (opv_alloc hT rfl ht) h
omit hT in
theorem w_box {a : Operand} (hx : evo tm a = some x) (hk : known x = true) (hd : d < N) (h : WL P B N m all rest Q ⟨upd tm d (.ptr n 0), upd hp n (some (.cells (cellsA x) t)), n + 1, df⟩) : WL P B N m all (⟨some d, .box t a, ty, pos, af, none⟩ :: rest) Q ⟨tm, hp, n, df⟩ :=
  wl_op (o := ⟨some d, .box t a, ty, pos, af, none⟩) (ung_none rfl) (fun _ h => by cases h; exact hd) (fun c h => by cases h) (opv_box rfl hx hk) h
omit hT in
/-- A call of a function that only computes, with a known answer. -/
theorem wcall {fo : Operand} {args : Array Operand} {ats : Array TypeId} {g : FuncId} {first cap xs : List AV} {X : AV → Prop} (hf : evo tm fo = some (.func (.func g) first cap)) (hx : evs tm args.toList = some xs) (hpf : PF P g (first ++ xs ++ cap) X) (hd : d < N)
    (h : ∀ x, X x → Pur x → WL P B N m all rest Q ⟨upd tm d x, hp, n, df⟩) : WL P B N m all (⟨some d, .call { callee := .value fo, args := args, argTypes := ats }, ty, pos, af, none⟩ :: rest) Q ⟨tm, hp, n, df⟩ :=
  wl_pcall (o := ⟨some d, .call { callee := .value fo, args := args, argTypes := ats }, ty, pos, af, none⟩) rfl (ung_none rfl) (fun _ h => by cases h; exact hd) hf hx (Subs.refl _) hpf h
omit hT in
theorem wcallg {fo : Operand} {args : Array Operand} {ats : Array TypeId} {g : FuncId} {first cap xs : List AV} {X : AV → Prop} (hg : gslot all j = some t) (ht : tm t = y) (hy : y = .bool want) (hf : evo tm fo = some (.func (.func g) first cap)) (hx : evs tm args.toList = some xs) (hpf : PF P g (first ++ xs ++ cap) X) (hd : d < N)
    (h : ∀ x, X x → Pur x → WL P B N m all rest Q ⟨upd tm d x, hp, n, df⟩) : WL P B N m all (⟨some d, .call { callee := .value fo, args := args, argTypes := ats }, ty, pos, af, some (j, want)⟩ :: rest) Q ⟨tm, hp, n, df⟩ :=
  wl_pcall (o := ⟨some d, .call { callee := .value fo, args := args, argTypes := ats }, ty, pos, af, some (j, want)⟩) rfl (by have := ung_some (o := ⟨some d, .call { callee := .value fo, args := args, argTypes := ats }, ty, pos, af, some (j, want)⟩) (tm := tm) rfl hg (ht.trans hy); simpa using this) (fun _ h => by cases h; exact hd) hf hx (Subs.refl _) hpf h
end

/-! loops: canonical states at the head -/
def fitsL (tm : Nat → AV) : Nat → List AV → Prop
  | _, [] => True
  | k, x :: r => Sub (tm k) x ∧ fitsL tm (k + 1) r
theorem Sub.any (x : AV) : Sub x .any := fun _ _ _ => .any _
theorem fits_get {tm : Nat → AV} : ∀ {l : List AV} {k : Nat}, fitsL tm k l → ∀ (i : Nat) x, l[i]? = some x → Sub (tm (k + i)) x
  | y :: l, k, h, 0, x, hx => by simp at hx; subst hx; exact h.1
  | y :: l, k, h, i + 1, x, hx => by have := fits_get h.2 i x (by simpa using hx); rwa [show k + 1 + i = k + (i + 1) from by omega] at this
theorem TR.canon {K : Ctx} {N : Nat} {tm : Nat → AV} {tmps : Array Value} {l : List AV} (h : TR K N tm tmps) (hl : l.length = N) (hf : fitsL tm 0 l) : TR K N (args0 l) tmps := by
  refine ⟨h.1, fun t => ?_⟩
  by_cases ht : t < N
  · have hx : l[t]? = some (l[t]'(by omega)) := List.getElem?_eq_getElem _
    have := fits_get hf t _ hx
    rw [Nat.zero_add] at this
    have h2 := this K _ (h.2 t)
    simpa [args0, hx] using h2
  · have hx : l[t]? = none := List.getElem?_eq_none (by omega)
    have h2 : tmps.getD t undef = undef := by
      rw [Array.getD_eq_getD_getElem?, Array.getElem?_eq_none (by rw [h.1]; omega)]; rfl
    simp only [args0, List.getD_eq_getElem?_getD, hx, Option.getD_none, h2]
    exact VR.undef_ K

/-- Values whose ids lie below 'm'. -/
inductive Low (m : Nat) : AV → Prop
  | pur {x : AV} (h : Pur x) : Low m x
  | ptr {id off : Nat} (h : id < m) : Low m (.ptr id off)
  | slice {id off len : Nat} {cap : Option Nat} {sz : Nat} (h : id < m) : Low m (.slice id off len cap sz)
  | map {id : Nat} (h : id < m) : Low m (.map id)
  | func {fn : Fn} {a b : List AV} (h1 : ∀ x, x ∈ a → Low m x) (h2 : ∀ x, x ∈ b → Low m x) : Low m (.func fn a b)
  | agg {cs : List AV} (h : ∀ x, x ∈ cs → Low m x) : Low m (.agg cs)
  | tuple {cs : List AV} (h : ∀ x, x ∈ cs → Low m x) : Low m (.tuple cs)
/-- The same context with fewer ids given. -/
def Ctx.cut (K : Ctx) (m : Nat) : Ctx := { K with next := m }
theorem VR.cut {K : Ctx} {m : Nat} {x : AV} {v : Value} (h : VR K x v) (hx : Low m x) : VR (K.cut m) x v := by
  induction h with
  | ptr h => cases hx with
    | pur h => cases h
    | ptr h => exact .ptr (K := K.cut m) h
  | slice h ho hc hl hcap => cases hx with
    | pur h => cases h
    | slice h => exact .slice (K := K.cut m) h ho hc hl hcap
  | map h => cases hx with
    | pur h => cases h
    | map h => exact .map (K := K.cut m) h
  | @func fn first captured fs cs hn h1 h2 hf hc ih1 ih2 => cases hx with
    | pur h => exact VR.pur (K := K) (K' := K.cut m) (fun _ h => h) (fun _ _ => rfl) (.func hn h1 h2 hf hc) h
    | func p1 p2 => exact .func hn h1 h2 (fun i x hx => ih1 i x hx (p1 x (List.mem_of_getElem? hx))) (fun i x hx => ih2 i x hx (p2 x (List.mem_of_getElem? hx)))
  | @agg cs vs h1 h ih => cases hx with
    | pur hp => exact VR.pur (K := K) (K' := K.cut m) (fun _ h => h) (fun _ _ => rfl) (.agg h1 h) hp
    | agg p => exact .agg h1 (fun i x hx => ih i x hx (p x (List.mem_of_getElem? hx)))
  | @tuple cs vs h1 h ih => cases hx with
    | pur hp => exact VR.pur (K := K) (K' := K.cut m) (fun _ h => h) (fun _ _ => rfl) (.tuple h1 h) hp
    | tuple p => exact .tuple h1 (fun i x hx => ih i x hx (p x (List.mem_of_getElem? hx)))
  | bool b => exact .bool b
  | int k n => exact .int k n
  | str s => exact .str s
  | @view rows a c esz f hc hl ha hv ih => cases hx with
    | pur hp => exact VR.pur (K := K) (K' := K.cut m) (fun _ h => h) (fun _ _ => rfl) (.view f hc hl ha hv) hp
  | empty a => exact .empty a
  | @vptr cells blk off f hr hc hv ih => cases hx with
    | pur hp => exact VR.pur (K := K) (K' := K.cut m) (fun _ h => h) (fun _ _ => rfl) (.vptr f hr hc hv) hp
  | nilptr => exact .nilptr
  | yieldf h => cases hx with
    | pur h => cases h
  | nilFunc => exact .nilFunc
  | @iface t x v h ih => cases hx with
    | pur hp => exact VR.pur (K := K) (K' := K.cut m) (fun _ h => h) (fun _ _ => rfl) (.iface h) hp
  | nilIface => exact .nilIface
  | any v => exact .any v
end Go.Lg
