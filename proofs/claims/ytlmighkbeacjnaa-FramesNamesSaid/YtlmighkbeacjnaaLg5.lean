/- Pure operations, on: the function 'pv'. -/
import Derived.Test.YtlmighkbeacjnaaLg4
import Derived.Laws.Cells
set_option linter.unusedVariables false
set_option linter.unusedSimpArgs false
set_option linter.unusedSectionVars false
namespace Go.Lg
open Go

theorem add_plain (b o j : Nat) : (⟨b, o, none⟩ : Addr).add j = ⟨b, o + j, none⟩ := by
  unfold Addr.add; split
  · rename_i h; subst h; rfl
  · rfl
theorem VRs.drop {K : Ctx} {xs : List AV} {vs : List Value} (n : Nat) (h : VRs K xs vs) : VRs K (xs.drop n) (vs.drop n) :=
  ⟨by simp [h.1], fun i x v hx hv => by rw [List.getElem?_drop] at hx hv; exact h.2 _ x v hx hv⟩
theorem VRs.take {K : Ctx} {xs : List AV} {vs : List Value} (n : Nat) (h : VRs K xs vs) : VRs K (xs.take n) (vs.take n) :=
  ⟨by simp [h.1], fun i x v hx hv => by
    rw [List.getElem?_take] at hx hv
    split at hx
    · rename_i hi; rw [if_pos hi] at hv; exact h.2 _ x v hx hv
    · cases hx⟩
theorem VRs.get {K : Ctx} {xs : List AV} {vs : List Value} (h : VRs K xs vs) {i : Nat} {x : AV} (hx : xs[i]? = some x) : ∃ v, vs[i]? = some v ∧ VR K x v := by
  have hi : i < vs.length := by rw [h.1]; exact (List.getElem?_eq_some_iff.1 hx).1
  exact ⟨vs[i], List.getElem?_eq_getElem hi, h.2 i x _ hx (List.getElem?_eq_getElem hi)⟩

def loadA (i : TI) (xs : List AV) : Option AV := if isAggD i.desc then (if i.size ≤ xs.length then some (.agg (xs.take i.size)) else none) else xs[0]?
def partA (i : TI) (cs : List AV) (off : Nat) : Option AV := if isAggD i.desc then (if off + i.size ≤ cs.length then some (.agg ((cs.drop off).take i.size)) else none) else cs[off]?

section
variable {P : Program} {T : TT} (hT : TOK P T)
include hT
/-- Cells at a place, as they read. -/
theorem r_loadVar {t : TypeId} {i : TI} (ht : T t = some i) {K : Ctx} {xs : List AV} {y : AV} {blk off : Nat} {vs : List Value} (hv : VRs K xs vs) (hc : ∀ (j : Nat) v, vs[j]? = some v → K.w.cell? ⟨blk, off + j, none⟩ = some v)
    (hy : loadA i xs = some y) : ∃ v, (loadVar t ⟨blk, off, none⟩).run P K.w = .ok v K.w ∧ VR K y v := by
  unfold loadA at hy
  unfold loadVar
  rw [run_bindv (r_isAgg hT ht K.w)]
  split at hy
  · rename_i hagg
    split at hy
    · rename_i hle
      obtain rfl := Option.some.inj hy
      rw [if_pos hagg, run_bindv (r_size hT ht K.w)]
      have hl : (vs.take i.size).length = i.size := by rw [List.length_take, hv.1]; omega
      have := run_loadCells_list (P := P) (w := K.w) ⟨blk, off, none⟩ (vs.take i.size) (fun j v hj => by
        rw [add_plain]; rw [List.getElem?_take] at hj
        split at hj
        · exact hc j v hj
        · cases hj)
      rw [hl] at this
      rw [run_bindv this]
      exact ⟨_, rfl, VR.agg_.2 (by simpa using hv.take i.size)⟩
    · cases hy
  · rename_i hagg
    obtain ⟨v, h1, h2⟩ := hv.get hy
    rw [if_neg hagg]
    refine ⟨v, ?_, h2⟩
    have := hc 0 v h1
    simp only [Nat.add_zero] at this
    simp [Go.load, Sem.run, this]
theorem r_part {t : TypeId} {i : TI} (ht : T t = some i) {K : Ctx} {xs : List AV} {y : AV} {off : Nat} {vs : Array Value} (hv : VRs K xs vs.toList)
    (hy : partA i xs off = some y) : ∃ v, (part t vs off).run P K.w = .ok v K.w ∧ VR K y v := by
  unfold partA at hy
  unfold part
  rw [run_bindv (r_isAgg hT ht K.w)]
  split at hy
  · rename_i hagg
    split at hy
    · obtain rfl := Option.some.inj hy
      rw [if_pos hagg, run_bindv (r_size hT ht K.w)]
      refine ⟨_, rfl, VR.agg_.2 ?_⟩
      have : (vs.extract off (off + i.size)).toList = (vs.toList.drop off).take i.size := by simp
      rw [this]
      exact (hv.drop off).take _
    · cases hy
  · rename_i hagg
    obtain ⟨v, h1, h2⟩ := hv.get hy
    rw [if_neg hagg]
    have : vs[off]? = some v := by rw [← Array.getElem?_toList]; exact h1
    rw [this]
    exact ⟨v, rfl, h2⟩
end

def lenA (d : TypeDesc) (x : AV) : Option Int :=
  match d, x with
  | .string, .str s => some s.length
  | .slice _, .view rows => some rows.length
  | .slice _, .empty => some 0
  | .slice _, .slice _ _ n _ _ => some n
  | .array n _, _ => some n
  | _, _ => none

def pvPick (c a b : AV) : Option AV :=
  match c with
  | .bool true => some a
  | .bool false => some b
  | _ => none
def pvUn (op : UnOp) (x : AV) : Option AV :=
  match op, x with
  | .not, .bool b => some (.bool !b)
  | .neg, .int k n => some (.int k (k.wrap (0 - n)))
  | _, _ => none
def pvConv (T : TT) (s d : TypeId) (x : AV) : Option AV :=
  match T s, T d with
  | some _, some j => match j.desc, x with
    | .int k, .int _ n => some (.int k (k.wrap n))
    | .string, .str s => some (.str s)
    | _, _ => none
  | _, _ => none
def pvExtract (i : Nat) (x : AV) : Option AV :=
  match x with
  | .tuple vs => vs[i]?
  | _ => none
def fieldOf (T : TT) (t : TypeId) (f : Nat) : Option (Field × TI) :=
  match T t with
  | some i => match i.desc with
    | .struct fs => match fs[f]? with
      | some fd => match T fd.type with
        | some fi => some (fd, fi)
        | none => none
      | none => none
    | _ => none
  | none => none
def pvField (T : TT) (t : TypeId) (f : Nat) (x : AV) : Option AV :=
  match fieldOf T t f, x with
  | some (fd, fi), .agg cs => partA fi cs fd.offset
  | _, _ => none
def pvFieldAddr (T : TT) (t : TypeId) (f : Nat) (x : AV) : Option AV :=
  match fieldOf T t f with
  | some (fd, fi) => if fi.size = 0 then none else match x with
    | .vptr cells => some (.vptr (cells.drop fd.offset))
    | .ptr id off => some (.ptr id (off + fd.offset))
    | _ => none
  | none => none
def pvLoad (T : TT) (t : TypeId) (x : AV) : Option AV :=
  match T t, x with
  | some i, .vptr cells => loadA i cells
  | _, _ => none
def pvNil (x : AV) : Option AV :=
  match x with
  | .vptr c => some (.vptr c)
  | .ptr i o => some (.ptr i o)
  | .func (.func f) a b => some (.func (.func f) a b)
  | _ => none
def isIface : TypeDesc → Bool
  | .interface _ => true
  | _ => false
def pvIface (T : TT) (t : TypeId) (x : AV) : Option AV :=
  match T t with
  | some i => if isIface i.desc = true then none else some (.iface t x)
  | none => none
def noYieldB : Fn → Bool
  | .yield _ => false
  | _ => true
def pvLen (T : TT) (t : TypeId) (x : AV) : Option AV :=
  match T t with
  | some i => match lenA i.desc x with
    | some n => some (.int .i64 n)
    | none => none
  | none => none
def pvCall (T : TT) (tm : Nat → AV) (c : Call) : Option AV :=
  match c with
  | { callee := .builtin .len, args := ⟨[x]⟩, argTypes := ⟨[t]⟩ } => (evo tm x).bind (pvLen T t)
  | _ => none
def pv (T : TT) (tm : Nat → AV) (op : Op) : Option AV :=
  match op with
  | .move x => evo tm x
  | .assign x => evo tm x
  | .pick c a b => (evo tm c).bind fun c => (evo tm a).bind fun a => (evo tm b).bind fun b => pvPick c a b
  | .binOp op t x y _ => (evo tm x).bind fun a => (evo tm y).bind fun b => binv T op t a b
  | .unOp op _ x => (evo tm x).bind (pvUn op)
  | .convert s d x => (evo tm x).bind (pvConv T s d)
  | .extract x i => (evo tm x).bind (pvExtract i)
  | .field t x f => (evo tm x).bind (pvField T t f)
  | .fieldAddr t x f => (evo tm x).bind (pvFieldAddr T t f)
  | .load t x => (evo tm x).bind (pvLoad T t)
  | .nilCheck x => (evo tm x).bind pvNil
  | .makeInterface t x => (evo tm x).bind (pvIface T t)
  | .makeFunc fn first cap => if noYieldB fn = true then (evs tm first.toList).bind fun a => (evs tm cap.toList).bind fun b => some (.func fn a b) else none
  | .call c => pvCall T tm c
  | _ => none

theorem getD_toList (a : Array Value) (i : Nat) : a.getD i undef = a.toList.getD i undef := by
  rw [Array.getD_eq_getD_getElem?, List.getD_eq_getElem?_getD, Array.getElem?_toList]
theorem VRs.func {K : Ctx} {fn : Fn} {xs ys : List AV} {vs us : Array Value} (hn : Fn.noYield fn) (h1 : VRs K xs vs.toList) (h2 : VRs K ys us.toList) : VR K (.func fn xs ys) (.func fn vs us) := by
  have key : ∀ {xs : List AV} {vs : Array Value}, VRs K xs vs.toList → ∀ (i : Nat) x, xs[i]? = some x → VR K x (vs.getD i undef) := by
    intro xs vs h i x hx
    obtain ⟨v, hv, hr⟩ := h.get hx
    rw [getD_toList, List.getD_eq_getElem?_getD, hv]; exact hr
  exact .func hn (by simpa using h1.1) (by simpa using h2.1) (key h1) (key h2)

/-- An operation that gives a value and leaves the world. -/
theorem opv_of {P : Program} {N : Nat} {o : Oper} {σ : St} {x : AV} (h : ∀ K a, SR K N σ a → ∃ v, (execOp a.eval o).run P K.w = .ok (.value v) K.w ∧ VR K x v) : OpV P N o σ x σ.h σ.n :=
  fun K a hs => let ⟨v, h1, h2⟩ := h K a hs; ⟨v, K, .inl h1, hs.next, hs.rel, .refl _ _, h2⟩
theorem run_v {P : Program} {s : Sem Value} {w w' : World} {v : Value} (h : s.run P w = .ok v w') : (do pure (Next.value (← s)) : Sem Next).run P w = .ok (.value v) w' := by
  rw [run_bindv h]; rfl

theorem vptr_cells {K : Ctx} {cells : List AV} {v : Value} (h : VR K (.vptr cells) v) : ∃ blk off vs, v = .pointer (some ⟨blk, off, none⟩) ∧ K.ro blk ∧ VRs K cells vs ∧ ∀ (j : Nat) u, vs[j]? = some u → K.w.cell? ⟨blk, off + j, none⟩ = some u := by
  cases h with
  | @vptr cells blk off f hr hc hv =>
    refine ⟨blk, off, (List.range cells.length).map f, rfl, hr, ⟨by simp, fun i x v hx hv' => ?_⟩, fun j u hu => ?_⟩
    · have hi : i < cells.length := (List.getElem?_eq_some_iff.1 hx).1
      simp [hi] at hv'
      subst hv'
      exact hv i x hx
    · by_cases hj : j < cells.length
      · simp [hj] at hu; subst hu; exact hc j hj
      · simp [hj] at hu
theorem vptr_mk {K : Ctx} {cells : List AV} {blk off : Nat} {vs : List Value} (hr : K.ro blk) (hv : VRs K cells vs) (hc : ∀ (j : Nat) u, vs[j]? = some u → K.w.cell? ⟨blk, off + j, none⟩ = some u) : VR K (.vptr cells) (.pointer (some ⟨blk, off, none⟩)) := by
  refine .vptr (fun j => vs.getD j undef) hr (fun j hj => ?_) (fun j x hx => ?_)
  · have hj' : j < vs.length := by rw [hv.1]; exact hj
    rw [List.getD_eq_getElem?_getD, List.getElem?_eq_getElem hj']
    exact hc j _ (List.getElem?_eq_getElem hj')
  · obtain ⟨v, h1, h2⟩ := hv.get hx
    simp only [List.getD_eq_getElem?_getD, h1]; exact h2
theorem vptr_drop {K : Ctx} {cells : List AV} {blk off n : Nat} (h : VR K (.vptr cells) (.pointer (some ⟨blk, off, none⟩))) : VR K (.vptr (cells.drop n)) (.pointer (some ⟨blk, off + n, none⟩)) := by
  obtain ⟨b, o, vs, e, hr, hv, hc⟩ := vptr_cells h
  cases e
  exact vptr_mk hr (hv.drop n) (fun j u hu => by rw [List.getElem?_drop] at hu; rw [Nat.add_assoc]; exact hc _ u hu)


theorem VR.bool_inv {K : Ctx} {b : Bool} {v : Value} (h : VR K (.bool b) v) : v = .bool b := by cases h; rfl
theorem VR.int_inv {K : Ctx} {k : IntKind} {n : Int} {v : Value} (h : VR K (.int k n) v) : v = .int k n := by cases h; rfl
theorem VR.agg_inv {K : Ctx} {xs : List AV} {v : Value} (h : VR K (.agg xs) v) : ∃ vs, v = .agg vs ∧ VRs K xs vs.toList := by
  cases v with
  | agg vs => exact ⟨vs, rfl, VR.agg_.1 h⟩
  | _ => cases h
theorem VR.tuple_inv {K : Ctx} {xs : List AV} {v : Value} (h : VR K (.tuple xs) v) : ∃ vs, v = .tuple vs ∧ VRs K xs vs.toList := by
  cases v with
  | tuple vs => exact ⟨vs, rfl, VR.tuple_.1 h⟩
  | _ => cases h
theorem VR.str_inv {K : Ctx} {s : List UInt8} {v : Value} (h : VR K (.str s) v) : ∃ b : ByteArray, v = .string b ∧ b.data.toList = s := by cases h; exact ⟨_, rfl, rfl⟩
theorem VR.ptr_inv {K : Ctx} {id off : Nat} {v : Value} (h : VR K (.ptr id off) v) : v = .pointer (some ⟨K.base id, K.boff id + off, none⟩) ∧ id < K.next := by cases h; exact ⟨rfl, by assumption⟩

section parts
variable {P : Program} {T : TT} (hT : TOK P T) {K : Ctx}
include hT
omit hT in
theorem p_un {op : UnOp} {x y : AV} {v : Value} (h : pvUn op x = some y) (hv : VR K x v) : ∃ u, (Op.unary op v).run P K.w = .ok u K.w ∧ VR K y u := by
  unfold pvUn at h
  split at h
  · obtain rfl := Option.some.inj h; obtain rfl := hv.bool_inv; exact ⟨_, rfl, .bool _⟩
  · obtain rfl := Option.some.inj h; obtain rfl := hv.int_inv; exact ⟨_, rfl, .int _ _⟩
  · cases h
theorem p_conv {s d : TypeId} {x y : AV} {v : Value} (h : pvConv T s d x = some y) (hv : VR K x v) : ∃ u, (convert s d v).run P K.w = .ok u K.w ∧ VR K y u := by
  unfold pvConv at h
  split at h
  · rename_i i j hi hj
    have h1 := r_und hT hi K.w
    have h2 := r_und hT hj K.w
    unfold convert
    rw [run_bindv h1, run_bindv h2]
    split at h
    · rename_i hd
      obtain rfl := Option.some.inj h; obtain rfl := hv.int_inv
      rw [hd]
      refine ⟨_, ?_, .int _ _⟩
      cases i.desc <;> rfl
    · rename_i hd
      obtain rfl := Option.some.inj h; obtain ⟨b, rfl, rfl⟩ := hv.str_inv
      rw [hd]
      refine ⟨.string b, ?_, .str _⟩
      cases i.desc <;> rfl
    · cases h
  · cases h
omit hT in
theorem p_extract {i : Nat} {x y : AV} {v : Value} (h : pvExtract i x = some y) (hv : VR K x v) : ∃ u, (Instr.extract v i).run P K.w = .ok u K.w ∧ VR K y u := by
  unfold pvExtract at h
  split at h
  · obtain ⟨us, rfl, hus⟩ := hv.tuple_inv
    obtain ⟨u, h1, h2⟩ := hus.get h
    rw [Array.getElem?_toList] at h1
    exact ⟨u, by simp [Instr.extract, h1], h2⟩
  · cases h
omit hT in
theorem field_of {t : TypeId} {f : Nat} {fd : Field} {fi : TI} (h : fieldOf T t f = some (fd, fi)) : ∃ i fs, T t = some i ∧ i.desc = .struct fs ∧ fs[f]? = some fd ∧ T fd.type = some fi := by
  unfold fieldOf at h
  split at h
  · rename_i i hi
    split at h
    · rename_i fs hd
      split at h
      · rename_i fd' hf
        split at h
        · rename_i fi' hfi
          cases h
          exact ⟨i, fs, hi, hd, hf, hfi⟩
        · cases h
      · cases h
    · cases h
  · cases h
theorem p_field {t : TypeId} {f : Nat} {x y : AV} {v : Value} (h : pvField T t f x = some y) (hv : VR K x v) : ∃ u, (Instr.field t v f).run P K.w = .ok u K.w ∧ VR K y u := by
  unfold pvField at h
  split at h
  · rename_i fd fi cs hfo
    obtain ⟨i, fs, hi, hd, hf, hfi⟩ := field_of hfo
    obtain ⟨us, rfl, hus⟩ := hv.agg_inv
    obtain ⟨u, h1, h2⟩ := r_part hT hfi hus h
    refine ⟨u, ?_, h2⟩
    unfold Instr.field
    have hu := r_und hT hi K.w
    rw [hd] at hu
    rw [run_bindv hu]
    simp only [hf]
    rw [run_bindv (a := us) (w' := K.w) (by rfl)]
    exact h1
  · cases h
theorem r_fieldAt {t : TypeId} {f : Nat} {fd : Field} {fi : TI} (h : fieldOf T t f = some (fd, fi)) (hz : fi.size ≠ 0) (blk off : Nat) (w : World) :
    (Instr.fieldAt t (.pointer (some ⟨blk, off, none⟩)) f).run P w = .ok (.pointer (some ⟨blk, off + fd.offset, none⟩)) w := by
  obtain ⟨i, fs, hi, hd, hf, hfi⟩ := field_of h
  have hu := r_und hT hi w
  rw [hd] at hu
  unfold Instr.fieldAt
  rw [run_bindv hu]
  simp only [hf]
  rw [run_bindv (a := ⟨blk, off, none⟩) (w' := w) (by rfl)]
  have : (fieldPlace ⟨blk, off, none⟩ fd).run P w = .ok ⟨blk, off + fd.offset, none⟩ w := by
    unfold fieldPlace
    rw [run_bindv (r_size hT hfi w), if_neg hz, add_plain]
    rfl
  rw [run_bindv this]
  rfl
theorem p_fieldAddr {t : TypeId} {f : Nat} {x y : AV} {v : Value} (h : pvFieldAddr T t f x = some y) (hv : VR K x v) : ∃ u, (Instr.fieldAt t v f).run P K.w = .ok u K.w ∧ VR K y u := by
  unfold pvFieldAddr at h
  split at h
  · rename_i fd fi hfo
    split at h
    · cases h
    · rename_i hz
      split at h
      · obtain rfl := Option.some.inj h
        obtain ⟨blk, off, vs, rfl, _⟩ := vptr_cells hv
        exact ⟨_, r_fieldAt hT hfo hz _ _ _, vptr_drop hv⟩
      · obtain rfl := Option.some.inj h
        obtain ⟨rfl, hid⟩ := hv.ptr_inv
        exact ⟨_, r_fieldAt hT hfo hz _ _ _, by rw [Nat.add_assoc]; exact .ptr hid⟩
      · cases h
  · cases h
theorem p_load {t : TypeId} {x y : AV} {v : Value} (h : pvLoad T t x = some y) (hv : VR K x v) : ∃ u, (Instr.loadAt t v).run P K.w = .ok u K.w ∧ VR K y u := by
  unfold pvLoad at h
  split at h
  · rename_i i cells hi
    obtain ⟨blk, off, vs, rfl, _, hvs, hc⟩ := vptr_cells hv
    obtain ⟨u, h1, h2⟩ := r_loadVar hT hi hvs hc h
    refine ⟨u, ?_, h2⟩
    unfold Instr.loadAt
    rw [run_bindv (a := ⟨blk, off, none⟩) (w' := K.w) (by rfl)]
    exact h1
  · cases h
theorem p_iface {t : TypeId} {x y : AV} {v : Value} (h : pvIface T t x = some y) (hv : VR K x v) : ∃ u, (Instr.makeInterface t v).run P K.w = .ok u K.w ∧ VR K y u := by
  unfold pvIface at h
  split at h
  · rename_i i hi
    split at h
    · cases h
    · rename_i hni
      obtain rfl := Option.some.inj h
      refine ⟨.iface t v, ?_, .iface hv⟩
      unfold Instr.makeInterface
      rw [run_bindv (r_und hT hi K.w)]
      cases hd : i.desc <;> first | rfl | (rw [hd] at hni; exact absurd rfl hni)
  · cases h
theorem p_len {t ty : TypeId} {x y : AV} {v : Value} (h : pvLen T t x = some y) (hv : VR K x v) : ∃ u, (Builtin.len_ #[t] ty #[v]).run P K.w = .ok u K.w ∧ VR K y u := by
  unfold pvLen at h
  split at h
  · rename_i i hi
    split at h
    · rename_i n hn
      obtain rfl := Option.some.inj h
      refine ⟨.int .i64 n, ?_, .int _ _⟩
      have hu := r_und hT hi K.w
      unfold Builtin.len_
      simp only [List.getElem?_toArray, List.getElem?_cons_zero]
      rw [run_bindv hu]
      unfold lenA at hn
      split at hn <;> first | (obtain rfl := Option.some.inj hn) | cases hn
      · rename_i hd
        obtain ⟨b, rfl, rfl⟩ := hv.str_inv
        rw [hd]
        show Result.ok (goInt b.size) K.w = _
        simp [goInt]
      · rename_i hd; rw [hd]; cases hv; rfl
      · rename_i hd; rw [hd]; cases hv; rfl
      · rename_i hd; rw [hd]; cases hv; rfl
      · rename_i hd; rw [hd]; rfl
    · cases h
  · cases h
end parts

theorem pv_sound {P : Program} {T : TT} (hT : TOK P T) {N : Nat} {o : Oper} {σ : St} {x : AV} (h : pv T σ.tm o.op = some x) : OpV P N o σ x σ.h σ.n := by
  refine opv_of fun K a hs => ?_
  have ev := fun {x : Operand} {y : AV} (h : evo σ.tm x = some y) => evo_sound (x := x) hs.tr h
  unfold execOp
  cases hop : o.op <;> rw [hop] at h <;> simp only [pv, Option.bind_eq_some_iff] at h <;> try contradiction
  case move => exact ⟨_, rfl, ev h⟩
  case assign => exact ⟨_, rfl, ev h⟩
  case pick =>
    obtain ⟨c, hc, p, hp, q, hq, h⟩ := h
    unfold pvPick at h
    split at h <;> first | (obtain rfl := Option.some.inj h) | cases h
    · refine ⟨_, ?_, ev hp⟩; simp only [(ev hc).bool_inv]; rfl
    · refine ⟨_, ?_, ev hq⟩; simp only [(ev hc).bool_inv]; rfl
  case binOp =>
    obtain ⟨p, hp, q, hq, h⟩ := h
    obtain ⟨v, hr, hv⟩ := run_binv hT h (ev hp) (ev hq) _ _
    exact ⟨v, run_v hr, hv⟩
  case unOp => obtain ⟨p, hp, h⟩ := h; obtain ⟨v, hr, hv⟩ := p_un h (ev hp); exact ⟨v, run_v hr, hv⟩
  case convert => obtain ⟨p, hp, h⟩ := h; obtain ⟨v, hr, hv⟩ := p_conv hT h (ev hp); exact ⟨v, run_v hr, hv⟩
  case extract => obtain ⟨p, hp, h⟩ := h; obtain ⟨v, hr, hv⟩ := p_extract h (ev hp); exact ⟨v, run_v hr, hv⟩
  case field => obtain ⟨p, hp, h⟩ := h; obtain ⟨v, hr, hv⟩ := p_field hT h (ev hp); exact ⟨v, run_v hr, hv⟩
  case fieldAddr => obtain ⟨p, hp, h⟩ := h; obtain ⟨v, hr, hv⟩ := p_fieldAddr hT h (ev hp); exact ⟨v, run_v hr, hv⟩
  case load => obtain ⟨p, hp, h⟩ := h; obtain ⟨v, hr, hv⟩ := p_load hT h (ev hp); exact ⟨v, run_v hr, hv⟩
  case makeInterface => obtain ⟨p, hp, h⟩ := h; obtain ⟨v, hr, hv⟩ := p_iface hT h (ev hp); exact ⟨v, run_v hr, hv⟩
  case nilCheck =>
    obtain ⟨p, hp, h⟩ := h
    have hv := ev hp
    unfold pvNil at h
    split at h <;> first | (obtain rfl := Option.some.inj h) | cases h
    · obtain ⟨blk, off, vs, e, _⟩ := vptr_cells hv
      exact ⟨_, by simp only [e]; rfl, by rw [← e]; exact hv⟩
    · obtain ⟨e, hid⟩ := hv.ptr_inv
      exact ⟨_, by simp only [e]; rfl, by rw [← e]; exact hv⟩
    · rename_i y _ f p q
      generalize hh : a.eval y = u at hv
      refine ⟨u, ?_, hv⟩
      cases hv
      simp only [hh]; rfl
  case makeFunc =>
    split at h
    · rename_i hy
      simp only [Option.bind_eq_some_iff] at h
      obtain ⟨xs, h1, ys, h2, h⟩ := h
      obtain rfl := Option.some.inj h
      have g1 := evs_sound hs.tr h1
      have g2 := evs_sound hs.tr h2
      refine ⟨_, run_v rfl, VRs.func ?_ (by simpa using g1) (by simpa using g2)⟩
      rename_i fn _ _
      cases fn <;> first | trivial | cases hy
    · cases h
  case call c =>
    unfold pvCall at h
    split at h
    · simp only [Option.bind_eq_some_iff] at h
      obtain ⟨p, hp, h⟩ := h
      obtain ⟨v, hr, hv⟩ := p_len hT (ty := o.type) h (ev hp)
      refine ⟨v, ?_, hv⟩
      simp only [resolve, List.map_toArray, List.map_cons, List.map_nil]
      rw [run_bindv (run_purev _ _)]
      unfold invoke
      simp only [builtin]
      rw [run_bindv hr]; rfl
    · cases h
end Go.Lg
