/- Pure operations: a function that gives their abstract value, and that the machine gives the same. -/
import Derived.Test.YtlmighkbeacjnaaLg3
import Derived.Laws.Entries
import Derived.KernelRfl
import Derived.Laws.Strings
set_option linter.unusedVariables false
set_option linter.unusedSimpArgs false
set_option linter.unusedSectionVars false
namespace Go.Lg
open Go

/-- What is known of a type. -/
structure TI where
  desc : TypeDesc
  size : Nat
  bytes : Nat
  zero : List AV
abbrev TT := TypeId → Option TI
def isAggD : TypeDesc → Bool
  | .struct _ | .array _ _ => true
  | _ => false
structure TOK (P : Program) (T : TT) : Prop where
  und : ∀ t i, T t = some i → P.underlying t = some i.desc
  info : ∀ t i, T t = some i → ∃ ti z, P.info? t = some ti ∧ ti.size = i.size ∧ ti.bytes = i.bytes ∧ ti.zero = some z ∧ z.cells.size = i.size ∧ (isAggD i.desc = true → z = .agg z.cells) ∧ ∀ K, VRs K i.zero z.cells.toList
  nagg : ∀ t i, T t = some i → isAggD i.desc = false → ∃ ti z, P.info? t = some ti ∧ ti.zero = some z ∧ z.cells = #[z]

theorem run_bindv {α β : Type} {P : Program} {x : Sem α} {f : α → Sem β} {w w' : World} {a : α} (h : x.run P w = .ok a w') : (x >>= f).run P w = (f a).run P w' := by
  rw [Sem.run_bind, h]; rfl
theorem run_bindp {α β : Type} {P : Program} {x : Sem α} {f : α → Sem β} {w w' : World} {e : Halt} (h : x.run P w = .halt e w') : (x >>= f).run P w = .halt e w' := by
  rw [Sem.run_bind, h]; rfl
theorem run_purev {α : Type} {P : Program} (a : α) (w : World) : (pure a : Sem α).run P w = .ok a w := rfl
section types
variable {P : Program} {T : TT} (hT : TOK P T) {t : TypeId} {i : TI} (ht : T t = some i) (w : World)
include hT ht
theorem r_und : (underlying t).run P w = .ok i.desc w := run_underlying (hT.und t i ht) w
theorem r_size : (sizeOf t).run P w = .ok i.size w := by
  obtain ⟨ti, z, h1, h2, _⟩ := hT.info t i ht
  simp [sizeOf, typeInfo, program, Sem.run, h1, h2]
theorem r_zero : ∃ z, (zeroValue t).run P w = .ok z w ∧ z.cells.size = i.size ∧ (isAggD i.desc = true → z = .agg z.cells) ∧ ∀ K, VRs K i.zero z.cells.toList := by
  obtain ⟨ti, z, h1, h2, h3, h4, h5, h6, h7⟩ := hT.info t i ht
  exact ⟨z, by simp [zeroValue, typeInfo, program, Sem.run, h1, h4], h5, h6, h7⟩
theorem r_isAgg : (isAgg t).run P w = .ok (isAggD i.desc) w := by
  unfold isAgg
  rw [run_bindv (r_und hT ht w)]
  unfold isAggD
  split <;> simp_all <;> rfl
end types

def cval : Value → Option AV
  | .bool b => some (.bool b)
  | .int k n => some (.int k n)
  | .string s => some (.str s.data.toList)
  | .slice none 0 0 => some .empty
  | .pointer none => some .nilptr
  | .nilFunc => some .nilFunc
  | .nilIface => some .nilIface
  | .iface t (.int k n) => some (.iface t (.int k n))
  | .map none => some .any
  | _ => none
theorem view_nil (K : Ctx) : VR K (.view []) (.slice none 0 0) := .view (rows := []) (esz := 0) (fun _ _ => undef) (Nat.le_refl _) (by simp) (by simp) (by simp)
theorem cval_sound {K : Ctx} {v : Value} {x : AV} (h : cval v = some x) : VR K x v := by
  unfold cval at h
  split at h <;> first | (obtain rfl := Option.some.inj h) | cases h
  · exact .bool _
  · exact .int _ _
  · exact .str _
  · exact .empty _
  · exact .nilptr
  · exact .nilFunc
  · exact .nilIface
  · exact .iface (.int _ _)
  · exact .any _

def evo (tm : Nat → AV) : Operand → Option AV
  | .tmp t => some (tm t)
  | .const v => cval v
  | .func f => some (.func (.func f) [] [])
  | .global _ => none
theorem evo_sound {K : Ctx} {N : Nat} {tm : Nat → AV} {a : Act} {x : Operand} {y : AV} (hr : TR K N tm a.tmps) (h : evo tm x = some y) : VR K y (a.eval x) := by
  cases x with
  | tmp t => obtain rfl := Option.some.inj h; exact hr.2 t
  | const v => exact cval_sound h
  | func f => obtain rfl := Option.some.inj h; exact .func trivial rfl rfl (by simp) (by simp)
  | global g => simp [evo] at h
def evs (tm : Nat → AV) : List Operand → Option (List AV)
  | [] => some []
  | x :: r => match evo tm x, evs tm r with
    | some y, some ys => some (y :: ys)
    | _, _ => none
theorem evs_sound {K : Ctx} {N : Nat} {tm : Nat → AV} {a : Act} (hr : TR K N tm a.tmps) : ∀ {xs : List Operand} {ys : List AV}, evs tm xs = some ys → VRs K ys (xs.map a.eval)
  | [], ys, h => by obtain rfl := Option.some.inj h; exact VRs.nil K
  | x :: r, ys, h => by
    unfold evs at h
    split at h
    · rename_i y ys' h1 h2
      obtain rfl := Option.some.inj h
      exact .cons (evo_sound hr h1) (evs_sound hr h2)
    · cases h

def intop (op : BinOp) (k : IntKind) (a b : Int) : Option AV :=
  match op with
  | .add => some (.int k (k.wrap (a + b)))
  | .sub => some (.int k (k.wrap (a - b)))
  | .mul => some (.int k (k.wrap (a * b)))
  | .quo => if b = 0 then none else some (.int k (k.wrap (a.tdiv b)))
  | .rem => if b = 0 then none else some (.int k (a.tmod b))
  | .and => some (.int k (k.wrap (BitVec.ofInt k.bits a &&& BitVec.ofInt k.bits b).toNat))
  | .or => some (.int k (k.wrap (BitVec.ofInt k.bits a ||| BitVec.ofInt k.bits b).toNat))
  | .xor => some (.int k (k.wrap (BitVec.ofInt k.bits a ^^^ BitVec.ofInt k.bits b).toNat))
  | .eql => some (.bool (a == b))
  | .neq => some (.bool (a != b))
  | .lss => some (.bool (decide (a < b)))
  | .leq => some (.bool (decide (a ≤ b)))
  | .gtr => some (.bool (decide (a > b)))
  | .geq => some (.bool (decide (a ≥ b)))
  | _ => none
def binv (T : TT) (op : BinOp) (t : TypeId) (x y : AV) : Option AV :=
  match x, y with
  | .int k a, .int k' b =>
    match op with
    | .shl => if b < 0 then none else some (.int k (k.wrap (a * 2 ^ (min b.toNat k.bits))))
    | .shr => if b < 0 then none else some (.int k (a.fdiv (2 ^ (min b.toNat k.bits))))
    | _ => if k = k' then intop op k a b else none
  | .str a, .str b =>
    match op with
    | .eql => some (.bool (a == b))
    | .neq => some (.bool !(a == b))
    | _ => none
  | .bool a, .bool b =>
    match (T t).map (·.desc) with
    | some TypeDesc.bool => match op with
      | .eql => some (.bool (a == b))
      | .neq => some (.bool !(a == b))
      | _ => none
    | _ => none
  | .nilIface, .iface _ _ | .iface _ _, .nilIface =>
    match (T t).map (·.desc) with
    | some (TypeDesc.interface _) => match op with
      | .eql => some (.bool false)
      | .neq => some (.bool true)
      | _ => none
    | _ => none
  | _, _ => none
theorem desc_of {T : TT} {t : TypeId} {d : TypeDesc} (h : (T t).map (·.desc) = some d) : ∃ i, T t = some i ∧ i.desc = d := by
  cases hh : T t with
  | none => simp [hh] at h
  | some i => exact ⟨i, rfl, by simpa [hh] using h⟩
theorem guard_int (P : Program) (op : BinOp) (t : TypeId) (x y : Operand) (a b : Value) (w : World) (ha : ∀ cs, a ≠ .agg cs) (hab : a ≠ .nilIface ∨ b ≠ .nilIface) : (eqGuard op t x y a b).run P w = .ok () w := by
  unfold eqGuard
  cases op <;> first
    | rfl
    | (cases a <;> cases b <;> first | rfl | (exact absurd rfl (ha _)) | (rcases hab with h | h <;> exact absurd rfl h))
theorem run_intop {P : Program} {op : BinOp} {t : TypeId} {k : IntKind} {a b : Int} {x : AV} (h : intop op k a b = some x) (w : World) :
    ∃ v, (binOp op t (.int k a) (.int k b)).run P w = .ok v w ∧ ∀ K, VR K x v := by
  cases op <;> simp only [intop] at h
  case add => obtain rfl := Option.some.inj h; exact ⟨_, by simp [binOp, Op.intArith], fun K => .int _ _⟩
  case sub => obtain rfl := Option.some.inj h; exact ⟨_, by simp [binOp, Op.intArith], fun K => .int _ _⟩
  case mul => obtain rfl := Option.some.inj h; exact ⟨_, by simp [binOp, Op.intArith], fun K => .int _ _⟩
  case quo =>
    split at h
    · cases h
    · rename_i hb
      obtain rfl := Option.some.inj h
      exact ⟨_, by simp [binOp, Op.intDiv, hb], fun K => .int _ _⟩
  case rem =>
    split at h
    · cases h
    · rename_i hb
      obtain rfl := Option.some.inj h
      exact ⟨_, by simp [binOp, Op.intDiv, hb], fun K => .int _ _⟩
  case and => obtain rfl := Option.some.inj h; exact ⟨_, by simp [binOp, Op.intBits], fun K => .int _ _⟩
  case or => obtain rfl := Option.some.inj h; exact ⟨_, by simp [binOp, Op.intBits], fun K => .int _ _⟩
  case xor => obtain rfl := Option.some.inj h; exact ⟨_, by simp [binOp, Op.intBits], fun K => .int _ _⟩
  case eql => obtain rfl := Option.some.inj h; exact ⟨_, by simp [binOp, Op.intCmp], fun K => .bool _⟩
  case neq => obtain rfl := Option.some.inj h; exact ⟨_, by simp [binOp, Op.intCmp], fun K => .bool _⟩
  case lss => obtain rfl := Option.some.inj h; exact ⟨_, by simp [binOp, Op.intCmp], fun K => .bool _⟩
  case leq => obtain rfl := Option.some.inj h; exact ⟨_, by simp [binOp, Op.intCmp], fun K => .bool _⟩
  case gtr => obtain rfl := Option.some.inj h; exact ⟨_, by simp [binOp, Op.intCmp], fun K => .bool _⟩
  case geq => obtain rfl := Option.some.inj h; exact ⟨_, by simp [binOp, Op.intCmp], fun K => .bool _⟩
  all_goals cases h
theorem run_eql {P : Program} {t : TypeId} {x y : Value} {b : Bool} {w : World} (h : ∀ d, (Op.equalIn (d + 1) t x y).run P w = .ok b w) : (Op.equal t x y).run P w = .ok b w := h 9999
theorem run_eqbin {P : Program} {t : TypeId} {x y : Value} {b : Bool} {w : World} (h : ∀ d, (Op.equalIn (d + 1) t x y).run P w = .ok b w)
    (he : binOp .eql t x y = (do pure (.bool (← Op.equal t x y)))) : (binOp .eql t x y).run P w = .ok (.bool b) w := by
  rw [he, run_bindv (run_eql h)]; rfl
theorem run_nebin {P : Program} {t : TypeId} {x y : Value} {b : Bool} {w : World} (h : ∀ d, (Op.equalIn (d + 1) t x y).run P w = .ok b w)
    (he : binOp .neq t x y = (do pure (.bool (!(← Op.equal t x y))))) : (binOp .neq t x y).run P w = .ok (.bool !b) w := by
  rw [he, run_bindv (run_eql h)]; rfl
theorem run_binv {P : Program} {T : TT} (hT : TOK P T) {op : BinOp} {t : TypeId} {x y z : AV} (h : binv T op t x y = some z) {K : Ctx} {a b : Value} (ha : VR K x a) (hb : VR K y b) (xo yo : Operand) :
    ∃ v, (do eqGuard op t xo yo a b; binOp op t a b : Sem Value).run P K.w = .ok v K.w ∧ VR K z v := by
  unfold binv at h
  split at h
  · cases ha; cases hb
    rw [run_bindv (guard_int P op t xo yo _ _ K.w (by simp) (.inl (by simp)))]
    split at h
    · split at h
      · cases h
      · rename_i hneg; obtain rfl := Option.some.inj h
        exact ⟨_, by simp [binOp, Op.shift, hneg], .int _ _⟩
    · split at h
      · cases h
      · rename_i hneg; obtain rfl := Option.some.inj h
        exact ⟨_, by simp [binOp, Op.shift, hneg], .int _ _⟩
    · split at h
      · rename_i hk; subst hk
        obtain ⟨v, h1, h2⟩ := run_intop (P := P) (t := t) h K.w
        exact ⟨v, h1, h2 K⟩
      · cases h
  · cases ha with
    | str s1 => cases hb with
      | str s2 =>
        rw [run_bindv (guard_int P op t xo yo _ _ K.w (by simp) (.inl (by simp)))]
        have e : ∀ s : ByteArray, s.toList = s.data.toList := fun s => ByteArray.toList_eq s
        split at h <;> first | (obtain rfl := Option.some.inj h; exact ⟨_, by simp only [binOp, Op.stringOp, e]; rfl, .bool _⟩) | cases h
  · cases ha; cases hb
    rw [run_bindv (guard_int P op t xo yo _ _ K.w (by simp) (.inl (by simp)))]
    split at h
    · rename_i hd
      obtain ⟨i, hi, hid⟩ := desc_of hd
      have hu := r_und hT hi K.w
      rw [hid] at hu
      split at h <;> first | (obtain rfl := Option.some.inj h; exact ⟨_, run_eqbin (fun d => by unfold Op.equalIn; rw [run_bindv hu]; rfl) rfl, .bool _⟩) | (obtain rfl := Option.some.inj h; exact ⟨_, run_nebin (fun d => by unfold Op.equalIn; rw [run_bindv hu]; rfl) rfl, .bool _⟩) | cases h
    · cases h
  · cases ha; cases hb
    rw [run_bindv (guard_int P op t xo yo _ _ K.w (by simp) (.inr (by simp)))]
    split at h
    · rename_i hd
      obtain ⟨i, hi, hid⟩ := desc_of hd
      have hu := r_und hT hi K.w
      rw [hid] at hu
      split at h <;> first | (obtain rfl := Option.some.inj h; exact ⟨_, run_eqbin (fun d => by unfold Op.equalIn; rw [run_bindv hu]; rfl) rfl, .bool _⟩) | (obtain rfl := Option.some.inj h; exact ⟨_, run_nebin (fun d => by unfold Op.equalIn; rw [run_bindv hu]; rfl) rfl, .bool _⟩) | cases h
    · cases h
  · cases ha; cases hb
    rw [run_bindv (guard_int P op t xo yo _ _ K.w (by simp) (.inl (by simp)))]
    split at h
    · rename_i hd
      obtain ⟨i, hi, hid⟩ := desc_of hd
      have hu := r_und hT hi K.w
      rw [hid] at hu
      split at h <;> first | (obtain rfl := Option.some.inj h; exact ⟨_, run_eqbin (fun d => by unfold Op.equalIn; rw [run_bindv hu]; rfl) rfl, .bool _⟩) | (obtain rfl := Option.some.inj h; exact ⟨_, run_nebin (fun d => by unfold Op.equalIn; rw [run_bindv hu]; rfl) rfl, .bool _⟩) | cases h
    · cases h
  · cases h
end Go.Lg
